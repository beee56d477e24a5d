/-
  Texts of this proof, one behind the other: BoundEndsW.
-/
import Derived.Test.YtalnhdfgjjhhbaaGreatP4
/- Chapter 20: where the least and the greatest value may be. -/
namespace Go.Proofs.YtalnhdfgjjhhbaaGreat
open Go.ChangeShapes Go.WideShapes Go.ChangeAt Go.RowKit
set_option linter.unusedVariables false
set_option maxRecDepth 100000

theorem law_BoundEnds_no (l k K : Int) (r : List Nd) (A : Option Addr) (cap : Nat) (w : World) (h : ¬ goodL l k K r) (hS : Sl w w.heap.size encN A r) (hI : ints r) (hm : r.length ≤ maxLen) :
    Calls Tryz.prog 10 #[loadedV l k K A r.length cap] w fun e w' => e = .returned (.bool true) ∧ Below w.heap.size w w' := by
  have HC := Lib.hid (law16_Load_no · l k K A cap r h · hI hm)
  have HS := Lib.hid hS
  clear h hS
  unfold loadedV refDig at HC
  unfold loadedV
  go_enter Tryz.func10, Tryz.ntmps10
  go_wp2_with fail
  refine (HC.out _ (HS.out.keep (by simp) fun p hp => Go.RowKit.Below.cell (B := w.heap.size) (w := w) (by repeat (first | with_reducible exact Below.refl _ _ | with_reducible assumption | ((with_reducible refine Below.setCell ?_ ?_ _); rotate_left; · (first | omega | exact Nat.le_refl _ | (simp <;> omega))) | (with_reducible refine Below.allocW ?_ _) | (with_reducible refine Below.drew ?_) | (with_reducible refine Below.extW ?_ _))) hp)).mono ?_
  rintro e w1 ⟨rfl, hb1⟩
  have B1 : Below w.heap.size w w1 := Below.then_ (by repeat (first | with_reducible exact Below.refl _ _ | with_reducible assumption | ((with_reducible refine Below.setCell ?_ ?_ _); rotate_left; · (first | omega | exact Nat.le_refl _ | (simp <;> omega))) | (with_reducible refine Below.allocW ?_ _) | (with_reducible refine Below.drew ?_) | (with_reducible refine Below.extW ?_ _))) hb1
  have s1 : w.heap.size ≤ w1.heap.size := B1.size
  go_wp2_with fail
  refine (alive20 _).mono ?_
  rintro e w2 ⟨rfl, hb2⟩
  have B2 : Below w.heap.size w w2 := Below.then_ (by repeat (first | with_reducible exact Below.refl _ _ | with_reducible assumption | ((with_reducible refine Below.setCell ?_ ?_ _); rotate_left; · (first | omega | exact Nat.le_refl _ | (simp <;> omega))) | (with_reducible refine Below.allocW ?_ _) | (with_reducible refine Below.drew ?_) | (with_reducible refine Below.extW ?_ _))) hb2
  have s2 : w.heap.size ≤ w2.heap.size := B2.size
  go_wp2_with fail
  go_ret
  exact ⟨rfl, (by repeat (first | with_reducible exact Below.refl _ _ | with_reducible assumption | ((with_reducible refine Below.setCell ?_ ?_ _); rotate_left; · (first | omega | exact Nat.le_refl _ | (simp <;> omega))) | (with_reducible refine Below.allocW ?_ _) | (with_reducible refine Below.drew ?_) | (with_reducible refine Below.extW ?_ _)))⟩
set_option maxHeartbeats 1000000 in
theorem law_BoundEnds_yes (l K : Nat) (k : Int) (r : List Nd) (A : Option Addr) (cap : Nat) (w : World) (h : goodL l k K r) (hS : Sl w w.heap.size encN A r) (hI : ints r) :
    Calls Tryz.prog 10 #[loadedV l k K A r.length cap] w fun e w' => e = .returned (.bool true) ∧ Below w.heap.size w w' := by
  have hn : r.length ≤ 67108864 := by have := h.1; omega
  have hr := (goodL_parts h.2.2).1
  have hf := right_fits hr
  have HC := Lib.hid (law16_Load · l K k A cap r h · hI)
  have HS := Lib.hid hS
  have HI := Lib.hid hI
  clear h hS hr hI
  unfold loadedV refDig at HC
  unfold loadedV
  go_enter Tryz.func10, Tryz.ntmps10
  go_wp2_with fail
  refine (HC.out _ (HS.out.keep (by simp) fun p hp => Go.RowKit.Below.cell (B := w.heap.size) (w := w) (by repeat (first | with_reducible exact Below.refl _ _ | with_reducible assumption | ((with_reducible refine Below.setCell ?_ ?_ _); rotate_left; · (first | omega | exact Nat.le_refl _ | (simp <;> omega))) | (with_reducible refine Below.allocW ?_ _) | (with_reducible refine Below.drew ?_) | (with_reducible refine Below.extW ?_ _))) hp)).mono ?_
  rintro e w1 ⟨g, F, rfl, hD, _, hb1⟩
  have B1 : Below w.heap.size w w1 := Below.then_ (by repeat (first | with_reducible exact Below.refl _ _ | with_reducible assumption | ((with_reducible refine Below.setCell ?_ ?_ _); rotate_left; · (first | omega | exact Nat.le_refl _ | (simp <;> omega))) | (with_reducible refine Below.allocW ?_ _) | (with_reducible refine Below.drew ?_) | (with_reducible refine Below.extW ?_ _))) hb1
  have s1 : w.heap.size ≤ w1.heap.size := B1.size
  have hl := hD.l_le
  have KD := Lib.hid (hD.alloc (.cells #[.int .i64 k, .int .i64 l, .slice A r.length cap] 37))
  have HL := Lib.hid (bound_Least · g K l k r F · hn)
  have HG := Lib.hid (bound_Greatest · g K l k r F · hn)
  have HP := Lib.hid (bound_Spread · g K l k r F · hn)
  have HN := Lib.hid (digest_N · g K l k r F ·)
  unfold leastT at HL
  unfold mostT at HG
  unfold spreadT at HP
  unfold bothV at HL HG HP
  have hnd := hf.1.nodes hl
  clear hD
  by_cases h0 : sumR r = 0
  · rw [if_pos h0] at HL HG HP
    rw [h0] at HN
    simp only at HL HG HP
    clear h0 hf hnd hl
    go_wp2_with fail
    refine (HL.out _ KD.out).mono ?_
    rintro e w2 ⟨rfl, hb2⟩
    have B2 : Below w.heap.size w w2 := Below.then_ (by repeat (first | with_reducible exact Below.refl _ _ | with_reducible assumption | ((with_reducible refine Below.setCell ?_ ?_ _); rotate_left; · (first | omega | exact Nat.le_refl _ | (simp <;> omega))) | (with_reducible refine Below.allocW ?_ _) | (with_reducible refine Below.drew ?_) | (with_reducible refine Below.extW ?_ _))) hb2
    have s2 : w.heap.size ≤ w2.heap.size := B2.size
    have K2 := Lib.hid ((KD.out.below hb2).alloc (.cells #[.int .i64 0, .int .i64 0] 29))
    go_wp2_with fail
    refine (HG.out _ K2.out).mono ?_
    rintro e w3 ⟨rfl, hb3⟩
    have B3 : Below w.heap.size w w3 := Below.then_ (by repeat (first | with_reducible exact Below.refl _ _ | with_reducible assumption | ((with_reducible refine Below.setCell ?_ ?_ _); rotate_left; · (first | omega | exact Nat.le_refl _ | (simp <;> omega))) | (with_reducible refine Below.allocW ?_ _) | (with_reducible refine Below.drew ?_) | (with_reducible refine Below.extW ?_ _))) hb3
    have s3 : w.heap.size ≤ w3.heap.size := B3.size
    have z3_0 : w2.heap.size < w3.heap.size := by have := hb3.size; (try simp at this); omega
    have y3_0 : w2.heap.size ≤ w3.heap.size := Nat.le_of_lt z3_0
    have c3_0 := fun o => hb3.cell (p := ⟨w2.heap.size, o, none⟩) (by first | omega | (simp <;> omega))
    have f3_0 := fun o => hb3.frozen (p := ⟨w2.heap.size, o, none⟩) (by first | omega | (simp <;> omega))
    have K3 := Lib.hid ((K2.out.below hb3).alloc (.cells #[.int .i64 0, .int .i64 0] 29))
    go_wp2_with fail
    refine (HP.out _ K3.out).mono ?_
    rintro e w4 ⟨rfl, hb4⟩
    have B4 : Below w.heap.size w w4 := Below.then_ (by repeat (first | with_reducible exact Below.refl _ _ | with_reducible assumption | ((with_reducible refine Below.setCell ?_ ?_ _); rotate_left; · (first | omega | exact Nat.le_refl _ | (simp <;> omega))) | (with_reducible refine Below.allocW ?_ _) | (with_reducible refine Below.drew ?_) | (with_reducible refine Below.extW ?_ _))) hb4
    have s4 : w.heap.size ≤ w4.heap.size := B4.size
    have z4_0 : w2.heap.size < w4.heap.size := by have := hb4.size; (try simp at this); omega
    have y4_0 : w2.heap.size ≤ w4.heap.size := Nat.le_of_lt z4_0
    have c4_0 := fun o => hb4.cell (p := ⟨w2.heap.size, o, none⟩) (by first | omega | (simp <;> omega))
    have f4_0 := fun o => hb4.frozen (p := ⟨w2.heap.size, o, none⟩) (by first | omega | (simp <;> omega))
    have z4_1 : w3.heap.size < w4.heap.size := by have := hb4.size; (try simp at this); omega
    have y4_1 : w3.heap.size ≤ w4.heap.size := Nat.le_of_lt z4_1
    have c4_1 := fun o => hb4.cell (p := ⟨w3.heap.size, o, none⟩) (by first | omega | (simp <;> omega))
    have f4_1 := fun o => hb4.frozen (p := ⟨w3.heap.size, o, none⟩) (by first | omega | (simp <;> omega))
    have K4 := Lib.hid ((K3.out.below hb4).alloc (.cells #[.int .i64 0, .int .i64 0] 29))
    go_wp2_with fail
    refine (HN.out _ K4.out).mono ?_
    rintro e w5 ⟨rfl, hb5⟩
    have B5 : Below w.heap.size w w5 := Below.then_ (by repeat (first | with_reducible exact Below.refl _ _ | with_reducible assumption | ((with_reducible refine Below.setCell ?_ ?_ _); rotate_left; · (first | omega | exact Nat.le_refl _ | (simp <;> omega))) | (with_reducible refine Below.allocW ?_ _) | (with_reducible refine Below.drew ?_) | (with_reducible refine Below.extW ?_ _))) hb5
    have s5 : w.heap.size ≤ w5.heap.size := B5.size
    have z5_0 : w2.heap.size < w5.heap.size := by have := hb5.size; (try simp at this); omega
    have y5_0 : w2.heap.size ≤ w5.heap.size := Nat.le_of_lt z5_0
    have c5_0 := fun o => hb5.cell (p := ⟨w2.heap.size, o, none⟩) (by first | omega | (simp <;> omega))
    have f5_0 := fun o => hb5.frozen (p := ⟨w2.heap.size, o, none⟩) (by first | omega | (simp <;> omega))
    have z5_1 : w3.heap.size < w5.heap.size := by have := hb5.size; (try simp at this); omega
    have y5_1 : w3.heap.size ≤ w5.heap.size := Nat.le_of_lt z5_1
    have c5_1 := fun o => hb5.cell (p := ⟨w3.heap.size, o, none⟩) (by first | omega | (simp <;> omega))
    have f5_1 := fun o => hb5.frozen (p := ⟨w3.heap.size, o, none⟩) (by first | omega | (simp <;> omega))
    have z5_2 : w4.heap.size < w5.heap.size := by have := hb5.size; (try simp at this); omega
    have y5_2 : w4.heap.size ≤ w5.heap.size := Nat.le_of_lt z5_2
    have c5_2 := fun o => hb5.cell (p := ⟨w4.heap.size, o, none⟩) (by first | omega | (simp <;> omega))
    have f5_2 := fun o => hb5.frozen (p := ⟨w4.heap.size, o, none⟩) (by first | omega | (simp <;> omega))
    go_wp2_with fail
    refine (alive20 _).mono ?_
    rintro e w6 ⟨rfl, hb6⟩
    have B6 : Below w.heap.size w w6 := Below.then_ (by repeat (first | with_reducible exact Below.refl _ _ | with_reducible assumption | ((with_reducible refine Below.setCell ?_ ?_ _); rotate_left; · (first | omega | exact Nat.le_refl _ | (simp <;> omega))) | (with_reducible refine Below.allocW ?_ _) | (with_reducible refine Below.drew ?_) | (with_reducible refine Below.extW ?_ _))) hb6
    have s6 : w.heap.size ≤ w6.heap.size := B6.size
    go_wp2_with fail
    go_ret
    exact ⟨rfl, (by repeat (first | with_reducible exact Below.refl _ _ | with_reducible assumption | ((with_reducible refine Below.setCell ?_ ?_ _); rotate_left; · (first | omega | exact Nat.le_refl _ | (simp <;> omega))) | (with_reducible refine Below.allocW ?_ _) | (with_reducible refine Below.drew ?_) | (with_reducible refine Below.extW ?_ _)))⟩
  · rw [if_neg h0] at HL HG HP
    have hne : r ≠ [] := by rintro rfl; exact h0 rfl
    have hN0 : ((sumR r) == 0) = false := by simpa using h0
    have he := e4_ends hl.2 hnd hne
    have HR := Lib.hid (fun W (h : Sl W W.heap.size encN A r) => ref20_Ends W k l A cap r h HI.out hn)
    rw [he.1, he.2.1, he.2.2.1, he.2.2.2] at HR
    have b1 := least_bounds hl.2 hnd hne
    have b2 := most_bounds hl.2 hnd
    clear he
    generalize leastOf l r = a at HL HP HR b1
    generalize mostOf l r = b at HG HP HR b2
    obtain ⟨a1, a2⟩ := a
    obtain ⟨m1, m2⟩ := b
    simp only at b1 b2 HL HG HP HR
    clear h0 hf hnd hl hne
    go_wp2_with fail
    refine (HL.out _ KD.out).mono ?_
    rintro e w2 ⟨rfl, hb2⟩
    have B2 : Below w.heap.size w w2 := Below.then_ (by repeat (first | with_reducible exact Below.refl _ _ | with_reducible assumption | ((with_reducible refine Below.setCell ?_ ?_ _); rotate_left; · (first | omega | exact Nat.le_refl _ | (simp <;> omega))) | (with_reducible refine Below.allocW ?_ _) | (with_reducible refine Below.drew ?_) | (with_reducible refine Below.extW ?_ _))) hb2
    have s2 : w.heap.size ≤ w2.heap.size := B2.size
    have z2_0 : w1.heap.size < w2.heap.size := by have := hb2.size; (try simp at this); omega
    have y2_0 : w1.heap.size ≤ w2.heap.size := Nat.le_of_lt z2_0
    have c2_0 := fun o => hb2.cell (p := ⟨w1.heap.size, o, none⟩) (by first | omega | (simp <;> omega))
    have f2_0 := fun o => hb2.frozen (p := ⟨w1.heap.size, o, none⟩) (by first | omega | (simp <;> omega))
    have K2 := Lib.hid ((KD.out.below hb2).alloc (.cells #[.int .i64 a1, .int .i64 a2] 29))
    have r2 := blk_below (heap_alloc_new w1 (.cells #[.int .i64 k, .int .i64 l, .slice A r.length cap] 37)) hb2
    have R2 := Lib.hid r2
    go_wp2_with fail
    refine (HG.out _ K2.out).mono ?_
    rintro e w3 ⟨rfl, hb3⟩
    have B3 : Below w.heap.size w w3 := Below.then_ (by repeat (first | with_reducible exact Below.refl _ _ | with_reducible assumption | ((with_reducible refine Below.setCell ?_ ?_ _); rotate_left; · (first | omega | exact Nat.le_refl _ | (simp <;> omega))) | (with_reducible refine Below.allocW ?_ _) | (with_reducible refine Below.drew ?_) | (with_reducible refine Below.extW ?_ _))) hb3
    have s3 : w.heap.size ≤ w3.heap.size := B3.size
    have z3_0 : w2.heap.size < w3.heap.size := by have := hb3.size; (try simp at this); omega
    have y3_0 : w2.heap.size ≤ w3.heap.size := Nat.le_of_lt z3_0
    have c3_0 := fun o => hb3.cell (p := ⟨w2.heap.size, o, none⟩) (by first | omega | (simp <;> omega))
    have f3_0 := fun o => hb3.frozen (p := ⟨w2.heap.size, o, none⟩) (by first | omega | (simp <;> omega))
    have K3 := Lib.hid ((K2.out.below hb3).alloc (.cells #[.int .i64 m1, .int .i64 m2] 29))
    have R3 := Lib.hid (blk_below ((heap_new_lt w2 _ _ (lt_of_block R2.out)).trans R2.out) hb3)
    go_wp2_with fail
    refine (HP.out _ K3.out).mono ?_
    rintro e w4 ⟨rfl, hb4⟩
    have B4 : Below w.heap.size w w4 := Below.then_ (by repeat (first | with_reducible exact Below.refl _ _ | with_reducible assumption | ((with_reducible refine Below.setCell ?_ ?_ _); rotate_left; · (first | omega | exact Nat.le_refl _ | (simp <;> omega))) | (with_reducible refine Below.allocW ?_ _) | (with_reducible refine Below.drew ?_) | (with_reducible refine Below.extW ?_ _))) hb4
    have s4 : w.heap.size ≤ w4.heap.size := B4.size
    have z4_0 : w2.heap.size < w4.heap.size := by have := hb4.size; (try simp at this); omega
    have y4_0 : w2.heap.size ≤ w4.heap.size := Nat.le_of_lt z4_0
    have c4_0 := fun o => hb4.cell (p := ⟨w2.heap.size, o, none⟩) (by first | omega | (simp <;> omega))
    have f4_0 := fun o => hb4.frozen (p := ⟨w2.heap.size, o, none⟩) (by first | omega | (simp <;> omega))
    have z4_1 : w3.heap.size < w4.heap.size := by have := hb4.size; (try simp at this); omega
    have y4_1 : w3.heap.size ≤ w4.heap.size := Nat.le_of_lt z4_1
    have c4_1 := fun o => hb4.cell (p := ⟨w3.heap.size, o, none⟩) (by first | omega | (simp <;> omega))
    have f4_1 := fun o => hb4.frozen (p := ⟨w3.heap.size, o, none⟩) (by first | omega | (simp <;> omega))
    have K4 := Lib.hid ((K3.out.below hb4).alloc (.cells #[.int .i64 (max (m1 - a2) 0), .int .i64 (m2 - a1)] 29))
    have R4 := Lib.hid (blk_below ((heap_new_lt w3 _ _ (lt_of_block R3.out)).trans R3.out) hb4)
    go_wp2_with fail
    refine (HN.out _ K4.out).mono ?_
    rintro e w5 ⟨rfl, hb5⟩
    have B5 : Below w.heap.size w w5 := Below.then_ (by repeat (first | with_reducible exact Below.refl _ _ | with_reducible assumption | ((with_reducible refine Below.setCell ?_ ?_ _); rotate_left; · (first | omega | exact Nat.le_refl _ | (simp <;> omega))) | (with_reducible refine Below.allocW ?_ _) | (with_reducible refine Below.drew ?_) | (with_reducible refine Below.extW ?_ _))) hb5
    have s5 : w.heap.size ≤ w5.heap.size := B5.size
    have z5_0 : w2.heap.size < w5.heap.size := by have := hb5.size; (try simp at this); omega
    have y5_0 : w2.heap.size ≤ w5.heap.size := Nat.le_of_lt z5_0
    have c5_0 := fun o => hb5.cell (p := ⟨w2.heap.size, o, none⟩) (by first | omega | (simp <;> omega))
    have f5_0 := fun o => hb5.frozen (p := ⟨w2.heap.size, o, none⟩) (by first | omega | (simp <;> omega))
    have z5_1 : w3.heap.size < w5.heap.size := by have := hb5.size; (try simp at this); omega
    have y5_1 : w3.heap.size ≤ w5.heap.size := Nat.le_of_lt z5_1
    have c5_1 := fun o => hb5.cell (p := ⟨w3.heap.size, o, none⟩) (by first | omega | (simp <;> omega))
    have f5_1 := fun o => hb5.frozen (p := ⟨w3.heap.size, o, none⟩) (by first | omega | (simp <;> omega))
    have z5_2 : w4.heap.size < w5.heap.size := by have := hb5.size; (try simp at this); omega
    have y5_2 : w4.heap.size ≤ w5.heap.size := Nat.le_of_lt z5_2
    have c5_2 := fun o => hb5.cell (p := ⟨w4.heap.size, o, none⟩) (by first | omega | (simp <;> omega))
    have f5_2 := fun o => hb5.frozen (p := ⟨w4.heap.size, o, none⟩) (by first | omega | (simp <;> omega))
    have r5 := blk_below ((heap_new_lt w4 _ _ (lt_of_block R4.out)).trans R4.out) hb5
    have c5 := blk_cell r5
    have zr5 := lt_of_block r5
    have T5 := Lib.hid (HS.out.keep (B' := w5.heap.size) s5 fun p hp => B5.cell hp)
    clear r5
    go_wp2_with fail
    refine (HR.out _ T5.out).mono ?_
    rintro e w6 ⟨rfl, hb6⟩
    have B6 : Below w.heap.size w w6 := Below.then_ (by repeat (first | with_reducible exact Below.refl _ _ | with_reducible assumption | ((with_reducible refine Below.setCell ?_ ?_ _); rotate_left; · (first | omega | exact Nat.le_refl _ | (simp <;> omega))) | (with_reducible refine Below.allocW ?_ _) | (with_reducible refine Below.drew ?_) | (with_reducible refine Below.extW ?_ _))) hb6
    have s6 : w.heap.size ≤ w6.heap.size := B6.size
    have z6_0 : w2.heap.size < w6.heap.size := by have := hb6.size; (try simp at this); omega
    have y6_0 : w2.heap.size ≤ w6.heap.size := Nat.le_of_lt z6_0
    have c6_0 := fun o => hb6.cell (p := ⟨w2.heap.size, o, none⟩) (by first | omega | (simp <;> omega))
    have f6_0 := fun o => hb6.frozen (p := ⟨w2.heap.size, o, none⟩) (by first | omega | (simp <;> omega))
    have z6_1 : w3.heap.size < w6.heap.size := by have := hb6.size; (try simp at this); omega
    have y6_1 : w3.heap.size ≤ w6.heap.size := Nat.le_of_lt z6_1
    have c6_1 := fun o => hb6.cell (p := ⟨w3.heap.size, o, none⟩) (by first | omega | (simp <;> omega))
    have f6_1 := fun o => hb6.frozen (p := ⟨w3.heap.size, o, none⟩) (by first | omega | (simp <;> omega))
    have z6_2 : w4.heap.size < w6.heap.size := by have := hb6.size; (try simp at this); omega
    have y6_2 : w4.heap.size ≤ w6.heap.size := Nat.le_of_lt z6_2
    have c6_2 := fun o => hb6.cell (p := ⟨w4.heap.size, o, none⟩) (by first | omega | (simp <;> omega))
    have f6_2 := fun o => hb6.frozen (p := ⟨w4.heap.size, o, none⟩) (by first | omega | (simp <;> omega))
    go_wp2_with fail
    refine (alive20 _).mono ?_
    rintro e w7 ⟨rfl, hb7⟩
    have B7 : Below w.heap.size w w7 := Below.then_ (by repeat (first | with_reducible exact Below.refl _ _ | with_reducible assumption | ((with_reducible refine Below.setCell ?_ ?_ _); rotate_left; · (first | omega | exact Nat.le_refl _ | (simp <;> omega))) | (with_reducible refine Below.allocW ?_ _) | (with_reducible refine Below.drew ?_) | (with_reducible refine Below.extW ?_ _))) hb7
    have s7 : w.heap.size ≤ w7.heap.size := B7.size
    go_wp2_with fail
    go_ret
    exact ⟨rfl, (by repeat (first | with_reducible exact Below.refl _ _ | with_reducible assumption | ((with_reducible refine Below.setCell ?_ ?_ _); rotate_left; · (first | omega | exact Nat.le_refl _ | (simp <;> omega))) | (with_reducible refine Below.allocW ?_ _) | (with_reducible refine Below.drew ?_) | (with_reducible refine Below.extW ?_ _)))⟩
theorem law_BoundEnds (l k K : Int) (r : List Nd) (A : Option Addr) (cap : Nat) (W : World) (hS : Sl W W.heap.size encN A r) (hI : ints r) (_ : i64 l) (_ : i64 k) (_ : i64 K) (hm : r.length ≤ maxLen) :
    Calls Tryz.prog 10 #[loadedV l k K A r.length cap] W fun e w' => e = .returned (.bool true) ∧ Below W.heap.size W w' := by
  by_cases h : goodL l k K r
  · obtain ⟨n, m, rfl, rfl⟩ := goodL_nat h.2.2
    exact law_BoundEnds_yes n m k r A cap W h hS hI
  · exact law_BoundEnds_no l k K r A cap W h hS hI hm
end Go.Proofs.YtalnhdfgjjhhbaaGreat
