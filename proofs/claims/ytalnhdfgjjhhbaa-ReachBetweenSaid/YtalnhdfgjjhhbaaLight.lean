/- Package press: Light. -/
import Derived.Test.YtalnhdfgjjhhbaaEach
namespace Go.Proofs.Ytalnhdfgjjhhbaa
open Go.ChangeShapes Go.WideShapes Go.ChangeAt Go.RowKit
set_option linter.unusedVariables false
attribute [local go_sem] Oper.semAt_some

theorem fold_Cap (w : World) (n k : Int) (hn0 : 0 ≤ n) (hn : n ≤ 9223372036854775807) (hk : 1 ≤ k) (hk2 : k ≤ 9223372036854775807) : Calls Try.prog 57 #[.int .i64 n, .int .i64 k] w fun e w' => e = .returned (.int .i64 (n / k)) ∧ Below w.heap.size w w' := by
  have HD := Lib.hid (show divOf n k = (n / k, true) by simp only [divOf]; rw [if_neg (by omega)])
  go_enter Try.func57, Try.ntmps57
  go_wp2_with fail
  refine (reckon_Div _ n k hn hk2).mono ?_
  rintro e w1 ⟨rfl, hb1⟩
  have B1 : Below w.heap.size w w1 := Below.then_ (by repeat (first | with_reducible exact Below.refl _ _ | with_reducible assumption | ((with_reducible refine Below.setCell ?_ ?_ _); rotate_left; · (first | omega | exact Nat.le_refl _ | (simp <;> omega))) | (with_reducible refine Below.allocW ?_ _) | (with_reducible refine Below.drew ?_) | (with_reducible refine Below.extW ?_ _))) hb1
  have s1 : w.heap.size ≤ w1.heap.size := B1.size
  rw [HD.out]
  unfold okV
  go_wp2_with fail
  go_ret
  exact ⟨rfl, (by repeat (first | with_reducible exact Below.refl _ _ | with_reducible assumption | ((with_reducible refine Below.setCell ?_ ?_ _); rotate_left; · (first | omega | exact Nat.le_refl _ | (simp <;> omega))) | (with_reducible refine Below.allocW ?_ _) | (with_reducible refine Below.drew ?_) | (with_reducible refine Below.extW ?_ _)))⟩
theorem press_may (w : World) (k : Int) (h1 : 1 ≤ k) (h2 : k ≤ 1048576) : Calls Try.prog 95 #[.int .i64 k] w fun e w' => e = .returned (.bool true) ∧ Below w.heap.size w w' := by
  have h3 : decide (k ≤ 1048576) = true := by simpa using h2
  go_enter Try.func95, Try.ntmps95
  go_wp2_with fail
  go_ret
  exact ⟨ret_bool (by simp [h2]), (by repeat (first | with_reducible exact Below.refl _ _ | with_reducible assumption | ((with_reducible refine Below.setCell ?_ ?_ _); rotate_left; · (first | omega | exact Nat.le_refl _ | (simp <;> omega))) | (with_reducible refine Below.allocW ?_ _) | (with_reducible refine Below.drew ?_) | (with_reducible refine Below.extW ?_ _)))⟩
theorem press_wrong (w : World) (g : Nat) (k : Int) (h1 : 1 ≤ k) (h2 : k ≤ 1048576) : Calls Try.prog 72 #[.pointer (some ⟨g, 0, none⟩), .int .i64 k] w fun e w' => e = .returned (.int .i64 0) ∧ Below w.heap.size w w' := by
  go_enter Try.func72, Try.ntmps72
  go_wp2_with fail
  refine (press_may _ k h1 h2).mono ?_
  rintro e w1 ⟨rfl, hb1⟩
  have B1 : Below w.heap.size w w1 := Below.then_ (by repeat (first | with_reducible exact Below.refl _ _ | with_reducible assumption | ((with_reducible refine Below.setCell ?_ ?_ _); rotate_left; · (first | omega | exact Nat.le_refl _ | (simp <;> omega))) | (with_reducible refine Below.allocW ?_ _) | (with_reducible refine Below.drew ?_) | (with_reducible refine Below.extW ?_ _))) hb1
  have s1 : w.heap.size ≤ w1.heap.size := B1.size
  go_wp2_with fail
  go_ret
  exact ⟨rfl, (by repeat (first | with_reducible exact Below.refl _ _ | with_reducible assumption | ((with_reducible refine Below.setCell ?_ ?_ _); rotate_left; · (first | omega | exact Nat.le_refl _ | (simp <;> omega))) | (with_reducible refine Below.allocW ?_ _) | (with_reducible refine Below.drew ?_) | (with_reducible refine Below.extW ?_ _)))⟩
/-- Weighs a node more than it may? -/
def heavy (l : Int) (most : Int) (x : Nd) : Bool := (kidsOf l x.1).2.2 && decide (most < x.2)
def lightOf (l : Int) (r : List Nd) (k : Int) : Bool := !r.any (heavy l (sumR r / k))
theorem lt_of_cell {W : World} {b o : Nat} {v : Value} (h : W.cell? ⟨b, o, none⟩ = some v) : b < W.heap.size := by
  rcases Nat.lt_or_ge b W.heap.size with h' | h'
  · exact h'
  · simp [World.cell?, Array.getElem?_eq_none h'] at h
set_option maxRecDepth 100000 in
set_option maxHeartbeats 2000000 in
theorem press_Light (w : World) (g K l : Nat) (r : List Nd) (F : Nat → Prop) (k : Int) (hP : PoolAt w g K l r F) (h1 : 1 ≤ k) (h2 : k ≤ 1048576) (hr : r.length ≤ 67108864) :
    Calls Try.prog 42 #[.pointer (some ⟨g, 0, none⟩), .int .i64 k] w fun e w' => e = .returned (.bool (lightOf l r k)) ∧ Below w.heap.size w w' := by
  have hs0 := sumR_nonneg hP.fits.roll
  have hs1 := hP.fits.sum
  have HP := Lib.hid hP
  clear hP
  refine (callsIn_wide (n := 3)).1 ?_
  refine callsIn_of_wp_marks Try.func42 rfl trivial ?_ rfl
  simp only [Try.ntmps42, List.size_toArray, List.length_cons, List.length_nil, Nat.reduceAdd, Nat.reduceSub, Array.replicate_succ, Array.replicate_zero, List.push_toArray, List.append_toArray, List.nil_append, List.cons_append]
  gi_wp2_with fail
  refine ⟨trivial, ?_⟩
  refine (callsIn_wide.2 (press_wrong _ g k h1 h2)).mono ?_
  rintro e w1 ⟨rfl, hb1⟩
  have B1 : Below w.heap.size w w1 := Below.then_ (by repeat (first | with_reducible exact Below.refl _ _ | with_reducible assumption | ((with_reducible refine Below.setCell ?_ ?_ _); rotate_left; · (first | omega | exact Nat.le_refl _ | (simp <;> omega))) | (with_reducible refine Below.allocW ?_ _) | (with_reducible refine Below.drew ?_) | (with_reducible refine Below.extW ?_ _))) hb1
  have s1 : w.heap.size ≤ w1.heap.size := B1.size
  have z1_0 : w.heap.size < w1.heap.size := by have := hb1.size; (try simp at this); omega
  have y1_0 : w.heap.size ≤ w1.heap.size := Nat.le_of_lt z1_0
  have c1_0 := fun o => hb1.cell (p := ⟨w.heap.size, o, none⟩) (by first | omega | (simp <;> omega))
  have f1_0 := fun o => hb1.frozen (p := ⟨w.heap.size, o, none⟩) (by first | omega | (simp <;> omega))
  have z1_1 : w.heap.size + 1 < w1.heap.size := by have := hb1.size; (try simp at this); omega
  have y1_1 : w.heap.size + 1 ≤ w1.heap.size := Nat.le_of_lt z1_1
  have c1_1 := fun o => hb1.cell (p := ⟨w.heap.size + 1, o, none⟩) (by first | omega | (simp <;> omega))
  have f1_1 := fun o => hb1.frozen (p := ⟨w.heap.size + 1, o, none⟩) (by first | omega | (simp <;> omega))
  have P1 := Lib.hid (HP.out.below B1)
  gi_wp2_with fail
  refine ⟨trivial, ?_⟩
  refine (callsIn_wide.2 (pool_Total _ g K l r F P1.out)).mono ?_
  rintro e w2 ⟨rfl, hb2⟩
  have B2 : Below w.heap.size w w2 := Below.then_ (by repeat (first | with_reducible exact Below.refl _ _ | with_reducible assumption | ((with_reducible refine Below.setCell ?_ ?_ _); rotate_left; · (first | omega | exact Nat.le_refl _ | (simp <;> omega))) | (with_reducible refine Below.allocW ?_ _) | (with_reducible refine Below.drew ?_) | (with_reducible refine Below.extW ?_ _))) hb2
  have s2 : w.heap.size ≤ w2.heap.size := B2.size
  have z2_0 : w.heap.size < w2.heap.size := by have := hb2.size; (try simp at this); omega
  have y2_0 : w.heap.size ≤ w2.heap.size := Nat.le_of_lt z2_0
  have c2_0 := fun o => hb2.cell (p := ⟨w.heap.size, o, none⟩) (by first | omega | (simp <;> omega))
  have f2_0 := fun o => hb2.frozen (p := ⟨w.heap.size, o, none⟩) (by first | omega | (simp <;> omega))
  have z2_1 : w.heap.size + 1 < w2.heap.size := by have := hb2.size; (try simp at this); omega
  have y2_1 : w.heap.size + 1 ≤ w2.heap.size := Nat.le_of_lt z2_1
  have c2_1 := fun o => hb2.cell (p := ⟨w.heap.size + 1, o, none⟩) (by first | omega | (simp <;> omega))
  have f2_1 := fun o => hb2.frozen (p := ⟨w.heap.size + 1, o, none⟩) (by first | omega | (simp <;> omega))
  have P2 := Lib.hid (HP.out.below B2)
  gi_wp2_with fail
  refine ⟨trivial, ?_⟩
  refine (callsIn_wide.2 (fold_Cap _ (sumR r) k hs0 (by omega) h1 (by omega))).mono ?_
  rintro e w3 ⟨rfl, hb3⟩
  have B3 : Below w.heap.size w w3 := Below.then_ (by repeat (first | with_reducible exact Below.refl _ _ | with_reducible assumption | ((with_reducible refine Below.setCell ?_ ?_ _); rotate_left; · (first | omega | exact Nat.le_refl _ | (simp <;> omega))) | (with_reducible refine Below.allocW ?_ _) | (with_reducible refine Below.drew ?_) | (with_reducible refine Below.extW ?_ _))) hb3
  have s3 : w.heap.size ≤ w3.heap.size := B3.size
  have z3_0 : w.heap.size < w3.heap.size := by have := hb3.size; (try simp at this); omega
  have y3_0 : w.heap.size ≤ w3.heap.size := Nat.le_of_lt z3_0
  have c3_0 := fun o => hb3.cell (p := ⟨w.heap.size, o, none⟩) (by first | omega | (simp <;> omega))
  have f3_0 := fun o => hb3.frozen (p := ⟨w.heap.size, o, none⟩) (by first | omega | (simp <;> omega))
  have z3_1 : w.heap.size + 1 < w3.heap.size := by have := hb3.size; (try simp at this); omega
  have y3_1 : w.heap.size + 1 ≤ w3.heap.size := Nat.le_of_lt z3_1
  have c3_1 := fun o => hb3.cell (p := ⟨w.heap.size + 1, o, none⟩) (by first | omega | (simp <;> omega))
  have f3_1 := fun o => hb3.frozen (p := ⟨w.heap.size + 1, o, none⟩) (by first | omega | (simp <;> omega))
  have P3 := Lib.hid (HP.out.below B3)
  gi_wp2_with fail
  refine ⟨trivial, ?_⟩
  refine (callsIn_wide.2 (pool_Each _ g)).mono ?_
  rintro e w4 ⟨rfl, rfl⟩
  gi_wp2_with fail
  have hB0 : Below w.heap.size w ((w3.alloc (.cells #[.int .i64 (sumR r / k)] 3)).alloc (.cells #[.pointer (some ⟨g, 0, none⟩)] 64)) := (by repeat (first | with_reducible exact Below.refl _ _ | with_reducible assumption | ((with_reducible refine Below.setCell ?_ ?_ _); rotate_left; · (first | omega | exact Nat.le_refl _ | (simp <;> omega))) | (with_reducible refine Below.allocW ?_ _) | (with_reducible refine Below.drew ?_) | (with_reducible refine Below.extW ?_ _)))
  have kb := heap_new_at (w3.alloc (.cells #[.int .i64 (sumR r / k)] 3)) (.cells #[.pointer (some ⟨g, 0, none⟩)] 64) (w3.heap.size + 1) (by simp)
  have x0 : ((w3.alloc (.cells #[.int .i64 (sumR r / k)] 3)).alloc (.cells #[.pointer (some ⟨g, 0, none⟩)] 64)).cell? ⟨w.heap.size, 0, none⟩ = some (.pointer (some ⟨g, 0, none⟩)) := by go_simp
  have x1 : ((w3.alloc (.cells #[.int .i64 (sumR r / k)] 3)).alloc (.cells #[.pointer (some ⟨g, 0, none⟩)] 64)).cell? ⟨w.heap.size + 1, 0, none⟩ = some (.bool false) := by go_simp
  have x2 : ((w3.alloc (.cells #[.int .i64 (sumR r / k)] 3)).alloc (.cells #[.pointer (some ⟨g, 0, none⟩)] 64)).cell? ⟨w3.heap.size, 0, none⟩ = some (.int .i64 (sumR r / k)) := by go_simp
  have x3 : ((w3.alloc (.cells #[.int .i64 (sumR r / k)] 3)).alloc (.cells #[.pointer (some ⟨g, 0, none⟩)] 64)).frozen? ⟨w.heap.size + 1, 0, none⟩ = false := by go_simp
  have zz : w.heap.size + 1 < w3.heap.size := z3_1
  generalize (w3.alloc (.cells #[.int .i64 (sumR r / k)] 3)).alloc (.cells #[.pointer (some ⟨g, 0, none⟩)] 64) = W0 at hB0 kb x0 x1 x2 x3 ⊢
  clear P1 P2 P3 hb1 hb2 hb3 B1 B2 B3 s1 s2 s3 z1_0 y1_0 c1_0 f1_0 z1_1 y1_1 c1_1 f1_1 z2_0 y2_0 c2_0 f2_0 z2_1 y2_1 c2_1 f2_1 z3_0 y3_0 c3_0 f3_0 z3_1 y3_1 c3_1 f3_1
  have zs := hB0.size
  refine wpIn_rangeFunc_ownG rfl (by decide) (gf := 96) (lb := #[.pointer (some ⟨w3.heap.size + 1, 0, none⟩)]) rfl trivial (enters_of Try.func96 (by kernel_rfl) rfl)
    (each_stops (3 - 1) (w3.heap.size + 1) g K l r F W0 (by decide) kb (HP.out.below hB0) hr) keepN_t (fun W q o o' _ h hc _ => keepN_b W q o o' h hc) (Below.refl _ _) (fun _ => rfl)
    (fun pre W => ((pre.any (heavy l (sumR r / k)) = false) ∧ W.cell? ⟨w.heap.size, 0, none⟩ = some (.pointer (some ⟨g, 0, none⟩)) ∧ W.cell? ⟨w.heap.size + 1, 0, none⟩ = some (.bool false) ∧ W.cell? ⟨w3.heap.size, 0, none⟩ = some (.int .i64 (sumR r / k)) ∧ W.frozen? ⟨w.heap.size + 1, 0, none⟩ = false) ∧ Below w.heap.size w W)
    (fun c pre W => (c = .ret ∧ pre.any (heavy l (sumR r / k)) = true ∧ W.cell? ⟨w.heap.size + 1, 0, none⟩ = some (.bool false)) ∧ Below w.heap.size w W)
    (OwnFrom.and (Own.from (fun s A B row hs hg hr => ⟨hs.1, cell_kept hs.2.1 hg hr, cell_kept hs.2.2.1 hg hr, cell_kept hs.2.2.2.1 hg hr, (frozen_kept hs.2.2.1 hg hr).trans hs.2.2.2.2⟩) _) (ownFrom_below (Nat.le_refl _) zs))
    (fun c => OwnFrom.and (Own.from (fun s A B row hs hg hr => ⟨hs.1, hs.2.1, cell_kept hs.2.2 hg hr⟩) _) (ownFrom_below (Nat.le_refl _) zs))
    ⟨⟨rfl, x0, x1, x2, x3⟩, hB0⟩
    (fun x => { tmps := #[.pointer (some ⟨g, 0, none⟩), .int .i64 k, .pointer (some ⟨w.heap.size, 0, none⟩), undef, .pointer (some ⟨w.heap.size + 1, 0, none⟩), .pointer (some ⟨w3.heap.size, 0, none⟩), .int .i64 x.1, .int .i64 x.2, undef, undef, undef,
      .pointer (some ⟨g, 0, none⟩), .int .i64 k, .int .i64 0, .bool false, .pointer (some ⟨g, 0, none⟩), .int .i64 (sumR r), .int .i64 k, .int .i64 (sumR r / k), .pointer (some ⟨g, 0, none⟩), .func (.func 96) #[] #[.pointer (some ⟨w3.heap.size + 1, 0, none⟩)], .int .i64 x.1, .int .i64 x.2,
      undef, undef, undef, undef, undef, undef, undef, undef, undef, undef, undef, undef, undef, undef], defers := [] }) ?assign ?body ?done ?stop
  case assign =>
    intro q x W K hK
    gi_wp2
    exact hK
  case body =>
    rintro q pre x W ⟨⟨hp, c0, c1, c2, f1⟩, hB⟩ _
    have HPW := Lib.hid (HP.out.below hB)
    have hk := Lib.hid (twig_Kids · l x.1)
    have he : Hid (heavy l (sumR r / k) x = ((kidsOf l x.1).2.2 && decide (sumR r / k < x.2))) := Lib.hid rfl
    have HPre := Lib.hid hp
    have zW := hB.size
    have zc0 := lt_of_cell c0
    have zc1 := lt_of_cell c1
    have HB := Lib.hid hB
    clear hp hB
    generalize kidsOf l x.1 = t at hk he
    obtain ⟨t1, t2, t3⟩ := t
    gi_wp2_with fail
    refine ⟨trivial, ?_⟩
    refine (CallsIn.inRound q (callsIn_wide.2 (pool_L _ g K l r F HPW.out))).mono ?_
    rintro e w5 ⟨rfl, hb5⟩
    gi_wp2_with fail
    refine ⟨trivial, ?_⟩
    refine (CallsIn.inRound q (callsIn_wide.2 (hk.out _))).mono ?_
    rintro e w6 ⟨rfl, hb6⟩
    have hb := hb5.trans (hb6.mono hb5.size)
    have hbw := HB.out.trans (hb.mono zW)
    have d1 := (hb.cell (p := ⟨w.heap.size + 1, 0, none⟩) (by simp only; omega)).trans c1
    have d0 := (hb.cell (p := ⟨w.heap.size, 0, none⟩) (by simp only; omega)).trans c0
    have z3 := lt_of_cell c2
    have d2 := (hb.cell (p := ⟨w3.heap.size, 0, none⟩) z3).trans c2
    have g1 := (hb.frozen (p := ⟨w.heap.size + 1, 0, none⟩) (by simp only; omega)).trans f1
    have KW : Hid (KeepsFrom W0.heap.size W w6) := Lib.hid ((KeepsOthers.of_grownBy (grownBy_of_below hb none) (fun _ _ h => by cases h)).from _)
    have KN := Lib.hid (KeepN.of_below hb)
    have HBW := Lib.hid hbw
    clear hb5 hb6 hb hbw c0 c1 c2 f1
    unfold endsV
    cases t3
    · gi_wp2_with fail
      exact ⟨KW.out, KN.out, ⟨by rw [List.any_append, HPre.out]; simp [he.out], d0, d1, d2, g1⟩, HBW.out⟩
    · by_cases hx : sumR r / k < x.2
      · gi_wp2_with fail
        exact ⟨KW.out.trans ((KeepsOthers.setCell _ _ _).from _), ⟨rfl, by rw [List.any_append]; simp [he.out, hx], World.cell?_setCell_same' _ _ _ (by rw [d1]; rfl)⟩, HBW.out.setCell (p := ⟨w.heap.size + 1, 0, none⟩) (by simp only; omega) _⟩
      · gi_wp2_with fail
        exact ⟨KW.out, KN.out, ⟨by rw [List.any_append, HPre.out]; simp [he.out, hx], d0, d1, d2, g1⟩, HBW.out⟩
  case done =>
    rintro D ys W hD hys ⟨⟨hp, c0, c1, c2, f1⟩, hB⟩ hK
    have hys' : ys = r := hys
    rw [hys'] at hp
    clear hys hys'
    have zc1 := lt_of_cell c1
    have hl : lightOf l r k = true := by unfold lightOf; rw [hp]; rfl
    have zW := hB.size
    gi_wp2
    have hK' := (KeepsOthers.setCell W ⟨w.heap.size + 1, 0, none⟩ (.bool true)).same D _ hK rfl
    refine ⟨by simp, .inl ⟨_, _, rfl, run_takeDeferred hK', ?_⟩⟩
    have hc5 := cell_kept (World.cell?_setCell_same' W ⟨w.heap.size + 1, 0, none⟩ (.bool true) (by rw [c1]; rfl)) (grownBy_putObj' _ D (.deferred none)) (fun r e => by cases e; exact ⟨_, hK', rfl⟩)
    refine ⟨.bool true, ?_, by rw [hl], (hB.setCell (p := ⟨w.heap.size + 1, 0, none⟩) (by simp only; omega) _).trans (belowK_b (w := w) (Nat.le_refl _) _ D _ _ (by omega) hK' rfl rfl)⟩
    simp [results, Try.f42, go_sem, hc5]
  case stop =>
    rintro D c pre W hD hpre ⟨⟨rfl, hp, c1⟩, hB⟩ hK
    have hl : lightOf l r k = false := by
      unfold lightOf
      obtain ⟨x, hx, hh⟩ := List.any_eq_true.1 hp
      rw [List.any_eq_true.2 ⟨x, hpre.subset hx, hh⟩]; rfl
    gi_wp2
    refine ⟨by simp, .inl ⟨_, _, rfl, run_takeDeferred hK, ?_⟩⟩
    have hc5 := cell_kept c1 (grownBy_putObj' _ D (.deferred none)) (fun r e => by cases e; exact ⟨_, hK, rfl⟩)
    refine ⟨.bool false, ?_, by rw [hl], hB.trans (belowK_b (w := w) (Nat.le_refl _) W D _ _ (by omega) hK rfl rfl)⟩
    simp [results, Try.f42, go_sem, hc5]
end Go.Proofs.Ytalnhdfgjjhhbaa
