/- Package rank: Low, High. -/
import Derived.Test.YtalnhdfgjjhhbaaDigest
namespace Go.Proofs.Ytalnhdfgjjhhbaa
open Go.ChangeShapes Go.WideShapes Go.ChangeAt Go.RowKit
set_option linter.unusedVariables false

/-- What those nodes weigh of which something is so. -/
def weighR (l : Int) (f : Int → Int → Bool) : List Nd → Int
  | [] => 0
  | x :: r => (if f (endsOf l x.1).1 (endsOf l x.1).2.1 = true then x.2 else 0) + weighR l f r
def lowOf (l : Int) (r : List Nd) (y : Int) : Int := weighR l (fun _ hi => decide (hi ≤ y)) r
def highOf (l : Int) (r : List Nd) (y : Int) : Int := weighR l (fun lo _ => decide (lo ≤ y)) r
theorem weighR_append (l : Int) (f : Int → Int → Bool) (a b : List Nd) : weighR l f (a ++ b) = weighR l f a + weighR l f b := by
  induction a with
  | nil => simp [weighR]
  | cons x a ih => simp only [List.cons_append, weighR, ih]; omega
theorem weighR_le {l : Int} {f : Int → Int → Bool} {r : List Nd} (h : Roll r) : 0 ≤ weighR l f r ∧ weighR l f r ≤ sumR r := by
  induction r with
  | nil => simp [weighR, sumR]
  | cons x r ih =>
    have := ih h.tail
    have hx := h.2 x (by simp)
    simp only [weighR, sumR]
    split <;> omega

theorem rank_Low1 (w : World) (lo hi y : Int) (b : Nat) (hb : w.cell? ⟨b, 0, none⟩ = some (.int .i64 y)) : Calls Try.prog 23 #[.int .i64 lo, .int .i64 hi, .pointer (some ⟨b, 0, none⟩)] w fun e w' => e = .returned (.bool (decide (hi ≤ y))) ∧ Below w.heap.size w w' := by
  go_enter Try.func23, Try.ntmps23
  go_wp2_with fail
  go_ret
  exact ⟨rfl, (by repeat (first | with_reducible exact Below.refl _ _ | with_reducible assumption | ((with_reducible refine Below.setCell ?_ ?_ _); rotate_left; · (first | omega | exact Nat.le_refl _ | (simp <;> omega))) | (with_reducible refine Below.allocW ?_ _) | (with_reducible refine Below.drew ?_) | (with_reducible refine Below.extW ?_ _)))⟩
set_option maxRecDepth 100000 in
theorem weigh_Low (w : World) (g K l : Nat) (k : Int) (r : List Nd) (F : Nat → Prop) (y : Int) (b : Nat) (h : DigAt w g K l k r F) (hn : r.length ≤ 67108864) (hb : w.cell? ⟨b, 0, none⟩ = some (.int .i64 y)) :
    Calls Try.prog 22 #[.pointer (some ⟨g, 0, none⟩), .func (.func 23) #[] #[.pointer (some ⟨b, 0, none⟩)]] w fun e w' => e = .returned (.int .i64 (lowOf l r y)) ∧ Below w.heap.size w w' := by
  have hf := h.fits
  have hll := h.l_le
  have HD := Lib.hid h
  have zb := lt_of_cell hb
  have HBc := Lib.hid hb
  clear h hb
  go_enter Try.func22, Try.ntmps22
  go_wp2_with fail
  refine (digest_Conf _ g K l k r F HD.out).mono ?_
  rintro e w1 ⟨rfl, hb1⟩
  have B1 : Below w.heap.size w w1 := Below.then_ (by repeat (first | with_reducible exact Below.refl _ _ | with_reducible assumption | ((with_reducible refine Below.setCell ?_ ?_ _); rotate_left; · (first | omega | exact Nat.le_refl _ | (simp <;> omega))) | (with_reducible refine Below.allocW ?_ _) | (with_reducible refine Below.drew ?_) | (with_reducible refine Below.extW ?_ _))) hb1
  have s1 : w.heap.size ≤ w1.heap.size := B1.size
  go_wp2_with fail
  refine (digest_Nodes _ g K l k r F (HD.out.below B1) hn).mono ?_
  rintro e w2 ⟨v, rfl, ho, hb2⟩
  have B2 := B1.trans (hb2.mono s1)
  have s2 := hb2.size
  obtain ⟨A, cap, rfl, _, _, hS, _⟩ := ho.form
  have HS := Lib.hid hS
  have HB2 := Lib.hid B2
  have HBc2 := Lib.hid ((B2.cell (p := ⟨b, 0, none⟩) zb).trans HBc.out)
  have zb2 : b < w2.heap.size := by have := B2.size; omega
  clear ho hS hb1 hb2 B1 B2
  go_wp2_with fail
  go_loopw [5, 18] (fun n i wr => ∃ q : Nat, q ≤ r.length ∧ i = .int .i64 q ∧ n = .int .i64 (lowOf l (r.take q) y) ∧ Below w2.heap.size w2 wr) (fun _ i _ => r.length - (intOf i).toNat)
  case atStart => exact ⟨0, Nat.zero_le _, rfl, rfl, Below.refl _ _⟩
  case round =>
    obtain ⟨q, hq, rfl, rfl, hB⟩ := hrel
    have hs := hB.size
    have hBw : Below w.heap.size w wr := HB2.out.trans (hB.mono HB2.out.size)
    by_cases hlt : q < r.length
    · obtain ⟨c, off, rfl, hc, hcl⟩ := (HS.out.below hB).at_ hlt
      have d0 := hcl 0 (.int .i64 r[q].1) rfl
      have d1 := hcl 1 (.int .i64 r[q].2) rfl
      simp only [Nat.add_zero] at d0
      have hx := hf.roll.2 _ (List.getElem_mem hlt)
      have hxl := hf.lt _ (List.getElem_mem hlt)
      have e1 := sumR_take_succ hlt
      have e2 := sumR_take_le hf.roll (q + 1)
      have e3 := hf.sum
      have e5 := weighR_le (l := l) (f := fun _ hi => decide (hi ≤ y)) (hf.roll.take q)
      have e6 : lowOf l (r.take (q + 1)) y = lowOf l (r.take q) y + lowOf l [r[q]] y := by
        unfold lowOf
        rw [List.take_succ_eq_append_getElem hlt, weighR_append]
      have hp := pow_48 (n := l) hll.2
      obtain ⟨x, hxe⟩ : ∃ x, x = r[q] := ⟨_, rfl⟩
      rw [← hxe] at d0 d1 hx hxl e1 e6
      have e7 : lowOf l [x] y = if decide ((endsOf l x.1).2.1 ≤ y) = true then x.2 else 0 := by simp only [lowOf, weighR]; simp
      have n0 : 0 ≤ lowOf l (r.take q) y := e5.1
      have n1 : lowOf l (r.take q) y + x.2 ≤ 72057594037927935 := by have := e5.2; unfold lowOf; omega
      have E6 := Lib.hid e6
      have E7 := Lib.hid e7
      have hx1 : x.1 ≤ 562949953421312 := by omega
      generalize lowOf l (r.take q) y = m at n0 n1 E6 ⊢
      clear hcl e1 e2 e3 e5 e6 e7 hxe hxl hp
      go_wp2_with fail
      refine (twig_Ends _ l x.1 (by omega)).mono ?_
      rintro e w3 ⟨rfl, hb3⟩
      have B3 : Below w.heap.size w w3 := Below.then_ (by repeat (first | with_reducible exact Below.refl _ _ | with_reducible assumption | ((with_reducible refine Below.setCell ?_ ?_ _); rotate_left; · (first | omega | exact Nat.le_refl _ | (simp <;> omega))) | (with_reducible refine Below.allocW ?_ _) | (with_reducible refine Below.drew ?_) | (with_reducible refine Below.extW ?_ _))) hb3
      have s3 : w.heap.size ≤ w3.heap.size := B3.size
      have z3_0 : wr.heap.size < w3.heap.size := by have := hb3.size; (try simp at this); omega
      have y3_0 : wr.heap.size ≤ w3.heap.size := Nat.le_of_lt z3_0
      have c3_0 := fun o => hb3.cell (p := ⟨wr.heap.size, o, none⟩) (by first | omega | (simp <;> omega))
      have f3_0 := fun o => hb3.frozen (p := ⟨wr.heap.size, o, none⟩) (by first | omega | (simp <;> omega))
      generalize endsOf l x.1 = t at E7 ⊢
      obtain ⟨t1, t2, t3⟩ := t
      unfold endsV
      have cb3 := (hb3.cell (p := ⟨b, 0, none⟩) (by simp only [World.size_alloc]; omega)).trans (((Below.refl wr.heap.size wr).alloc (Nat.le_refl _) (.cells #[.int .i64 x.1, .int .i64 x.2] 59)).cell (p := ⟨b, 0, none⟩) (by simp only; omega) |>.trans ((hB.cell (p := ⟨b, 0, none⟩) zb2).trans HBc2.out))
      have W3 : Below w2.heap.size w2 w3 := (hB.alloc hs _).trans (hb3.mono (Nat.le_trans hs (by simp)))
      have z3 := hb3.size
      go_wp2_with fail
      refine (rank_Low1 _ t1 t2 y b cb3).mono ?_
      rintro e w4 ⟨rfl, hb4⟩
      have z4 : wr.heap.size < w4.heap.size := Nat.lt_of_lt_of_le z3_0 hb4.size
      have c4 := fun o => (hb4.cell (p := ⟨wr.heap.size, o, none⟩) z3_0).trans (c3_0 o)
      have W4 := W3.trans (hb4.mono (by have := W3.size; exact this))
      by_cases hle : t2 ≤ y
      · have E8 := Lib.hid (show lowOf l (r.take (q + 1)) y = m + x.2 by rw [E6.out, E7.out, if_pos (by simpa using hle)])
        go_wp2_with fail
        go_roundw
        case rel => exact ⟨q + 1, by omega, by go_num, by rw [E8.out], W4⟩
        case measure => simp [intOf]; omega
      · have E8 := Lib.hid (show lowOf l (r.take (q + 1)) y = m by rw [E6.out, E7.out, if_neg (by simpa using hle)]; omega)
        go_wp2_with fail
        go_roundw
        case rel => exact ⟨q + 1, by omega, by go_num, by rw [E8.out], W4⟩
        case measure => simp [intOf]; omega
    · obtain rfl : q = r.length := by omega
      rw [List.take_length]
      go_wp2_with fail
      go_ret
      exact ⟨rfl, HB2.out.trans (hB.mono HB2.out.size)⟩
theorem rank_Low (w : World) (g K l : Nat) (k : Int) (r : List Nd) (F : Nat → Prop) (y : Int) (h : DigAt w g K l k r F) (hn : r.length ≤ 67108864) :
    Calls Try.prog 8 #[.pointer (some ⟨g, 0, none⟩), .int .i64 y] w fun e w' => e = .returned (.int .i64 (lowOf l r y)) ∧ Below w.heap.size w w' := by
  have HD := Lib.hid (h.below ((Below.refl w.heap.size w).alloc (Nat.le_refl _) (.cells #[.int .i64 y] 3)))
  clear h
  go_enter Try.func8, Try.ntmps8
  go_wp2_with fail
  refine (weigh_Low _ g K l k r F y w.heap.size HD.out hn (by go_simp)).mono ?_
  rintro e w1 ⟨rfl, hb1⟩
  have B1 : Below w.heap.size w w1 := Below.then_ (by repeat (first | with_reducible exact Below.refl _ _ | with_reducible assumption | ((with_reducible refine Below.setCell ?_ ?_ _); rotate_left; · (first | omega | exact Nat.le_refl _ | (simp <;> omega))) | (with_reducible refine Below.allocW ?_ _) | (with_reducible refine Below.drew ?_) | (with_reducible refine Below.extW ?_ _))) hb1
  have s1 : w.heap.size ≤ w1.heap.size := B1.size
  go_wp2_with fail
  go_ret
  exact ⟨rfl, (by repeat (first | with_reducible exact Below.refl _ _ | with_reducible assumption | ((with_reducible refine Below.setCell ?_ ?_ _); rotate_left; · (first | omega | exact Nat.le_refl _ | (simp <;> omega))) | (with_reducible refine Below.allocW ?_ _) | (with_reducible refine Below.drew ?_) | (with_reducible refine Below.extW ?_ _)))⟩

theorem rank_High1 (w : World) (lo hi y : Int) (b : Nat) (hb : w.cell? ⟨b, 0, none⟩ = some (.int .i64 y)) : Calls Try.prog 24 #[.int .i64 lo, .int .i64 hi, .pointer (some ⟨b, 0, none⟩)] w fun e w' => e = .returned (.bool (decide (lo ≤ y))) ∧ Below w.heap.size w w' := by
  go_enter Try.func24, Try.ntmps24
  go_wp2_with fail
  go_ret
  exact ⟨rfl, (by repeat (first | with_reducible exact Below.refl _ _ | with_reducible assumption | ((with_reducible refine Below.setCell ?_ ?_ _); rotate_left; · (first | omega | exact Nat.le_refl _ | (simp <;> omega))) | (with_reducible refine Below.allocW ?_ _) | (with_reducible refine Below.drew ?_) | (with_reducible refine Below.extW ?_ _)))⟩
set_option maxRecDepth 100000 in
theorem weigh_High (w : World) (g K l : Nat) (k : Int) (r : List Nd) (F : Nat → Prop) (y : Int) (b : Nat) (h : DigAt w g K l k r F) (hn : r.length ≤ 67108864) (hb : w.cell? ⟨b, 0, none⟩ = some (.int .i64 y)) :
    Calls Try.prog 22 #[.pointer (some ⟨g, 0, none⟩), .func (.func 24) #[] #[.pointer (some ⟨b, 0, none⟩)]] w fun e w' => e = .returned (.int .i64 (highOf l r y)) ∧ Below w.heap.size w w' := by
  have hf := h.fits
  have hll := h.l_le
  have HD := Lib.hid h
  have zb := lt_of_cell hb
  have HBc := Lib.hid hb
  clear h hb
  go_enter Try.func22, Try.ntmps22
  go_wp2_with fail
  refine (digest_Conf _ g K l k r F HD.out).mono ?_
  rintro e w1 ⟨rfl, hb1⟩
  have B1 : Below w.heap.size w w1 := Below.then_ (by repeat (first | with_reducible exact Below.refl _ _ | with_reducible assumption | ((with_reducible refine Below.setCell ?_ ?_ _); rotate_left; · (first | omega | exact Nat.le_refl _ | (simp <;> omega))) | (with_reducible refine Below.allocW ?_ _) | (with_reducible refine Below.drew ?_) | (with_reducible refine Below.extW ?_ _))) hb1
  have s1 : w.heap.size ≤ w1.heap.size := B1.size
  go_wp2_with fail
  refine (digest_Nodes _ g K l k r F (HD.out.below B1) hn).mono ?_
  rintro e w2 ⟨v, rfl, ho, hb2⟩
  have B2 := B1.trans (hb2.mono s1)
  have s2 := hb2.size
  obtain ⟨A, cap, rfl, _, _, hS, _⟩ := ho.form
  have HS := Lib.hid hS
  have HB2 := Lib.hid B2
  have HBc2 := Lib.hid ((B2.cell (p := ⟨b, 0, none⟩) zb).trans HBc.out)
  have zb2 : b < w2.heap.size := by have := B2.size; omega
  clear ho hS hb1 hb2 B1 B2
  go_wp2_with fail
  go_loopw [5, 18] (fun n i wr => ∃ q : Nat, q ≤ r.length ∧ i = .int .i64 q ∧ n = .int .i64 (highOf l (r.take q) y) ∧ Below w2.heap.size w2 wr) (fun _ i _ => r.length - (intOf i).toNat)
  case atStart => exact ⟨0, Nat.zero_le _, rfl, rfl, Below.refl _ _⟩
  case round =>
    obtain ⟨q, hq, rfl, rfl, hB⟩ := hrel
    have hs := hB.size
    have hBw : Below w.heap.size w wr := HB2.out.trans (hB.mono HB2.out.size)
    by_cases hlt : q < r.length
    · obtain ⟨c, off, rfl, hc, hcl⟩ := (HS.out.below hB).at_ hlt
      have d0 := hcl 0 (.int .i64 r[q].1) rfl
      have d1 := hcl 1 (.int .i64 r[q].2) rfl
      simp only [Nat.add_zero] at d0
      have hx := hf.roll.2 _ (List.getElem_mem hlt)
      have hxl := hf.lt _ (List.getElem_mem hlt)
      have e1 := sumR_take_succ hlt
      have e2 := sumR_take_le hf.roll (q + 1)
      have e3 := hf.sum
      have e5 := weighR_le (l := l) (f := fun lo _ => decide (lo ≤ y)) (hf.roll.take q)
      have e6 : highOf l (r.take (q + 1)) y = highOf l (r.take q) y + highOf l [r[q]] y := by
        unfold highOf
        rw [List.take_succ_eq_append_getElem hlt, weighR_append]
      have hp := pow_48 (n := l) hll.2
      obtain ⟨x, hxe⟩ : ∃ x, x = r[q] := ⟨_, rfl⟩
      rw [← hxe] at d0 d1 hx hxl e1 e6
      have e7 : highOf l [x] y = if decide ((endsOf l x.1).1 ≤ y) = true then x.2 else 0 := by simp only [highOf, weighR]; simp
      have n0 : 0 ≤ highOf l (r.take q) y := e5.1
      have n1 : highOf l (r.take q) y + x.2 ≤ 72057594037927935 := by have := e5.2; unfold highOf; omega
      have E6 := Lib.hid e6
      have E7 := Lib.hid e7
      have hx1 : x.1 ≤ 562949953421312 := by omega
      generalize highOf l (r.take q) y = m at n0 n1 E6 ⊢
      clear hcl e1 e2 e3 e5 e6 e7 hxe hxl hp
      go_wp2_with fail
      refine (twig_Ends _ l x.1 (by omega)).mono ?_
      rintro e w3 ⟨rfl, hb3⟩
      have B3 : Below w.heap.size w w3 := Below.then_ (by repeat (first | with_reducible exact Below.refl _ _ | with_reducible assumption | ((with_reducible refine Below.setCell ?_ ?_ _); rotate_left; · (first | omega | exact Nat.le_refl _ | (simp <;> omega))) | (with_reducible refine Below.allocW ?_ _) | (with_reducible refine Below.drew ?_) | (with_reducible refine Below.extW ?_ _))) hb3
      have s3 : w.heap.size ≤ w3.heap.size := B3.size
      have z3_0 : wr.heap.size < w3.heap.size := by have := hb3.size; (try simp at this); omega
      have y3_0 : wr.heap.size ≤ w3.heap.size := Nat.le_of_lt z3_0
      have c3_0 := fun o => hb3.cell (p := ⟨wr.heap.size, o, none⟩) (by first | omega | (simp <;> omega))
      have f3_0 := fun o => hb3.frozen (p := ⟨wr.heap.size, o, none⟩) (by first | omega | (simp <;> omega))
      generalize endsOf l x.1 = t at E7 ⊢
      obtain ⟨t1, t2, t3⟩ := t
      unfold endsV
      have cb3 := (hb3.cell (p := ⟨b, 0, none⟩) (by simp only [World.size_alloc]; omega)).trans (((Below.refl wr.heap.size wr).alloc (Nat.le_refl _) (.cells #[.int .i64 x.1, .int .i64 x.2] 59)).cell (p := ⟨b, 0, none⟩) (by simp only; omega) |>.trans ((hB.cell (p := ⟨b, 0, none⟩) zb2).trans HBc2.out))
      have W3 : Below w2.heap.size w2 w3 := (hB.alloc hs _).trans (hb3.mono (Nat.le_trans hs (by simp)))
      have z3 := hb3.size
      go_wp2_with fail
      refine (rank_High1 _ t1 t2 y b cb3).mono ?_
      rintro e w4 ⟨rfl, hb4⟩
      have z4 : wr.heap.size < w4.heap.size := Nat.lt_of_lt_of_le z3_0 hb4.size
      have c4 := fun o => (hb4.cell (p := ⟨wr.heap.size, o, none⟩) z3_0).trans (c3_0 o)
      have W4 := W3.trans (hb4.mono (by have := W3.size; exact this))
      by_cases hle : t1 ≤ y
      · have E8 := Lib.hid (show highOf l (r.take (q + 1)) y = m + x.2 by rw [E6.out, E7.out, if_pos (by simpa using hle)])
        go_wp2_with fail
        go_roundw
        case rel => exact ⟨q + 1, by omega, by go_num, by rw [E8.out], W4⟩
        case measure => simp [intOf]; omega
      · have E8 := Lib.hid (show highOf l (r.take (q + 1)) y = m by rw [E6.out, E7.out, if_neg (by simpa using hle)]; omega)
        go_wp2_with fail
        go_roundw
        case rel => exact ⟨q + 1, by omega, by go_num, by rw [E8.out], W4⟩
        case measure => simp [intOf]; omega
    · obtain rfl : q = r.length := by omega
      rw [List.take_length]
      go_wp2_with fail
      go_ret
      exact ⟨rfl, HB2.out.trans (hB.mono HB2.out.size)⟩
theorem rank_High (w : World) (g K l : Nat) (k : Int) (r : List Nd) (F : Nat → Prop) (y : Int) (h : DigAt w g K l k r F) (hn : r.length ≤ 67108864) :
    Calls Try.prog 9 #[.pointer (some ⟨g, 0, none⟩), .int .i64 y] w fun e w' => e = .returned (.int .i64 (highOf l r y)) ∧ Below w.heap.size w w' := by
  have HD := Lib.hid (h.below ((Below.refl w.heap.size w).alloc (Nat.le_refl _) (.cells #[.int .i64 y] 3)))
  clear h
  go_enter Try.func9, Try.ntmps9
  go_wp2_with fail
  refine (weigh_High _ g K l k r F y w.heap.size HD.out hn (by go_simp)).mono ?_
  rintro e w1 ⟨rfl, hb1⟩
  have B1 : Below w.heap.size w w1 := Below.then_ (by repeat (first | with_reducible exact Below.refl _ _ | with_reducible assumption | ((with_reducible refine Below.setCell ?_ ?_ _); rotate_left; · (first | omega | exact Nat.le_refl _ | (simp <;> omega))) | (with_reducible refine Below.allocW ?_ _) | (with_reducible refine Below.drew ?_) | (with_reducible refine Below.extW ?_ _))) hb1
  have s1 : w.heap.size ≤ w1.heap.size := B1.size
  go_wp2_with fail
  go_ret
  exact ⟨rfl, (by repeat (first | with_reducible exact Below.refl _ _ | with_reducible assumption | ((with_reducible refine Below.setCell ?_ ?_ _); rotate_left; · (first | omega | exact Nat.le_refl _ | (simp <;> omega))) | (with_reducible refine Below.allocW ?_ _) | (with_reducible refine Below.drew ?_) | (with_reducible refine Below.extW ?_ _)))⟩
end Go.Proofs.Ytalnhdfgjjhhbaa
