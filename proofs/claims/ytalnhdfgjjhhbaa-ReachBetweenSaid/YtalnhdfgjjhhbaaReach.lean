/- Package reach: Between. -/
import Derived.Test.YtalnhdfgjjhhbaaPart
import Derived.Test.YtalnhdfgjjhhbaaLoad16
namespace Go.Proofs.Ytalnhdfgjjhhbaa
open Go.ChangeShapes Go.WideShapes Go.ChangeAt Go.RowKit
set_option linter.unusedVariables false
set_option maxRecDepth 100000

/-- What those nodes weigh that lie in a range, and what those weigh that meet it. -/
def inLow (a b lo hi : Int) : Bool := decide (a ≤ lo) && decide (hi ≤ b)
def inHigh (a b lo hi : Int) : Bool := decide (lo ≤ b) && decide (a ≤ hi)
def betwLow (l : Int) (r : List Nd) (a b : Int) : Int := weighR l (inLow a b) r
def betwHigh (l : Int) (r : List Nd) (a b : Int) : Int := weighR l (inHigh a b) r
theorem weighR_one (l : Int) (f : Int → Int → Bool) (x : Nd) : weighR l f [x] = if f (endsOf l x.1).1 (endsOf l x.1).2.1 = true then x.2 else 0 := by simp only [weighR]; simp
theorem weighR_take {l : Int} {f : Int → Int → Bool} {r : List Nd} {q : Nat} (h : q < r.length) : weighR l f (r.take (q + 1)) = weighR l f (r.take q) + if f (endsOf l r[q].1).1 (endsOf l r[q].1).2.1 = true then r[q].2 else 0 := by
  rw [List.take_succ_eq_append_getElem h, weighR_append, weighR_one]

theorem le_or_dec (a b : Int) : a ≤ b ∨ decide (a ≤ b) = false := by
  by_cases h : a ≤ b
  · exact .inl h
  · exact .inr (decide_eq_false h)
theorem reach_Between1 (w : World) (id l a b : Int) (p q s : Nat) (hid : id ≤ 9223372036854775807) (h1 : w.cell? ⟨p, 0, none⟩ = some (.int .i64 l)) (h2 : w.cell? ⟨q, 0, none⟩ = some (.int .i64 a)) (h3 : w.cell? ⟨s, 0, none⟩ = some (.int .i64 b)) :
    Calls Try.prog 32 #[.int .i64 id, .pointer (some ⟨p, 0, none⟩), .pointer (some ⟨q, 0, none⟩), .pointer (some ⟨s, 0, none⟩)] w fun e w' => e = .returned (.tuple #[.bool (inLow a b (endsOf l id).1 (endsOf l id).2.1), .bool (inHigh a b (endsOf l id).1 (endsOf l id).2.1)]) ∧ Below w.heap.size w w' := by
  have HE := Lib.hid (twig_Ends · l id hid)
  have zq := lt_of_cell h2
  have zs := lt_of_cell h3
  generalize endsOf l id = t at HE ⊢
  obtain ⟨lo, hi, ok⟩ := t
  unfold endsV at HE
  simp only [inLow, inHigh]
  have H2 := Lib.hid h2
  have H3 := Lib.hid h3
  clear h2 h3
  rcases le_or_dec a lo with k1 | k1
  all_goals rcases le_or_dec lo b with k2 | k2
  all_goals (
    go_enter Try.func32, Try.ntmps32
    go_wp2_with fail
    refine (HE.out _).mono ?_
    rintro e w1 ⟨rfl, hb1⟩
    have B1 : Below w.heap.size w w1 := Below.then_ (by repeat (first | with_reducible exact Below.refl _ _ | with_reducible assumption | ((with_reducible refine Below.setCell ?_ ?_ _); rotate_left; · (first | omega | exact Nat.le_refl _ | (simp <;> omega))) | (with_reducible refine Below.allocW ?_ _) | (with_reducible refine Below.drew ?_) | (with_reducible refine Below.extW ?_ _))) hb1
    have s1 : w.heap.size ≤ w1.heap.size := B1.size
    have c2 := (hb1.cell (p := ⟨q, 0, none⟩) zq).trans H2.out
    have c3 := (hb1.cell (p := ⟨s, 0, none⟩) zs).trans H3.out
    have z2 := Nat.lt_of_lt_of_le zq s1
    have z3 := Nat.lt_of_lt_of_le zs s1
    go_wp2_with fail
    refine wp_region_ext (by kernel_rfl) (by kernel_rfl) ?_
    repeat (go_big_quiet_step (fail))
    refine wpQuiet_nil ?_
    intro w2 hb2
    replace hb2 := below_of_ext hb2
    have B2 : Below w.heap.size w w2 := Below.then_ (by repeat (first | with_reducible exact Below.refl _ _ | with_reducible assumption | ((with_reducible refine Below.setCell ?_ ?_ _); rotate_left; · (first | omega | exact Nat.le_refl _ | (simp <;> omega))) | (with_reducible refine Below.allocW ?_ _) | (with_reducible refine Below.drew ?_) | (with_reducible refine Below.extW ?_ _))) hb2
    have s2 : w.heap.size ≤ w2.heap.size := B2.size
    go_wp2_with fail
    go_ret2
    exact ⟨by simp [k1, k2], B2⟩)

/-- The cell of a Both. -/
def bothAt (w : World) (b : Nat) (lo hi : Int) : Prop := w.heap[b]? = some (.cells #[.int .i64 lo, .int .i64 hi] 45 (0, 0))
theorem bothAt.below {w w' : World} {b : Nat} {lo hi : Int} (h : bothAt w b lo hi) (hb : Below w.heap.size w w') : bothAt w' b lo hi := blk_below h hb
theorem bothAt.alloc {w : World} {b : Nat} {lo hi : Int} (h : bothAt w b lo hi) (o : Obj) : bothAt (w.alloc o) b lo hi := h.below ((Below.refl _ _).alloc (Nat.le_refl _) o)
theorem bothAt.drew {w : World} {b : Nat} {lo hi : Int} (h : bothAt w b lo hi) : bothAt w.drew b lo hi := h
theorem bothAt.set0 {w : World} {b : Nat} {lo hi : Int} (h : bothAt w b lo hi) (x : Int) : bothAt (w.setCell ⟨b, 0, none⟩ (.int .i64 x)) b x hi := heap_set_at (i := 0) h _
theorem bothAt.set1 {w : World} {b : Nat} {lo hi : Int} (h : bothAt w b lo hi) (x : Int) : bothAt (w.setCell ⟨b, 1, none⟩ (.int .i64 x)) b lo x := heap_set_at (i := 1) h _
theorem bothAt.set {w : World} {b q o : Nat} {lo hi : Int} (h : bothAt w b lo hi) (hne : b ≠ q) (u : Value) : bothAt (w.setCell ⟨q, o, none⟩ u) b lo hi := (Below.heap_setCell _ _ _ _ hne).trans h
theorem bothAt.new (w : World) (lo hi : Int) : bothAt (w.alloc (.cells #[.int .i64 lo, .int .i64 hi] 45)) w.heap.size lo hi := heap_alloc_new _ _

set_option maxHeartbeats 2000000 in
theorem sum_Between (w : World) (g K l : Nat) (k : Int) (r : List Nd) (F : Nat → Prop) (a b : Int) (p q s : Nat) (h : DigAt w g K l k r F) (hn : r.length ≤ 67108864) (h1 : w.cell? ⟨p, 0, none⟩ = some (.int .i64 l)) (h2 : w.cell? ⟨q, 0, none⟩ = some (.int .i64 a)) (h3 : w.cell? ⟨s, 0, none⟩ = some (.int .i64 b)) :
    Calls Try.prog 31 #[.pointer (some ⟨g, 0, none⟩), .func (.func 32) #[] #[.pointer (some ⟨p, 0, none⟩), .pointer (some ⟨q, 0, none⟩), .pointer (some ⟨s, 0, none⟩)]] w fun e w' => e = .returned (.agg #[.int .i64 (betwLow l r a b), .int .i64 (betwHigh l r a b)]) ∧ Below w.heap.size w w' := by
  have hf := h.fits
  have hll := h.l_le
  have HD := Lib.hid h
  have z1 := lt_of_cell h1
  have z2 := lt_of_cell h2
  have z3 := lt_of_cell h3
  have H1 := Lib.hid h1
  have H2 := Lib.hid h2
  have H3 := Lib.hid h3
  clear h h1 h2 h3
  go_enter Try.func31, Try.ntmps31
  go_wp2_with fail
  have B0 : Below w.heap.size w ((w.alloc (.cells #[.int .i64 0, .int .i64 0] 45)).alloc (.cells #[.int .i64 0, .int .i64 0] 45)) := (by repeat (first | with_reducible exact Below.refl _ _ | with_reducible assumption | ((with_reducible refine Below.setCell ?_ ?_ _); rotate_left; · (first | omega | exact Nat.le_refl _ | (simp <;> omega))) | (with_reducible refine Below.allocW ?_ _) | (with_reducible refine Below.drew ?_) | (with_reducible refine Below.extW ?_ _)))
  have K0 := Lib.hid ((bothAt.new w 0 0).alloc (.cells #[.int .i64 0, .int .i64 0] 45))
  have K1 := Lib.hid (bothAt.new (w.alloc (.cells #[.int .i64 0, .int .i64 0] 45)) 0 0)
  simp only [World.size_alloc] at K1
  refine (digest_Nodes _ g K l k r F (HD.out.below B0) hn).mono ?_
  rintro e w2 ⟨v, rfl, ho, hb2⟩
  have B2 : Below w.heap.size w w2 := Below.then_ (by repeat (first | with_reducible exact Below.refl _ _ | with_reducible assumption | ((with_reducible refine Below.setCell ?_ ?_ _); rotate_left; · (first | omega | exact Nat.le_refl _ | (simp <;> omega))) | (with_reducible refine Below.allocW ?_ _) | (with_reducible refine Below.drew ?_) | (with_reducible refine Below.extW ?_ _))) hb2
  have s2 : w.heap.size ≤ w2.heap.size := B2.size
  have HO := Lib.hid ho
  simp only [World.size_alloc] at HO
  have M0 := Lib.hid (K0.out.below hb2)
  have M1 := Lib.hid (K1.out.below hb2)
  have z0 : w.heap.size + 2 ≤ w2.heap.size := by have := hb2.size; simp at this; omega
  obtain ⟨A, cap, rfl, _⟩ := ho.form
  clear ho K0 K1 hb2 B0
  go_wp2_with fail
  go_loopw [13] (fun i wr => ∃ q : Nat, q ≤ r.length ∧ i = .int .i64 q ∧ bothAt wr w.heap.size 0 0 ∧ bothAt wr (w.heap.size + 1) (betwLow l (r.take q) a b) (betwHigh l (r.take q) a b) ∧ Own wr (w.heap.size + 1 + 1) 59 encN (.slice A r.length cap) r ∧ Below w.heap.size w wr) (fun i _ => r.length - (intOf i).toNat)
  case atStart => exact ⟨0, Nat.zero_le _, rfl, M0.out, M1.out, HO.out, B2⟩
  case round =>
    obtain ⟨j, hj, rfl, hm0, hm1, hown, hB⟩ := hrel
    have KO := Lib.hid hown
    have N0 := Lib.hid hm0
    have N1 := Lib.hid hm1
    have hs := hB.size
    have zn1 := lt_of_block hm1
    clear hown hm0
    by_cases hlt : j < r.length
    · obtain ⟨c, off, rfl, hc, hcl⟩ := KO.out.sl.at_ hlt
      have d0 := hcl 0 (.int .i64 r[j].1) rfl
      have d1 := hcl 1 (.int .i64 r[j].2) rfl
      simp only [Nat.add_zero] at d0
      have hx := hf.roll.2 _ (List.getElem_mem hlt)
      have hxl := hf.lt _ (List.getElem_mem hlt)
      have e1 := sumR_take_succ hlt
      have e2 := sumR_take_le hf.roll (j + 1)
      have e3 := hf.sum
      have e5 := weighR_le (l := l) (f := inLow a b) (hf.roll.take j)
      have e6 := weighR_le (l := l) (f := inHigh a b) (hf.roll.take j)
      have E7 : betwLow l (r.take (j + 1)) a b = _ := weighR_take hlt
      have E8 : betwHigh l (r.take (j + 1)) a b = _ := weighR_take hlt
      have hp := pow_48 (n := l) hll.2
      unfold betwLow at hm1 N1 E7 ⊢
      unfold betwHigh at hm1 N1 E8 ⊢
      obtain ⟨x, hxe⟩ : ∃ x, x = r[j] := ⟨_, rfl⟩
      rw [← hxe] at d0 d1 hx hxl e1 E7 E8
      have n2 : weighR l (inLow a b) (r.take j) + x.2 ≤ 72057594037927935 := by omega
      have n3 : weighR l (inHigh a b) (r.take j) + x.2 ≤ 72057594037927935 := by omega
      have n0 := e5.1
      have n1 := e6.1
      have hx1 : x.1 ≤ 562949953421312 := by omega
      have hx2 := hx.2
      have HC := Lib.hid (fun W => reach_Between1 W x.1 l a b p q s (by omega))
      generalize weighR l (inLow a b) (r.take j) = m at n0 n2 E7 hm1 N1
      generalize weighR l (inHigh a b) (r.take j) = n at n1 n3 E8 hm1 N1
      generalize inLow a b (endsOf l x.1).1 (endsOf l x.1).2.1 = bl at E7 HC
      generalize inHigh a b (endsOf l x.1).1 (endsOf l x.1).2.1 = bh at E8 HC
      have E7 := Lib.hid E7
      have E8 := Lib.hid E8
      clear hcl e1 e2 e3 e5 e6 hxe hxl hp hx hm1
      go_wp2_with fail
      have W3 : Below w.heap.size w (wr.alloc (.cells #[.int .i64 x.1, .int .i64 x.2] 59)) := hB.alloc hs _
      refine (HC.out _ ((W3.cell (p := ⟨p, 0, none⟩) z1).trans H1.out) ((W3.cell (p := ⟨q, 0, none⟩) z2).trans H2.out) ((W3.cell (p := ⟨s, 0, none⟩) z3).trans H3.out)).mono ?_
      rintro e w4 ⟨rfl, hb4⟩
      have B4 : Below w.heap.size w w4 := Below.then_ (by repeat (first | with_reducible exact Below.refl _ _ | with_reducible assumption | ((with_reducible refine Below.setCell ?_ ?_ _); rotate_left; · (first | omega | exact Nat.le_refl _ | (simp <;> omega))) | (with_reducible refine Below.allocW ?_ _) | (with_reducible refine Below.drew ?_) | (with_reducible refine Below.extW ?_ _))) hb4
      have s4 : w.heap.size ≤ w4.heap.size := B4.size
      have z4_0 : wr.heap.size < w4.heap.size := by have := hb4.size; (try simp at this); omega
      have y4_0 : wr.heap.size ≤ w4.heap.size := Nat.le_of_lt z4_0
      have c4_0 := fun o => hb4.cell (p := ⟨wr.heap.size, o, none⟩) (by first | omega | (simp <;> omega))
      have f4_0 := fun o => hb4.frozen (p := ⟨wr.heap.size, o, none⟩) (by first | omega | (simp <;> omega))
      have L0 := Lib.hid ((N0.out.alloc _).below hb4)
      have l1 := (N1.out.alloc _).below hb4
      have L1 := Lib.hid l1
      have LO := Lib.hid ((KO.out.alloc _).below hb4)
      have cc := blk_cell l1
      have cf := blk_frozen l1
      have zz := lt_of_block l1
      have hne : w.heap.size ≠ w.heap.size + 1 := by omega
      clear l1 hb4
      cases bl
      all_goals cases bh
      all_goals (
        go_wp2_with fail
        go_roundw
        case rel =>
          have F7 := E7.out
          have F8 := E8.out
          simp only [Bool.false_eq_true, if_false, if_true, Int.add_zero, reduceIte] at F7 F8
          refine ⟨j + 1, by omega, by go_num, ?_, ?_, ?_, (by repeat (first | with_reducible exact Below.refl _ _ | with_reducible assumption | ((with_reducible refine Below.setCell ?_ ?_ _); rotate_left; · (first | omega | exact Nat.le_refl _ | (simp <;> omega))) | (with_reducible refine Below.allocW ?_ _) | (with_reducible refine Below.drew ?_) | (with_reducible refine Below.extW ?_ _)))⟩
          · first
              | exact L0.out
              | exact L0.out.set hne _
              | exact (L0.out.set hne _).set hne _
          · rw [F7, F8]
            first
              | exact L1.out
              | exact L1.out.set0 _
              | exact L1.out.set1 _
              | exact (L1.out.set0 _).set1 _
          · first
              | exact LO.out
              | exact LO.out.setCellB (by simp only; omega)
              | exact (LO.out.setCellB (by simp only; omega)).setCellB (by simp only; omega)
        case measure => simp [intOf]; omega)
    · obtain rfl : j = r.length := by omega
      rw [List.take_length] at N1 hm1
      have cc := blk_cell hm1
      have cf0 := blk_frozen N0.out
      have cc0 := blk_cell N0.out
      have zn0 := lt_of_block N0.out
      clear hm1
      go_wp2_with fail
      exact bodyPost_ret (v := .agg #[.int .i64 (betwLow l r a b), .int .i64 (betwHigh l r a b)]) (by simp only [results, Try.results31]; go_simp) rfl ⟨rfl, (by repeat (first | with_reducible exact Below.refl _ _ | with_reducible assumption | ((with_reducible refine Below.setCell ?_ ?_ _); rotate_left; · (first | omega | exact Nat.le_refl _ | (simp <;> omega))) | (with_reducible refine Below.allocW ?_ _) | (with_reducible refine Below.drew ?_) | (with_reducible refine Below.extW ?_ _)))⟩
end Go.Proofs.Ytalnhdfgjjhhbaa
