/-
  Texts of this proof, one behind the other: QuantRef, QuantRefAt, Alive17, QuantManyW.
-/
import Derived.Test.YtilkfolhglpaoaaGreatP4
/- The reference of layer 17 (quant). -/
set_option linter.unusedSimpArgs false namespace Go.Proofs.YtilkfolhglpaoaaGreat
open Go.ChangeShapes Go.WideShapes Go.ChangeAt Go.RowKit
set_option linter.unusedVariables false
set_option maxRecDepth 100000

theorem low_end (l : Int) (r : List Nd) (y : Int) : wUp (endL l false r) y = lowOf l r y := by rw [endL_false, low_up]
theorem high_end (l : Int) (r : List Nd) (y : Int) : wUp (endL l true r) y = highOf l r y := by rw [endL_true, high_up]
/-- The best behind some nodes. -/
def bestAt (l : Int) (b : Bool) (r : List Nd) (k : Int) (p : List Nd) : Int := (endL l b p).foldl (bestStep (endL l b r) k) (-1)
theorem bestAt_succ {l : Int} {b : Bool} {r : List Nd} {k : Int} {q : Nat} (h : q < r.length) : bestAt l b r k (r.take (q + 1)) = bestStep (endL l b r) k (bestAt l b r k (r.take q)) ((if b = true then (endsOf l r[q].1).1 else (endsOf l r[q].1).2.1), r[q].2) := by
  unfold bestAt; rw [take_end h, List.foldl_append]; rfl
set_option maxHeartbeats 2000000 in
theorem ref17_ends (w : World) (u : Int) (A : Option Addr) (cap : Nat) (l : List Nd) (k : Int) (b : Bool) (hS : Sl w w.heap.size encN A l) (hI : ints l) (hm : l.length ≤ 67108864) (hr : Roll l) (hs : sumR l ≤ 72057594037927935) :
    Calls Tryz.prog 96 #[.int .i64 u, .slice A l.length cap, .int .i64 k, .bool b] w fun e w' => e = .returned (.int .i64 (bestOf (endL u b l) k)) ∧ Below w.heap.size w w' := by
  have HS := Lib.hid hS
  have HI := Lib.hid hI
  clear hS hI
  show Calls _ _ _ _ fun e w' => e = .returned (.int .i64 (bestAt u b l k l)) ∧ Below w.heap.size w w'
  go_enter Tryz.func96, Tryz.ntmps96
  go_wp2_with fail
  go_loopw [9, 10] (fun n i wr => ∃ q : Nat, q ≤ l.length ∧ i = .int .i64 q ∧ n = .int .i64 (bestAt u b l k (l.take q)) ∧ Below w.heap.size w wr) (fun _ i _ => l.length - (intOf i).toNat)
  case atStart => exact ⟨0, Nat.zero_le _, rfl, rfl, Below.refl _ _⟩
  case round =>
    obtain ⟨q, hq, rfl, rfl, hB⟩ := hrel
    have hsz := hB.size
    by_cases hlt : q < l.length
    · have SR := Lib.hid (HS.out.keep (B' := wr.heap.size) hsz fun p hp => hB.cell hp)
      obtain ⟨c, off, rfl, hc, hcl⟩ := SR.out.at_ hlt
      have d0 := hcl 0 (.int .i64 l[q].1) rfl
      simp only [Nat.add_zero] at d0
      have hxi := (HI.out _ (List.getElem_mem hlt)).1
      have HB := Lib.hid (bestAt_succ (l := u) (b := b) (k := k) hlt)
      have i1 : (q : Int) < (l.length : Int) := by omega
      obtain ⟨x, hxe⟩ : ∃ x, x = l[q] := ⟨_, rfl⟩
      rw [← hxe] at d0 hxi HB
      have HE := Lib.hid (ref2_Ends · u x.1 hxi.2)
      generalize bestAt u b l k (l.take q) = m at HB ⊢
      generalize endsOf u x.1 = t at HE HB
      obtain ⟨t1, t2, t3⟩ := t
      simp only at HB
      unfold endsV at HE
      clear hcl hxe hxi
      go_wp2_with fail
      refine (HE.out _).mono ?_
      rintro e w1 ⟨rfl, hb1⟩
      have B1 : Below w.heap.size w w1 := Below.then_ (by repeat (first | with_reducible exact Below.refl _ _ | with_reducible assumption | ((with_reducible refine Below.setCell ?_ ?_ _); rotate_left; · (first | omega | exact Nat.le_refl _ | (simp <;> omega))) | (with_reducible refine Below.allocW ?_ _) | (with_reducible refine Below.drew ?_) | (with_reducible refine Below.extW ?_ _))) hb1
      have s1 : w.heap.size ≤ w1.heap.size := B1.size
      have S1 := Lib.hid (SR.out.keep (B' := w1.heap.size) hb1.size fun p hp => hb1.cell hp)
      go_wp2_with fail
      refine (ref16_Low _ u _ cap l t2 S1.out HI.out hm hr hs).mono ?_
      rintro e w2 ⟨rfl, hb2⟩
      have B2 : Below w.heap.size w w2 := Below.then_ (by repeat (first | with_reducible exact Below.refl _ _ | with_reducible assumption | ((with_reducible refine Below.setCell ?_ ?_ _); rotate_left; · (first | omega | exact Nat.le_refl _ | (simp <;> omega))) | (with_reducible refine Below.allocW ?_ _) | (with_reducible refine Below.drew ?_) | (with_reducible refine Below.extW ?_ _))) hb2
      have s2 : w.heap.size ≤ w2.heap.size := B2.size
      have S2 := Lib.hid (S1.out.keep (B' := w2.heap.size) hb2.size fun p hp => hb2.cell hp)
      cases b
      · simp only [Bool.false_eq_true, reduceIte] at HB
        have hn := low_end u l t2
        have HN := Lib.hid hn
        generalize lowOf u l t2 = n at HN ⊢
        clear hn
        have HBS : Hid (bestAt u false l k (l.take (q + 1)) = if k ≤ n ∧ (m < 0 ∨ t2 < m) then t2 else m) := Lib.hid (by rw [HB.out]; unfold bestStep; simp only [HN.out])
        clear HB HN
        by_cases c1 : k ≤ n
        · by_cases c2 : m < 0
          · go_wp2_with fail
            go_roundw
            case rel => exact ⟨q + 1, by omega, by go_num, by rw [HBS.out, if_pos ⟨c1, .inl c2⟩], (by repeat (first | with_reducible exact Below.refl _ _ | with_reducible assumption | ((with_reducible refine Below.setCell ?_ ?_ _); rotate_left; · (first | omega | exact Nat.le_refl _ | (simp <;> omega))) | (with_reducible refine Below.allocW ?_ _) | (with_reducible refine Below.drew ?_) | (with_reducible refine Below.extW ?_ _)))⟩
            case measure => simp [intOf]; omega
          · by_cases c3 : t2 < m
            · go_wp2_with fail
              go_roundw
              case rel => exact ⟨q + 1, by omega, by go_num, by rw [HBS.out, if_pos ⟨c1, .inr c3⟩], (by repeat (first | with_reducible exact Below.refl _ _ | with_reducible assumption | ((with_reducible refine Below.setCell ?_ ?_ _); rotate_left; · (first | omega | exact Nat.le_refl _ | (simp <;> omega))) | (with_reducible refine Below.allocW ?_ _) | (with_reducible refine Below.drew ?_) | (with_reducible refine Below.extW ?_ _)))⟩
              case measure => simp [intOf]; omega
            · go_wp2_with fail
              go_roundw
              case rel => exact ⟨q + 1, by omega, by go_num, by rw [HBS.out, if_neg (by omega)], (by repeat (first | with_reducible exact Below.refl _ _ | with_reducible assumption | ((with_reducible refine Below.setCell ?_ ?_ _); rotate_left; · (first | omega | exact Nat.le_refl _ | (simp <;> omega))) | (with_reducible refine Below.allocW ?_ _) | (with_reducible refine Below.drew ?_) | (with_reducible refine Below.extW ?_ _)))⟩
              case measure => simp [intOf]; omega
        · go_wp2_with fail
          go_roundw
          case rel => exact ⟨q + 1, by omega, by go_num, by rw [HBS.out, if_neg (by omega)], (by repeat (first | with_reducible exact Below.refl _ _ | with_reducible assumption | ((with_reducible refine Below.setCell ?_ ?_ _); rotate_left; · (first | omega | exact Nat.le_refl _ | (simp <;> omega))) | (with_reducible refine Below.allocW ?_ _) | (with_reducible refine Below.drew ?_) | (with_reducible refine Below.extW ?_ _)))⟩
          case measure => simp [intOf]; omega
      · simp only [reduceIte] at HB
        generalize lowOf u l t2 = n0
        go_wp2_with fail
        refine (ref16_High _ u _ cap l t1 S2.out HI.out hm hr hs).mono ?_
        rintro e w3 ⟨rfl, hb3⟩
        have B3 : Below w.heap.size w w3 := Below.then_ (by repeat (first | with_reducible exact Below.refl _ _ | with_reducible assumption | ((with_reducible refine Below.setCell ?_ ?_ _); rotate_left; · (first | omega | exact Nat.le_refl _ | (simp <;> omega))) | (with_reducible refine Below.allocW ?_ _) | (with_reducible refine Below.drew ?_) | (with_reducible refine Below.extW ?_ _))) hb3
        have s3 : w.heap.size ≤ w3.heap.size := B3.size
        have hn := high_end u l t1
        have HN := Lib.hid hn
        generalize highOf u l t1 = n at HN ⊢
        clear hn
        have HBS : Hid (bestAt u true l k (l.take (q + 1)) = if k ≤ n ∧ (m < 0 ∨ t1 < m) then t1 else m) := Lib.hid (by rw [HB.out]; unfold bestStep; simp only [HN.out])
        clear HB HN
        by_cases c1 : k ≤ n
        · by_cases c2 : m < 0
          · go_wp2_with fail
            go_roundw
            case rel => exact ⟨q + 1, by omega, by go_num, by rw [HBS.out, if_pos ⟨c1, .inl c2⟩], (by repeat (first | with_reducible exact Below.refl _ _ | with_reducible assumption | ((with_reducible refine Below.setCell ?_ ?_ _); rotate_left; · (first | omega | exact Nat.le_refl _ | (simp <;> omega))) | (with_reducible refine Below.allocW ?_ _) | (with_reducible refine Below.drew ?_) | (with_reducible refine Below.extW ?_ _)))⟩
            case measure => simp [intOf]; omega
          · by_cases c3 : t1 < m
            · go_wp2_with fail
              go_roundw
              case rel => exact ⟨q + 1, by omega, by go_num, by rw [HBS.out, if_pos ⟨c1, .inr c3⟩], (by repeat (first | with_reducible exact Below.refl _ _ | with_reducible assumption | ((with_reducible refine Below.setCell ?_ ?_ _); rotate_left; · (first | omega | exact Nat.le_refl _ | (simp <;> omega))) | (with_reducible refine Below.allocW ?_ _) | (with_reducible refine Below.drew ?_) | (with_reducible refine Below.extW ?_ _)))⟩
              case measure => simp [intOf]; omega
            · go_wp2_with fail
              go_roundw
              case rel => exact ⟨q + 1, by omega, by go_num, by rw [HBS.out, if_neg (by omega)], (by repeat (first | with_reducible exact Below.refl _ _ | with_reducible assumption | ((with_reducible refine Below.setCell ?_ ?_ _); rotate_left; · (first | omega | exact Nat.le_refl _ | (simp <;> omega))) | (with_reducible refine Below.allocW ?_ _) | (with_reducible refine Below.drew ?_) | (with_reducible refine Below.extW ?_ _)))⟩
              case measure => simp [intOf]; omega
        · go_wp2_with fail
          go_roundw
          case rel => exact ⟨q + 1, by omega, by go_num, by rw [HBS.out, if_neg (by omega)], (by repeat (first | with_reducible exact Below.refl _ _ | with_reducible assumption | ((with_reducible refine Below.setCell ?_ ?_ _); rotate_left; · (first | omega | exact Nat.le_refl _ | (simp <;> omega))) | (with_reducible refine Below.allocW ?_ _) | (with_reducible refine Below.drew ?_) | (with_reducible refine Below.extW ?_ _)))⟩
          case measure => simp [intOf]; omega
    · obtain rfl : q = l.length := by omega
      rw [List.take_length]
      go_wp2_with fail
      go_ret
      exact ⟨rfl, hB⟩
end Go.Proofs.YtilkfolhglpaoaaGreat
/- The reference of layer 17 (quant): At. -/
namespace Go.Proofs.YtilkfolhglpaoaaGreat
open Go.ChangeShapes Go.WideShapes Go.ChangeAt Go.RowKit
set_option linter.unusedVariables false
set_option maxRecDepth 100000

theorem ref17_wrong (w : World) (k u : Int) (A : Option Addr) (cap : Nat) (l : List Nd) (rk : Int) (hS : Sl w w.heap.size encN A l) (hI : ints l) (hm : l.length ≤ maxLen) (ht : (totalOf l).1 = sumR l) :
    Calls Tryz.prog 95 #[.agg #[.int .i64 k, .int .i64 u, .slice A l.length cap], .int .i64 rk] w fun e w' => e = .returned (.int .i64 (qWrong l rk)) ∧ Below w.heap.size w w' := by
  have HW := Lib.hid (ref13_Weight · k u A cap l · hI hm)
  rw [ht] at HW
  have HS := Lib.hid hS
  unfold qWrong
  clear hS hI hm ht
  generalize sumR l = n at HW ⊢
  by_cases h0 : n = 0
  · subst h0
    rw [if_pos rfl]
    go_enter Tryz.func95, Tryz.ntmps95
    go_wp2_with fail
    refine (HW.out _ (HS.out.keep (by simp) fun p hp => Go.RowKit.Below.cell (B := w.heap.size) (w := w) (by repeat (first | with_reducible exact Below.refl _ _ | with_reducible assumption | ((with_reducible refine Below.setCell ?_ ?_ _); rotate_left; · (first | omega | exact Nat.le_refl _ | (simp <;> omega))) | (with_reducible refine Below.allocW ?_ _) | (with_reducible refine Below.drew ?_) | (with_reducible refine Below.extW ?_ _))) hp)).mono ?_
    rintro e w1 ⟨rfl, hb1⟩
    have B1 : Below w.heap.size w w1 := Below.then_ (by repeat (first | with_reducible exact Below.refl _ _ | with_reducible assumption | ((with_reducible refine Below.setCell ?_ ?_ _); rotate_left; · (first | omega | exact Nat.le_refl _ | (simp <;> omega))) | (with_reducible refine Below.allocW ?_ _) | (with_reducible refine Below.drew ?_) | (with_reducible refine Below.extW ?_ _))) hb1
    have s1 : w.heap.size ≤ w1.heap.size := B1.size
    go_wp2_with fail
    go_ret
    exact ⟨rfl, (by repeat (first | with_reducible exact Below.refl _ _ | with_reducible assumption | ((with_reducible refine Below.setCell ?_ ?_ _); rotate_left; · (first | omega | exact Nat.le_refl _ | (simp <;> omega))) | (with_reducible refine Below.allocW ?_ _) | (with_reducible refine Below.drew ?_) | (with_reducible refine Below.extW ?_ _)))⟩
  · rw [if_neg h0]
    have h0' : (n == 0) = false := by simpa using h0
    clear h0
    by_cases h1 : rk < 1
    · rw [if_pos (.inl h1)]
      go_enter Tryz.func95, Tryz.ntmps95
      go_wp2_with fail
      refine (HW.out _ (HS.out.keep (by simp) fun p hp => Go.RowKit.Below.cell (B := w.heap.size) (w := w) (by repeat (first | with_reducible exact Below.refl _ _ | with_reducible assumption | ((with_reducible refine Below.setCell ?_ ?_ _); rotate_left; · (first | omega | exact Nat.le_refl _ | (simp <;> omega))) | (with_reducible refine Below.allocW ?_ _) | (with_reducible refine Below.drew ?_) | (with_reducible refine Below.extW ?_ _))) hp)).mono ?_
      rintro e w1 ⟨rfl, hb1⟩
      have B1 : Below w.heap.size w w1 := Below.then_ (by repeat (first | with_reducible exact Below.refl _ _ | with_reducible assumption | ((with_reducible refine Below.setCell ?_ ?_ _); rotate_left; · (first | omega | exact Nat.le_refl _ | (simp <;> omega))) | (with_reducible refine Below.allocW ?_ _) | (with_reducible refine Below.drew ?_) | (with_reducible refine Below.extW ?_ _))) hb1
      have s1 : w.heap.size ≤ w1.heap.size := B1.size
      go_wp2_with fail
      go_ret
      exact ⟨rfl, (by repeat (first | with_reducible exact Below.refl _ _ | with_reducible assumption | ((with_reducible refine Below.setCell ?_ ?_ _); rotate_left; · (first | omega | exact Nat.le_refl _ | (simp <;> omega))) | (with_reducible refine Below.allocW ?_ _) | (with_reducible refine Below.drew ?_) | (with_reducible refine Below.extW ?_ _)))⟩
    · by_cases h2 : n < rk
      · rw [if_pos (.inr h2)]
        go_enter Tryz.func95, Tryz.ntmps95
        go_wp2_with fail
        refine (HW.out _ (HS.out.keep (by simp) fun p hp => Go.RowKit.Below.cell (B := w.heap.size) (w := w) (by repeat (first | with_reducible exact Below.refl _ _ | with_reducible assumption | ((with_reducible refine Below.setCell ?_ ?_ _); rotate_left; · (first | omega | exact Nat.le_refl _ | (simp <;> omega))) | (with_reducible refine Below.allocW ?_ _) | (with_reducible refine Below.drew ?_) | (with_reducible refine Below.extW ?_ _))) hp)).mono ?_
        rintro e w1 ⟨rfl, hb1⟩
        have B1 : Below w.heap.size w w1 := Below.then_ (by repeat (first | with_reducible exact Below.refl _ _ | with_reducible assumption | ((with_reducible refine Below.setCell ?_ ?_ _); rotate_left; · (first | omega | exact Nat.le_refl _ | (simp <;> omega))) | (with_reducible refine Below.allocW ?_ _) | (with_reducible refine Below.drew ?_) | (with_reducible refine Below.extW ?_ _))) hb1
        have s1 : w.heap.size ≤ w1.heap.size := B1.size
        have z1_0 : w.heap.size < w1.heap.size := by have := hb1.size; (try simp at this); omega
        have y1_0 : w.heap.size ≤ w1.heap.size := Nat.le_of_lt z1_0
        have c1_0 := fun o => hb1.cell (p := ⟨w.heap.size, o, none⟩) (by first | omega | (simp <;> omega))
        have f1_0 := fun o => hb1.frozen (p := ⟨w.heap.size, o, none⟩) (by first | omega | (simp <;> omega))
        go_wp2_with fail
        refine (HW.out _ (HS.out.keep s1 fun p hp => B1.cell hp)).mono ?_
        rintro e w2 ⟨rfl, hb2⟩
        have B2 : Below w.heap.size w w2 := Below.then_ (by repeat (first | with_reducible exact Below.refl _ _ | with_reducible assumption | ((with_reducible refine Below.setCell ?_ ?_ _); rotate_left; · (first | omega | exact Nat.le_refl _ | (simp <;> omega))) | (with_reducible refine Below.allocW ?_ _) | (with_reducible refine Below.drew ?_) | (with_reducible refine Below.extW ?_ _))) hb2
        have s2 : w.heap.size ≤ w2.heap.size := B2.size
        go_wp2_with fail
        go_ret
        exact ⟨rfl, (by repeat (first | with_reducible exact Below.refl _ _ | with_reducible assumption | ((with_reducible refine Below.setCell ?_ ?_ _); rotate_left; · (first | omega | exact Nat.le_refl _ | (simp <;> omega))) | (with_reducible refine Below.allocW ?_ _) | (with_reducible refine Below.drew ?_) | (with_reducible refine Below.extW ?_ _)))⟩
      · rw [if_neg (by omega)]
        go_enter Tryz.func95, Tryz.ntmps95
        go_wp2_with fail
        refine (HW.out _ (HS.out.keep (by simp) fun p hp => Go.RowKit.Below.cell (B := w.heap.size) (w := w) (by repeat (first | with_reducible exact Below.refl _ _ | with_reducible assumption | ((with_reducible refine Below.setCell ?_ ?_ _); rotate_left; · (first | omega | exact Nat.le_refl _ | (simp <;> omega))) | (with_reducible refine Below.allocW ?_ _) | (with_reducible refine Below.drew ?_) | (with_reducible refine Below.extW ?_ _))) hp)).mono ?_
        rintro e w1 ⟨rfl, hb1⟩
        have B1 : Below w.heap.size w w1 := Below.then_ (by repeat (first | with_reducible exact Below.refl _ _ | with_reducible assumption | ((with_reducible refine Below.setCell ?_ ?_ _); rotate_left; · (first | omega | exact Nat.le_refl _ | (simp <;> omega))) | (with_reducible refine Below.allocW ?_ _) | (with_reducible refine Below.drew ?_) | (with_reducible refine Below.extW ?_ _))) hb1
        have s1 : w.heap.size ≤ w1.heap.size := B1.size
        have z1_0 : w.heap.size < w1.heap.size := by have := hb1.size; (try simp at this); omega
        have y1_0 : w.heap.size ≤ w1.heap.size := Nat.le_of_lt z1_0
        have c1_0 := fun o => hb1.cell (p := ⟨w.heap.size, o, none⟩) (by first | omega | (simp <;> omega))
        have f1_0 := fun o => hb1.frozen (p := ⟨w.heap.size, o, none⟩) (by first | omega | (simp <;> omega))
        go_wp2_with fail
        refine (HW.out _ (HS.out.keep s1 fun p hp => B1.cell hp)).mono ?_
        rintro e w2 ⟨rfl, hb2⟩
        have B2 : Below w.heap.size w w2 := Below.then_ (by repeat (first | with_reducible exact Below.refl _ _ | with_reducible assumption | ((with_reducible refine Below.setCell ?_ ?_ _); rotate_left; · (first | omega | exact Nat.le_refl _ | (simp <;> omega))) | (with_reducible refine Below.allocW ?_ _) | (with_reducible refine Below.drew ?_) | (with_reducible refine Below.extW ?_ _))) hb2
        have s2 : w.heap.size ≤ w2.heap.size := B2.size
        go_wp2_with fail
        go_ret
        exact ⟨rfl, (by repeat (first | with_reducible exact Below.refl _ _ | with_reducible assumption | ((with_reducible refine Below.setCell ?_ ?_ _); rotate_left; · (first | omega | exact Nat.le_refl _ | (simp <;> omega))) | (with_reducible refine Below.allocW ?_ _) | (with_reducible refine Below.drew ?_) | (with_reducible refine Below.extW ?_ _)))⟩
theorem ref17_At (w : World) (k u : Int) (A : Option Addr) (cap : Nat) (l : List Nd) (rk : Int) (hS : Sl w w.heap.size encN A l) (hI : ints l) (hm : l.length ≤ 67108864) (ht : (totalOf l).1 = sumR l) (hr : Roll l) (hs : sumR l ≤ 72057594037927935) :
    Calls Tryz.prog 35 #[.agg #[.int .i64 k, .int .i64 u, .slice A l.length cap], .int .i64 rk] w fun e w' => e = .returned (pairV (atT u l rk)) ∧ Below w.heap.size w w' := by
  have HW := Lib.hid (ref17_wrong · k u A cap l rk · hI (by unfold maxLen; omega) ht)
  have HE := Lib.hid (ref17_ends · u A cap l rk false · hI hm hr hs)
  rw [endL_false] at HE
  have HS := Lib.hid hS
  unfold pairV atT
  clear hS hI hm ht hr hs
  generalize qWrong l rk = e0 at HW ⊢
  generalize bestOf (lastL u l) rk = z at HE ⊢
  by_cases h0 : e0 = 0
  · subst h0
    rw [if_pos rfl]
    go_enter Tryz.func35, Tryz.ntmps35
    go_wp2_with fail
    refine (HW.out _ (HS.out.keep (by simp) fun p hp => Go.RowKit.Below.cell (B := w.heap.size) (w := w) (by repeat (first | with_reducible exact Below.refl _ _ | with_reducible assumption | ((with_reducible refine Below.setCell ?_ ?_ _); rotate_left; · (first | omega | exact Nat.le_refl _ | (simp <;> omega))) | (with_reducible refine Below.allocW ?_ _) | (with_reducible refine Below.drew ?_) | (with_reducible refine Below.extW ?_ _))) hp)).mono ?_
    rintro e w1 ⟨rfl, hb1⟩
    have B1 : Below w.heap.size w w1 := Below.then_ (by repeat (first | with_reducible exact Below.refl _ _ | with_reducible assumption | ((with_reducible refine Below.setCell ?_ ?_ _); rotate_left; · (first | omega | exact Nat.le_refl _ | (simp <;> omega))) | (with_reducible refine Below.allocW ?_ _) | (with_reducible refine Below.drew ?_) | (with_reducible refine Below.extW ?_ _))) hb1
    have s1 : w.heap.size ≤ w1.heap.size := B1.size
    have z1_0 : w.heap.size < w1.heap.size := by have := hb1.size; (try simp at this); omega
    have y1_0 : w.heap.size ≤ w1.heap.size := Nat.le_of_lt z1_0
    have c1_0 := fun o => hb1.cell (p := ⟨w.heap.size, o, none⟩) (by first | omega | (simp <;> omega))
    have f1_0 := fun o => hb1.frozen (p := ⟨w.heap.size, o, none⟩) (by first | omega | (simp <;> omega))
    go_wp2_with fail
    refine (HE.out _ (HS.out.keep s1 fun p hp => B1.cell hp)).mono ?_
    rintro e w2 ⟨rfl, hb2⟩
    have B2 : Below w.heap.size w w2 := Below.then_ (by repeat (first | with_reducible exact Below.refl _ _ | with_reducible assumption | ((with_reducible refine Below.setCell ?_ ?_ _); rotate_left; · (first | omega | exact Nat.le_refl _ | (simp <;> omega))) | (with_reducible refine Below.allocW ?_ _) | (with_reducible refine Below.drew ?_) | (with_reducible refine Below.extW ?_ _))) hb2
    have s2 : w.heap.size ≤ w2.heap.size := B2.size
    go_wp2_with fail
    go_ret2
    exact ⟨rfl, (by repeat (first | with_reducible exact Below.refl _ _ | with_reducible assumption | ((with_reducible refine Below.setCell ?_ ?_ _); rotate_left; · (first | omega | exact Nat.le_refl _ | (simp <;> omega))) | (with_reducible refine Below.allocW ?_ _) | (with_reducible refine Below.drew ?_) | (with_reducible refine Below.extW ?_ _)))⟩
  · rw [if_neg h0]
    have h0' : (e0 == 0) = false := by simpa using h0
    clear h0
    go_enter Tryz.func35, Tryz.ntmps35
    go_wp2_with fail
    refine (HW.out _ (HS.out.keep (by simp) fun p hp => Go.RowKit.Below.cell (B := w.heap.size) (w := w) (by repeat (first | with_reducible exact Below.refl _ _ | with_reducible assumption | ((with_reducible refine Below.setCell ?_ ?_ _); rotate_left; · (first | omega | exact Nat.le_refl _ | (simp <;> omega))) | (with_reducible refine Below.allocW ?_ _) | (with_reducible refine Below.drew ?_) | (with_reducible refine Below.extW ?_ _))) hp)).mono ?_
    rintro e w1 ⟨rfl, hb1⟩
    have B1 : Below w.heap.size w w1 := Below.then_ (by repeat (first | with_reducible exact Below.refl _ _ | with_reducible assumption | ((with_reducible refine Below.setCell ?_ ?_ _); rotate_left; · (first | omega | exact Nat.le_refl _ | (simp <;> omega))) | (with_reducible refine Below.allocW ?_ _) | (with_reducible refine Below.drew ?_) | (with_reducible refine Below.extW ?_ _))) hb1
    have s1 : w.heap.size ≤ w1.heap.size := B1.size
    have z1_0 : w.heap.size < w1.heap.size := by have := hb1.size; (try simp at this); omega
    have y1_0 : w.heap.size ≤ w1.heap.size := Nat.le_of_lt z1_0
    have c1_0 := fun o => hb1.cell (p := ⟨w.heap.size, o, none⟩) (by first | omega | (simp <;> omega))
    have f1_0 := fun o => hb1.frozen (p := ⟨w.heap.size, o, none⟩) (by first | omega | (simp <;> omega))
    go_wp2_with fail
    go_ret2
    exact ⟨rfl, (by repeat (first | with_reducible exact Below.refl _ _ | with_reducible assumption | ((with_reducible refine Below.setCell ?_ ?_ _); rotate_left; · (first | omega | exact Nat.le_refl _ | (simp <;> omega))) | (with_reducible refine Below.allocW ?_ _) | (with_reducible refine Below.drew ?_) | (with_reducible refine Below.extW ?_ _)))⟩
end Go.Proofs.YtilkfolhglpaoaaGreat
/- Chapter 17's example. -/
namespace Go.Proofs.YtilkfolhglpaoaaGreat
open Go.ChangeShapes Go.WideShapes Go.ChangeAt Go.RowKit
set_option linter.unusedVariables false
set_option maxRecDepth 100000

theorem at17_a : atT ((2 : Nat) : Int) nodes16 2 = (0, 0) := by decide +kernel
theorem at17_b : atT ((2 : Nat) : Int) nodes16 3 = (3, 0) := by decide +kernel
theorem of17 : ofT ((2 : Nat) : Int) nodes16 1 2 = (3, 0) := by decide +kernel
theorem qw17 : qWrong nodes16 3 = 0 := by decide +kernel
theorem first17 : bestOf (firstL ((2 : Nat) : Int) nodes16) 3 = 0 := by decide +kernel
theorem last17 : bestOf (lastL ((2 : Nat) : Int) nodes16) 3 = 3 := by decide +kernel
theorem span17 : spanT ((2 : Nat) : Int) nodes16 3 = .tuple #[.complex .f64 0 4613937818241073152, .int .i64 0] := by
  unfold spanT
  rw [qw17, first17, last17, if_pos rfl]
  unfold spanV
  kernel_rfl
@[go_sem] theorem eq_c17 (w : World) : (binOp .eql 144 (.complex .f64 0 4613937818241073152) (.complex .f64 0 4613937818241073152)).run Tryz.prog w = .ok (.bool true) w := by kernel_rfl
theorem alive17 (w : World) : Calls Tryz.prog 34 #[] w fun e w' => e = .returned (.bool true) ∧ Below w.heap.size w w' := by
  have HS := Lib.hid (sl_lit w encN nodes16 102 _ rfl)
  have HC := Lib.hid (digest_Load · 2 2 4 (some ⟨w.heap.size, 0, none⟩) 3 nodes16 load16 · nodes16_ints (by decide))
  go_enter Tryz.func34, Tryz.ntmps34
  go_wp2_with fail
  refine (HC.out _ (HS.out.keep (by simp) fun p hp => rfl)).mono ?_
  rintro e w1 ⟨g, F, rfl, hD, _, hb1⟩
  have B1 : Below w.heap.size w w1 := Below.then_ (by repeat (first | with_reducible exact Below.refl _ _ | with_reducible assumption | ((with_reducible refine Below.setCell ?_ ?_ _); rotate_left; · (first | omega | exact Nat.le_refl _ | (simp <;> omega))) | (with_reducible refine Below.allocW ?_ _) | (with_reducible refine Below.drew ?_) | (with_reducible refine Below.extW ?_ _))) hb1
  have s1 : w.heap.size ≤ w1.heap.size := B1.size
  have KD := Lib.hid hD
  clear hD
  go_wp2_with fail
  refine (quant_At _ g 2 2 4 nodes16 F 2 KD.out (by decide)).mono ?_
  rintro e w2 ⟨rfl, hb2⟩
  have B2 : Below w.heap.size w w2 := Below.then_ (by repeat (first | with_reducible exact Below.refl _ _ | with_reducible assumption | ((with_reducible refine Below.setCell ?_ ?_ _); rotate_left; · (first | omega | exact Nat.le_refl _ | (simp <;> omega))) | (with_reducible refine Below.allocW ?_ _) | (with_reducible refine Below.drew ?_) | (with_reducible refine Below.extW ?_ _))) hb2
  have s2 : w.heap.size ≤ w2.heap.size := B2.size
  rw [at17_a]
  unfold pairV
  have KD2 := Lib.hid (KD.out.below hb2)
  go_wp2_with fail
  refine (quant_At _ g 2 2 4 nodes16 F 3 KD2.out (by decide)).mono ?_
  rintro e w3 ⟨rfl, hb3⟩
  have B3 : Below w.heap.size w w3 := Below.then_ (by repeat (first | with_reducible exact Below.refl _ _ | with_reducible assumption | ((with_reducible refine Below.setCell ?_ ?_ _); rotate_left; · (first | omega | exact Nat.le_refl _ | (simp <;> omega))) | (with_reducible refine Below.allocW ?_ _) | (with_reducible refine Below.drew ?_) | (with_reducible refine Below.extW ?_ _))) hb3
  have s3 : w.heap.size ≤ w3.heap.size := B3.size
  rw [at17_b]
  unfold pairV
  have KD3 := Lib.hid (KD2.out.below hb3)
  go_wp2_with fail
  refine (quant_Span _ g 2 2 4 nodes16 F 3 KD3.out (by decide)).mono ?_
  rintro e w4 ⟨rfl, hb4⟩
  have B4 : Below w.heap.size w w4 := Below.then_ (by repeat (first | with_reducible exact Below.refl _ _ | with_reducible assumption | ((with_reducible refine Below.setCell ?_ ?_ _); rotate_left; · (first | omega | exact Nat.le_refl _ | (simp <;> omega))) | (with_reducible refine Below.allocW ?_ _) | (with_reducible refine Below.drew ?_) | (with_reducible refine Below.extW ?_ _))) hb4
  have s4 : w.heap.size ≤ w4.heap.size := B4.size
  rw [span17]
  have KD4 := Lib.hid (KD3.out.below hb4)
  go_wp2_with fail
  refine (quant_Median _ g 2 2 4 nodes16 F KD4.out (by decide)).mono ?_
  rintro e w5 ⟨rfl, hb5⟩
  have B5 : Below w.heap.size w w5 := Below.then_ (by repeat (first | with_reducible exact Below.refl _ _ | with_reducible assumption | ((with_reducible refine Below.setCell ?_ ?_ _); rotate_left; · (first | omega | exact Nat.le_refl _ | (simp <;> omega))) | (with_reducible refine Below.allocW ?_ _) | (with_reducible refine Below.drew ?_) | (with_reducible refine Below.extW ?_ _))) hb5
  have s5 : w.heap.size ≤ w5.heap.size := B5.size
  rw [of17]
  unfold pairV
  go_wp2_with fail
  go_ret
  exact ⟨rfl, (by repeat (first | with_reducible exact Below.refl _ _ | with_reducible assumption | ((with_reducible refine Below.setCell ?_ ?_ _); rotate_left; · (first | omega | exact Nat.le_refl _ | (simp <;> omega))) | (with_reducible refine Below.allocW ?_ _) | (with_reducible refine Below.drew ?_) | (with_reducible refine Below.extW ?_ _)))⟩
end Go.Proofs.YtilkfolhglpaoaaGreat
/- Chapter 17: the values of any ranks. -/
namespace Go.Proofs.YtilkfolhglpaoaaGreat
open Go.ChangeShapes Go.WideShapes Go.ChangeAt Go.RowKit
set_option linter.unusedVariables false
set_option maxRecDepth 100000

theorem law_QuantMany_no (l k K : Int) (r : List Nd) (A : Option Addr) (cap : Nat) (ks : List Int) (A2 : Option Addr) (cap2 : Nat) (w : World) (h : ¬ goodL l k K r) (hS : Sl w w.heap.size encN A r) (hI : ints r) (hm : r.length ≤ maxLen) :
    Calls Tryz.prog 8 #[loadedV l k K A r.length cap, .slice A2 ks.length cap2] w fun e w' => e = .returned (.bool true) ∧ Below w.heap.size w w' := by
  have HC := Lib.hid (law16_Load_no · l k K A cap r h · hI hm)
  have HS := Lib.hid hS
  clear h hS
  unfold loadedV refDig at HC
  unfold loadedV
  go_enter Tryz.func8, Tryz.ntmps8
  go_wp2_with fail
  refine (quant_Many_nil _).mono ?_
  rintro e w1 ⟨rfl, hb1⟩
  have B1 : Below w.heap.size w w1 := Below.then_ (by repeat (first | with_reducible exact Below.refl _ _ | with_reducible assumption | ((with_reducible refine Below.setCell ?_ ?_ _); rotate_left; · (first | omega | exact Nat.le_refl _ | (simp <;> omega))) | (with_reducible refine Below.allocW ?_ _) | (with_reducible refine Below.drew ?_) | (with_reducible refine Below.extW ?_ _))) hb1
  have s1 : w.heap.size ≤ w1.heap.size := B1.size
  have z1_0 : w.heap.size < w1.heap.size := by have := hb1.size; (try simp at this); omega
  have y1_0 : w.heap.size ≤ w1.heap.size := Nat.le_of_lt z1_0
  have c1_0 := fun o => hb1.cell (p := ⟨w.heap.size, o, none⟩) (by first | omega | (simp <;> omega))
  have f1_0 := fun o => hb1.frozen (p := ⟨w.heap.size, o, none⟩) (by first | omega | (simp <;> omega))
  go_wp2_with fail
  refine (quant_Many_one _ w1.heap.size 0 (by simp) (by simp)).mono ?_
  rintro e w2 ⟨rfl, hb2⟩
  have B2 : Below w.heap.size w w2 := Below.then_ (by repeat (first | with_reducible exact Below.refl _ _ | with_reducible assumption | ((with_reducible refine Below.setCell ?_ ?_ _); rotate_left; · (first | omega | exact Nat.le_refl _ | (simp <;> omega))) | (with_reducible refine Below.allocW ?_ _) | (with_reducible refine Below.drew ?_) | (with_reducible refine Below.extW ?_ _))) hb2
  have s2 : w.heap.size ≤ w2.heap.size := B2.size
  have z2_0 : w.heap.size < w2.heap.size := by have := hb2.size; (try simp at this); omega
  have y2_0 : w.heap.size ≤ w2.heap.size := Nat.le_of_lt z2_0
  have c2_0 := fun o => hb2.cell (p := ⟨w.heap.size, o, none⟩) (by first | omega | (simp <;> omega))
  have f2_0 := fun o => hb2.frozen (p := ⟨w.heap.size, o, none⟩) (by first | omega | (simp <;> omega))
  go_wp2_with fail
  refine (HC.out _ (HS.out.keep s2 fun p hp => B2.cell hp)).mono ?_
  rintro e w3 ⟨rfl, hb3⟩
  have B3 : Below w.heap.size w w3 := Below.then_ (by repeat (first | with_reducible exact Below.refl _ _ | with_reducible assumption | ((with_reducible refine Below.setCell ?_ ?_ _); rotate_left; · (first | omega | exact Nat.le_refl _ | (simp <;> omega))) | (with_reducible refine Below.allocW ?_ _) | (with_reducible refine Below.drew ?_) | (with_reducible refine Below.extW ?_ _))) hb3
  have s3 : w.heap.size ≤ w3.heap.size := B3.size
  have z3_0 : w.heap.size < w3.heap.size := by have := hb3.size; (try simp at this); omega
  have y3_0 : w.heap.size ≤ w3.heap.size := Nat.le_of_lt z3_0
  have c3_0 := fun o => hb3.cell (p := ⟨w.heap.size, o, none⟩) (by first | omega | (simp <;> omega))
  have f3_0 := fun o => hb3.frozen (p := ⟨w.heap.size, o, none⟩) (by first | omega | (simp <;> omega))
  go_wp2_with fail
  refine (alive17 _).mono ?_
  rintro e w4 ⟨rfl, hb4⟩
  have B4 : Below w.heap.size w w4 := Below.then_ (by repeat (first | with_reducible exact Below.refl _ _ | with_reducible assumption | ((with_reducible refine Below.setCell ?_ ?_ _); rotate_left; · (first | omega | exact Nat.le_refl _ | (simp <;> omega))) | (with_reducible refine Below.allocW ?_ _) | (with_reducible refine Below.drew ?_) | (with_reducible refine Below.extW ?_ _))) hb4
  have s4 : w.heap.size ≤ w4.heap.size := B4.size
  go_wp2_with fail
  go_ret
  exact ⟨rfl, (by repeat (first | with_reducible exact Below.refl _ _ | with_reducible assumption | ((with_reducible refine Below.setCell ?_ ?_ _); rotate_left; · (first | omega | exact Nat.le_refl _ | (simp <;> omega))) | (with_reducible refine Below.allocW ?_ _) | (with_reducible refine Below.drew ?_) | (with_reducible refine Below.extW ?_ _)))⟩
set_option maxHeartbeats 2000000 in
theorem law_QuantMany_yes (l K : Nat) (k : Int) (r : List Nd) (A : Option Addr) (cap : Nat) (ks : List Int) (A2 : Option Addr) (cap2 : Nat) (w : World) (h : goodL l k K r) (hS : Sl w w.heap.size encN A r) (hI : ints r) (hS2 : Sl w w.heap.size encZ A2 ks) :
    Calls Tryz.prog 8 #[loadedV l k K A r.length cap, .slice A2 ks.length cap2] w fun e w' => e = .returned (.bool true) ∧ Below w.heap.size w w' := by
  have hn : r.length ≤ 67108864 := by have := h.1; omega
  have hr := (goodL_parts h.2.2).1
  have hf := right_fits hr
  have HC := Lib.hid (law16_Load · l K k A cap r h · hI)
  have HS := Lib.hid hS
  have HS2 := Lib.hid hS2
  have HI := Lib.hid hI
  have ht : (totalOf r).1 = sumR r := hf.2
  have hf := hf.1
  have HRA := Lib.hid (fun x W (h : Sl W W.heap.size encN A r) => ref17_At W k l A cap r x h HI.out hn ht hf.roll hf.sum)
  clear h hS hr hI hS2 ht hf
  unfold loadedV refDig at HC
  unfold loadedV
  go_enter Tryz.func8, Tryz.ntmps8
  go_wp2_with fail
  refine (quant_Many_nil _).mono ?_
  rintro e w1 ⟨rfl, hb1⟩
  have B1 : Below w.heap.size w w1 := Below.then_ (by repeat (first | with_reducible exact Below.refl _ _ | with_reducible assumption | ((with_reducible refine Below.setCell ?_ ?_ _); rotate_left; · (first | omega | exact Nat.le_refl _ | (simp <;> omega))) | (with_reducible refine Below.allocW ?_ _) | (with_reducible refine Below.drew ?_) | (with_reducible refine Below.extW ?_ _))) hb1
  have s1 : w.heap.size ≤ w1.heap.size := B1.size
  have z1_0 : w.heap.size < w1.heap.size := by have := hb1.size; (try simp at this); omega
  have y1_0 : w.heap.size ≤ w1.heap.size := Nat.le_of_lt z1_0
  have c1_0 := fun o => hb1.cell (p := ⟨w.heap.size, o, none⟩) (by first | omega | (simp <;> omega))
  have f1_0 := fun o => hb1.frozen (p := ⟨w.heap.size, o, none⟩) (by first | omega | (simp <;> omega))
  go_wp2_with fail
  refine (quant_Many_one _ w1.heap.size 0 (by simp) (by simp)).mono ?_
  rintro e w2 ⟨rfl, hb2⟩
  have B2 : Below w.heap.size w w2 := Below.then_ (by repeat (first | with_reducible exact Below.refl _ _ | with_reducible assumption | ((with_reducible refine Below.setCell ?_ ?_ _); rotate_left; · (first | omega | exact Nat.le_refl _ | (simp <;> omega))) | (with_reducible refine Below.allocW ?_ _) | (with_reducible refine Below.drew ?_) | (with_reducible refine Below.extW ?_ _))) hb2
  have s2 : w.heap.size ≤ w2.heap.size := B2.size
  have z2_0 : w.heap.size < w2.heap.size := by have := hb2.size; (try simp at this); omega
  have y2_0 : w.heap.size ≤ w2.heap.size := Nat.le_of_lt z2_0
  have c2_0 := fun o => hb2.cell (p := ⟨w.heap.size, o, none⟩) (by first | omega | (simp <;> omega))
  have f2_0 := fun o => hb2.frozen (p := ⟨w.heap.size, o, none⟩) (by first | omega | (simp <;> omega))
  go_wp2_with fail
  refine (HC.out _ (HS.out.keep s2 fun p hp => B2.cell hp)).mono ?_
  rintro e w3 ⟨g, F, rfl, hD, _, hb3⟩
  have B3 : Below w.heap.size w w3 := Below.then_ (by repeat (first | with_reducible exact Below.refl _ _ | with_reducible assumption | ((with_reducible refine Below.setCell ?_ ?_ _); rotate_left; · (first | omega | exact Nat.le_refl _ | (simp <;> omega))) | (with_reducible refine Below.allocW ?_ _) | (with_reducible refine Below.drew ?_) | (with_reducible refine Below.extW ?_ _))) hb3
  have s3 : w.heap.size ≤ w3.heap.size := B3.size
  have z3_0 : w.heap.size < w3.heap.size := by have := hb3.size; (try simp at this); omega
  have y3_0 : w.heap.size ≤ w3.heap.size := Nat.le_of_lt z3_0
  have c3_0 := fun o => hb3.cell (p := ⟨w.heap.size, o, none⟩) (by first | omega | (simp <;> omega))
  have f3_0 := fun o => hb3.frozen (p := ⟨w.heap.size, o, none⟩) (by first | omega | (simp <;> omega))
  have KD := Lib.hid (hD.alloc (.cells #[.int .i64 k, .int .i64 l, .slice A r.length cap] 43))
  clear hD
  by_cases hlong : 60 < ks.length
  · clear HRA
    go_wp2_with fail
    refine (alive17 _).mono ?_
    rintro e w4 ⟨rfl, hb4⟩
    have B4 : Below w.heap.size w w4 := Below.then_ (by repeat (first | with_reducible exact Below.refl _ _ | with_reducible assumption | ((with_reducible refine Below.setCell ?_ ?_ _); rotate_left; · (first | omega | exact Nat.le_refl _ | (simp <;> omega))) | (with_reducible refine Below.allocW ?_ _) | (with_reducible refine Below.drew ?_) | (with_reducible refine Below.extW ?_ _))) hb4
    have s4 : w.heap.size ≤ w4.heap.size := B4.size
    go_wp2_with fail
    go_ret
    exact ⟨rfl, (by repeat (first | with_reducible exact Below.refl _ _ | with_reducible assumption | ((with_reducible refine Below.setCell ?_ ?_ _); rotate_left; · (first | omega | exact Nat.le_refl _ | (simp <;> omega))) | (with_reducible refine Below.allocW ?_ _) | (with_reducible refine Below.drew ?_) | (with_reducible refine Below.extW ?_ _)))⟩
  · have hk60 : ks.length ≤ 60 := by omega
    clear hlong
    have HMany := Lib.hid (fun W (hd : DigAt W g K l k r F) (hs : Sl W W.heap.size encZ A2 ks) => quant_Many W g K l k r F A2 cap2 ks hd hn hs (by omega))
    go_wp2_with fail
    obtain ⟨W0, hW0⟩ : ∃ W0, W0 = w3.alloc (.cells #[.int .i64 k, .int .i64 l, .slice A r.length cap] 43) := ⟨_, rfl⟩
    rw [← hW0] at KD ⊢
    have z0 : w3.heap.size < W0.heap.size := by rw [hW0]; simp
    have b0 : Below w.heap.size w W0 := by rw [hW0]; exact (by repeat (first | with_reducible exact Below.refl _ _ | with_reducible assumption | ((with_reducible refine Below.setCell ?_ ?_ _); rotate_left; · (first | omega | exact Nat.le_refl _ | (simp <;> omega))) | (with_reducible refine Below.allocW ?_ _) | (with_reducible refine Below.drew ?_) | (with_reducible refine Below.extW ?_ _)))
    have hblk : W0.heap[w3.heap.size]? = some (.cells #[.int .i64 k, .int .i64 l, .slice A r.length cap] 43 (0, 0)) := by rw [hW0]; exact heap_alloc_new w3 _
    have HBlk := Lib.hid hblk
    have BW := Lib.hid b0
    have sW : w.heap.size ≤ W0.heap.size := b0.size
    have SR0 := Lib.hid (HS.out.keep (B' := W0.heap.size) sW fun p hp => b0.cell hp)
    have SK0 := Lib.hid (HS2.out.keep (B' := W0.heap.size) sW fun p hp => b0.cell hp)
    clear hW0 b0 hblk HC B1 B2 B3 HS HS2 hb3 s1 s2 s3
    go_loopw [11, 12, 13] (fun o bd i wr => ∃ (q : Nat) (L : List Int) (e : Int), q ≤ ks.length ∧ i = .int .i64 q ∧ bd = .int .i64 e ∧ L.length = q ∧ Own wr W0.heap.size 3 encZ o L ∧ ((e = 0 ∧ L = (ks.take q).map (bestOf (lastL l r)) ∧ ∀ x ∈ ks.take q, qWrong r x = 0) ∨ (e ≠ 0 ∧ badOf r ks = e)) ∧ Below W0.heap.size W0 wr) (fun _ _ i _ => ks.length - (intOf i).toNat)
    case atStart => exact ⟨0, [], 0, Nat.zero_le _, rfl, rfl, rfl, Own.nil _ _ _ _, .inl ⟨rfl, by simp, by simp⟩, Below.refl _ _⟩
    case round =>
      obtain ⟨q, L, e, hq, rfl, rfl, hLq, hown, hcase, hB⟩ := hrel
      have HO := Lib.hid hown
      have HB := Lib.hid hB
      have HLq := Lib.hid hLq
      have hsz := hB.size
      have KD2 := Lib.hid (KD.out.below hB)
      have SR := Lib.hid (SR0.out.keep (B' := wr.heap.size) hsz fun p hp => hB.cell hp)
      have SK := Lib.hid (SK0.out.keep (B' := wr.heap.size) hsz fun p hp => hB.cell hp)
      have KB := Lib.hid ((HB.out.block w3.heap.size (by omega)).trans HBlk.out)
      clear hown hB hLq
      rcases hcase with ⟨rfl, hL, hok⟩ | ⟨hne, hbad⟩
      · have HL := Lib.hid hL
        have HOK := Lib.hid hok
        clear hL hok
        by_cases hlt : q < ks.length
        · obtain ⟨c, off, rfl, hc, hcl⟩ := SK.out.at_ hlt
          have d0 := hcl 0 (.int .i64 ks[q]) rfl
          simp only [Nat.mul_one, Nat.add_zero] at d0
          have et : ks.take (q + 1) = ks.take q ++ [ks[q]] := List.take_succ_eq_append_getElem hlt
          have BQ := Lib.hid (fun h => badOf_at (r := r) hlt HOK.out h)
          have ET := Lib.hid et
          have HR := Lib.hid (HRA.out ks[q])
          obtain ⟨x, hx⟩ : ∃ x, x = ks[q] := ⟨_, rfl⟩
          rw [← hx] at d0 BQ ET HR
          unfold pairV atT at HR
          have k0 := blk_cell KB.out
          have zb : w3.heap.size < wr.heap.size := by omega
          clear et hx hcl
          by_cases h0 : qWrong r x = 0
          · rw [if_pos h0] at HR
            have HQ0 := Lib.hid h0
            obtain ⟨y, hy⟩ : ∃ y, y = bestOf (lastL l r) x := ⟨_, rfl⟩
            rw [← hy] at HR
            have HY := Lib.hid hy
            simp only at HR
            clear h0 hy
            go_wp2_with fail
            refine wp_region_ext (by kernel_rfl) (by kernel_rfl) ?_
            repeat (go_big_quiet_step ((go_at_call 35; exact quiet_ext (HR.out _ (SR.out.keep (ext_below _ _).size fun p hp => (ext_below _ _).cell hp)))))
            refine wpQuiet_nil ?_
            intro w4 hb4
            replace hb4 := below_of_ext hb4
            have O4 := Lib.hid (HO.out.below hb4)
            have B4 := Lib.hid (HB.out.trans (hb4.mono hsz))
            have s4 : W0.heap.size ≤ w4.heap.size := B4.out.size
            clear hb4
            go_wp2_with ((at_builtin; refine wpList_push tyZ rfl _ _ rfl encZ w4 W0.heap.size u11 _ rfl O4.out y (by go_simp) rfl ?c1 ?c2 ?c3 ?c4))
            case c1 => have := HLq.out; omega
            case c2 => have := HLq.out; simp only [maxLen]; omega
            case c3 => exact s4
            case c4 =>
              intro v' w5 ho5 _ _ _ hb5 _
              have O5 := Lib.hid ho5
              have B5 := Lib.hid (B4.out.trans hb5)
              clear ho5 hb5
              go_wp2_with fail
              go_roundw
              case rel => exact ⟨q + 1, L ++ [y], 0, by omega, by go_num, rfl, by have := HLq.out; simp; omega, O5.out, .inl ⟨rfl, by rw [ET.out, List.map_append, ← HL.out]; simp [HY.out], by
                rw [ET.out]
                intro z hz
                rcases List.mem_append.1 hz with h | h
                · exact HOK.out z h
                · simp at h; subst h; exact HQ0.out⟩, B5.out⟩
              case measure => simp [intOf]; omega
          · rw [if_neg h0] at HR
            have HBAD := Lib.hid (BQ.out h0)
            have HNE := Lib.hid h0
            generalize qWrong r x = e0 at HR HBAD HNE
            simp only at HR
            clear h0
            go_wp2_with fail
            refine wp_region_ext (by kernel_rfl) (by kernel_rfl) ?_
            repeat (go_big_quiet_step ((go_at_call 35; exact quiet_ext (HR.out _ (SR.out.keep (ext_below _ _).size fun p hp => (ext_below _ _).cell hp)))))
            refine wpQuiet_nil ?_
            intro w4 hb4
            replace hb4 := below_of_ext hb4
            have O4 := Lib.hid (HO.out.below hb4)
            have B4 := Lib.hid (HB.out.trans (hb4.mono hsz))
            have s4 : W0.heap.size ≤ w4.heap.size := B4.out.size
            clear hb4
            go_wp2_with ((at_builtin; refine wpList_push tyZ rfl _ _ rfl encZ w4 W0.heap.size u11 _ rfl O4.out 0 (by go_simp) rfl ?c1 ?c2 ?c3 ?c4))
            case c1 => have := HLq.out; omega
            case c2 => have := HLq.out; simp only [maxLen]; omega
            case c3 => exact s4
            case c4 =>
              intro v' w5 ho5 _ _ _ hb5 _
              have O5 := Lib.hid ho5
              have B5 := Lib.hid (B4.out.trans hb5)
              clear ho5 hb5
              go_wp2_with fail
              go_roundw
              case rel => exact ⟨q + 1, L ++ [0], e0, by omega, by go_num, rfl, by have := HLq.out; simp; omega, O5.out, .inr ⟨HNE.out, HBAD.out⟩, B5.out⟩
              case measure => simp [intOf]; omega
        · obtain rfl : q = ks.length := by omega
          rw [List.take_length] at HL HOK
          have hb0 := badOf_ok HOK.out
          have hml : manyL l r ks = L := by unfold manyL; rw [hb0, if_pos rfl, HL.out]
          have HML := Lib.hid hml
          have HB0 := Lib.hid hb0
          have hl60 : L.length ≤ 67108864 := by have := HLq.out; omega
          clear hb0 hml
          go_wp2_with fail
          refine (HMany.out _ KD2.out SK.out).mono ?_
          rintro e w4 ⟨v, rfl, ho4, hb4⟩
          rw [HB0.out]
          rw [HML.out] at ho4
          have O4 := Lib.hid (HO.out.below hb4)
          have N4 := Lib.hid ho4
          obtain ⟨Av, cv, rfl, _⟩ := ho4.form
          obtain ⟨Au, cu, hu, _⟩ := O4.out.form
          have F4 := Lib.hid (show Below w.heap.size w w4 from BW.out.trans ((HB.out.trans (hb4.mono hsz)).mono sW))
          clear ho4 hb4
          subst hu
          clear HMany HRA SR SK SR0 SK0 KD KD2 HB HO
          go_wp2_with fail
          refine (ref5_Same w4 Av _ cv _ L N4.out.sl O4.out.sl hl60).mono ?_
          rintro e w5 ⟨rfl, hb5⟩
          have F5 := Lib.hid (F4.out.trans (hb5.mono F4.out.size))
          clear hb5
          go_wp2_with fail
          refine (alive17 _).mono ?_
          rintro e w6 ⟨rfl, hb6⟩
          have F6 := Lib.hid (F5.out.trans (hb6.mono F5.out.size))
          clear hb6
          go_wp2_with fail
          go_ret
          exact ⟨rfl, F6.out⟩
      · have HBAD := Lib.hid hbad
        have hne' : (e == 0) = false := by simpa using hne
        have hml : manyL l r ks = [] := by unfold manyL; rw [hbad, if_neg hne]
        have HML := Lib.hid hml
        clear hbad hml
        by_cases hlt : q < ks.length
        all_goals
          go_wp2_with fail
          refine (HMany.out _ KD2.out SK.out).mono ?_
          rintro e' w4 ⟨v, rfl, ho4, hb4⟩
          rw [HBAD.out]
          rw [HML.out] at ho4
          have N4 := Lib.hid ho4
          obtain ⟨Av, cv, rfl, _⟩ := ho4.form
          have F4 := Lib.hid (show Below w.heap.size w w4 from BW.out.trans ((HB.out.trans (hb4.mono hsz)).mono sW))
          clear ho4 hb4 HMany HRA SR SK SR0 SK0 KD KD2 HB HO
          go_wp2_with fail
          refine (ref5_Same w4 Av none cv 0 [] N4.out.sl (Sl.nil) (by simp)).mono ?_
          rintro e' w5 ⟨rfl, hb5⟩
          have F5 := Lib.hid (F4.out.trans (hb5.mono F4.out.size))
          clear hb5
          go_wp2_with fail
          refine (alive17 _).mono ?_
          rintro e' w6 ⟨rfl, hb6⟩
          have F6 := Lib.hid (F5.out.trans (hb6.mono F5.out.size))
          clear hb6
          go_wp2_with fail
          go_ret
          exact ⟨rfl, F6.out⟩
/-- A list of ints that came in. -/
theorem open_Ints {H : Type} {enc : TypeId × Value → H} {w : World} {base : Nat} {spare : Nat → Bool} {held : Bool} {r : Reach} {b0 : Nat} {v : Value} {d : DataW H} {p : List MemPlace}
    (hv : Value.okWide Tryz.prog w r b0 22 v) (h : DataW.Trod enc Tryz.prog w base spare held 22 v d p) :
    ∃ (ks : List Int) (A : Option Addr) (cap : Nat), v = .slice A ks.length cap ∧ Sl w w.heap.size encZ A ks ∧ (∀ x ∈ ks, i64 x) ∧ ks.length ≤ maxLen := by
  obtain ⟨A, n, cap, rfl⟩ := okWide_slice Tryz.underlying22 hv
  obtain ⟨fuel, hf⟩ := h
  obtain ⟨l, A', cap', hc, rest⟩ := slice_of_trod encZ i64 Tryz.underlying22 (by kernel_rfl) (by decide) (fun fuel cs x h => by
    obtain ⟨k, e0, _, k0⟩ := DataW.trod_int Tryz.underlying3 h
    exact ⟨k, e0, i64_of_wf k0⟩) hf
  have hc' : Value.slice A n cap = .slice A' l.length cap' := by simpa [Value.cells] using hc
  rw [hc']
  exact ⟨l, A', cap', rfl, rest⟩
theorem law_QuantMany (l k K : Int) (r : List Nd) (A : Option Addr) (cap : Nat) (ks : List Int) (A2 : Option Addr) (cap2 : Nat) (W : World) (hS : Sl W W.heap.size encN A r) (hI : ints r) (_ : i64 l) (_ : i64 k) (_ : i64 K) (hm : r.length ≤ maxLen) (hS2 : Sl W W.heap.size encZ A2 ks) (_ : ∀ x ∈ ks, i64 x) (_ : ks.length ≤ maxLen) :
    Calls Tryz.prog 8 #[loadedV l k K A r.length cap, .slice A2 ks.length cap2] W fun e W' => e = .returned (.bool true) ∧ Below W.heap.size W W' := by
  by_cases h : goodL l k K r
  · obtain ⟨n, m, rfl, rfl⟩ := goodL_nat h.2.2
    exact law_QuantMany_yes n m k r A cap ks A2 cap2 W h hS hI hS2
  · exact law_QuantMany_no l k K r A cap ks A2 cap2 W h hS hI hm
end Go.Proofs.YtilkfolhglpaoaaGreat
