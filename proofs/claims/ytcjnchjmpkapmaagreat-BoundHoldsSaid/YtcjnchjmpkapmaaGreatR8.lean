/-
  Texts of this proof, one behind the other: EachOf, Bound, Bound2, BoundRef.
-/
import Derived.Deep.DeepCutAuto
import Derived.Test.YtcjnchjmpkapmaaGreatP2
import Derived.Test.YtcjnchjmpkapmaaGreatP3
import Derived.Test.YtcjnchjmpkapmaaGreatR5
/- Package bound: each: a function value called for all nodes. -/
set_option linter.unusedSimpArgs false namespace Go.Proofs.YtcjnchjmpkapmaaGreat
open Go.ChangeShapes Go.WideShapes Go.ChangeAt Go.RowKit
set_option linter.unusedVariables false
set_option maxRecDepth 100000

structure Stays (I : Nat → World → Prop) : Prop where
  st : ∀ q W W', I q W → Below W.heap.size W W' → I q W'
set_option maxHeartbeats 1000000 in
theorem bound_each (w : World) (g K l : Nat) (k : Int) (r : List Nd) (F : Nat → Prop) (h : DigAt w g K l k r F) (hn : r.length ≤ 67108864)
    (fn : Nat) (caps : Array Value) (eg : ∀ args W, (callFunc fn args).run Tryz.prog W = .ok (.enter fn args) W)
    (I : Nat → World → Prop) (hI : Stays I) (h0 : I 0 w)
    (step : ∀ (q : Nat) (hq : q < r.length) (W : World), I q W → Calls Tryz.prog fn (#[.int .i64 (endsOf l r[q].1).1, .int .i64 (endsOf l r[q].1).2.1, .int .i64 r[q].2] ++ caps) W fun e W' => e = .returned (.tuple #[]) ∧ I (q + 1) W' ∧ KeepN W W') :
    Calls Tryz.prog 121 #[.pointer (some ⟨g, 0, none⟩), .func (.func fn) #[] caps] w fun e w' => e = .returned (.tuple #[]) ∧ I r.length w' ∧ w.heap.size ≤ w'.heap.size := by
  have hf := h.fits
  have hll := h.l_le
  have HD := Lib.hid h
  have H0 := Lib.hid h0
  have HS := Lib.hid step
  clear h h0 step
  go_enter Tryz.func121, Tryz.ntmps121
  go_wp2_with fail
  refine (digest_Conf _ g K l k r F HD.out).mono ?_
  rintro e w1 ⟨rfl, hb1⟩
  have B1 : Below w.heap.size w w1 := Below.then_ (by repeat (first | with_reducible exact Below.refl _ _ | with_reducible assumption | ((with_reducible refine Below.setCell ?_ ?_ _); rotate_left; · (first | omega | exact Nat.le_refl _ | (simp <;> omega))) | (with_reducible refine Below.allocW ?_ _) | (with_reducible refine Below.drew ?_) | (with_reducible refine Below.extW ?_ _))) hb1
  have s1 : w.heap.size ≤ w1.heap.size := B1.size
  go_wp2_with fail
  refine (digest_Nodes _ g K l k r F (HD.out.below B1) hn).mono ?_
  rintro e w2 ⟨v, rfl, ho, hb2⟩
  have B2 : Below w.heap.size w w2 := Below.then_ (by repeat (first | with_reducible exact Below.refl _ _ | with_reducible assumption | ((with_reducible refine Below.setCell ?_ ?_ _); rotate_left; · (first | omega | exact Nat.le_refl _ | (simp <;> omega))) | (with_reducible refine Below.allocW ?_ _) | (with_reducible refine Below.drew ?_) | (with_reducible refine Below.extW ?_ _))) hb2
  have s2 : w.heap.size ≤ w2.heap.size := B2.size
  have HO := Lib.hid ho
  have H2 := Lib.hid (hI.st 0 w w2 H0.out B2)
  obtain ⟨A, cap, rfl, _⟩ := ho.form
  clear ho hb1 hb2 B1
  go_wp2_with fail
  go_loopw [16] (fun i wr => ∃ q : Nat, q ≤ r.length ∧ i = .int .i64 q ∧ Own wr w1.heap.size 153 encN (.slice A r.length cap) r ∧ I q wr ∧ w.heap.size ≤ wr.heap.size) (fun i _ => r.length - (intOf i).toNat)
  case atStart => exact ⟨0, Nat.zero_le _, rfl, HO.out, H2.out, s2⟩
  case round =>
    obtain ⟨j, hj, rfl, hown, hIj, hs⟩ := hrel
    have KO := Lib.hid hown
    have KI := Lib.hid hIj
    clear hown hIj
    by_cases hlt : j < r.length
    · obtain ⟨c, off, rfl, hc, hcl⟩ := KO.out.sl.at_ hlt
      have d0 := hcl 0 (.int .i64 r[j].1) rfl
      have d1 := hcl 1 (.int .i64 r[j].2) rfl
      simp only [Nat.add_zero] at d0
      have hx := hf.roll.2 _ (List.getElem_mem hlt)
      have hxl := hf.lt _ (List.getElem_mem hlt)
      have hp := pow_48 (n := l) hll.2
      have ST := Lib.hid (HS.out j hlt)
      obtain ⟨x, hxe⟩ : ∃ x, x = r[j] := ⟨_, rfl⟩
      rw [← hxe] at d0 d1 hx hxl ST
      have hx1 : x.1 ≤ 562949953421312 := by omega
      have HE := Lib.hid (twig_Ends · l x.1 (by omega))
      generalize endsOf l x.1 = t at HE ST
      obtain ⟨t1, t2, t3⟩ := t
      unfold endsV at HE
      clear hcl hxe hxl hp hx
      go_wp2_with fail
      refine (HE.out _).mono ?_
      rintro e w3 ⟨rfl, hb3⟩
      have c3 := fun o => hb3.cell (p := ⟨wr.heap.size, o, none⟩) (by simp)
      have z3 : wr.heap.size < w3.heap.size := by have := hb3.size; simp at this; omega
      have BW : Below wr.heap.size wr w3 := ((Below.refl wr.heap.size wr).alloc (Nat.le_refl _) _).trans (hb3.mono (by simp))
      have I3 := Lib.hid (hI.st j wr w3 KI.out BW)
      have O3 := Lib.hid (KO.out.below BW)
      clear BW hb3
      go_wp2_with fail
      refine (ST.out _ I3.out).mono ?_
      rintro e w4 ⟨rfl, hI4, hk4⟩
      have I4 := Lib.hid hI4
      have O4 := Lib.hid (hk4.own O3.out)
      have z4 := hk4.1
      clear hI4 hk4
      go_wp2_with fail
      go_roundw
      case rel => exact ⟨j + 1, by omega, by go_num, O4.out, I4.out, by omega⟩
      case measure => simp [intOf]; omega
    · obtain rfl : j = r.length := by omega
      go_wp2_with fail
      go_end0
      exact ⟨rfl, KI.out, hs⟩
end Go.Proofs.YtcjnchjmpkapmaaGreat
/- Package bound: Least, Greatest. -/
namespace Go.Proofs.YtcjnchjmpkapmaaGreat
open Go.ChangeShapes Go.WideShapes Go.ChangeAt Go.RowKit
set_option linter.unusedVariables false
set_option maxRecDepth 100000

def wrongOf (r : List Nd) : Int := if sumR r = 0 then 7 else 0
theorem bound_wrong (w : World) (g K l : Nat) (k : Int) (r : List Nd) (F : Nat → Prop) (h : DigAt w g K l k r F) : Calls Tryz.prog 120 #[.pointer (some ⟨g, 0, none⟩)] w fun e w' => e = .returned (.int .i64 (wrongOf r)) ∧ Below w.heap.size w w' := by
  have HN := Lib.hid (digest_N w g K l k r F h)
  unfold wrongOf
  by_cases hN : sumR r = 0
  · rw [if_pos hN]
    rw [hN] at HN
    clear hN h
    go_enter Tryz.func120, Tryz.ntmps120
    go_wp2_with fail
    refine (HN.out).mono ?_
    rintro e w1 ⟨rfl, hb1⟩
    have B1 : Below w.heap.size w w1 := Below.then_ (by repeat (first | with_reducible exact Below.refl _ _ | with_reducible assumption | ((with_reducible refine Below.setCell ?_ ?_ _); rotate_left; · (first | omega | exact Nat.le_refl _ | (simp <;> omega))) | (with_reducible refine Below.allocW ?_ _) | (with_reducible refine Below.drew ?_) | (with_reducible refine Below.extW ?_ _))) hb1
    have s1 : w.heap.size ≤ w1.heap.size := B1.size
    go_wp2_with fail
    go_ret
    exact ⟨rfl, (by repeat (first | with_reducible exact Below.refl _ _ | with_reducible assumption | ((with_reducible refine Below.setCell ?_ ?_ _); rotate_left; · (first | omega | exact Nat.le_refl _ | (simp <;> omega))) | (with_reducible refine Below.allocW ?_ _) | (with_reducible refine Below.drew ?_) | (with_reducible refine Below.extW ?_ _)))⟩
  · rw [if_neg hN]
    have hN0 : ((sumR r) == 0) = false := by simpa using hN
    clear hN h
    go_enter Tryz.func120, Tryz.ntmps120
    go_wp2_with fail
    refine (HN.out).mono ?_
    rintro e w1 ⟨rfl, hb1⟩
    have B1 : Below w.heap.size w w1 := Below.then_ (by repeat (first | with_reducible exact Below.refl _ _ | with_reducible assumption | ((with_reducible refine Below.setCell ?_ ?_ _); rotate_left; · (first | omega | exact Nat.le_refl _ | (simp <;> omega))) | (with_reducible refine Below.allocW ?_ _) | (with_reducible refine Below.drew ?_) | (with_reducible refine Below.extW ?_ _))) hb1
    have s1 : w.heap.size ≤ w1.heap.size := B1.size
    go_wp2_with fail
    go_ret
    exact ⟨rfl, (by repeat (first | with_reducible exact Below.refl _ _ | with_reducible assumption | ((with_reducible refine Below.setCell ?_ ?_ _); rotate_left; · (first | omega | exact Nat.le_refl _ | (simp <;> omega))) | (with_reducible refine Below.allocW ?_ _) | (with_reducible refine Below.drew ?_) | (with_reducible refine Below.extW ?_ _)))⟩

def leastStep (l : Int) (a : Int × Int) (x : Nd) : Int × Int := (min a.1 (endsOf l x.1).1, min a.2 (endsOf l x.1).2.1)
def leastOf (l : Int) (r : List Nd) : Int × Int := r.foldl (leastStep l) (9223372036854775807, 9223372036854775807)
theorem leastOf_succ {l : Int} {r : List Nd} {q : Nat} (h : q < r.length) : leastOf l (r.take (q + 1)) = leastStep l (leastOf l (r.take q)) r[q] := by
  unfold leastOf
  rw [List.take_succ_eq_append_getElem h, List.foldl_append]; rfl
theorem bound_Least1 (w : World) (lo hi n x y : Int) (b : Nat) (h : bothAt w b x y) :
    Calls Tryz.prog 122 #[.int .i64 lo, .int .i64 hi, .int .i64 n, .pointer (some ⟨b, 0, none⟩)] w fun e w' => e = .returned (.tuple #[]) ∧ w' = (w.setCell ⟨b, 0, none⟩ (.int .i64 (min x lo))).setCell ⟨b, 1, none⟩ (.int .i64 (min y hi)) := by
  have cc := blk_cell h
  have cf := blk_frozen h
  have zb := lt_of_block h
  clear h
  go_enter Tryz.func122, Tryz.ntmps122
  go_wp2_with fail
  go_end0
  exact ⟨rfl, rfl⟩
theorem KeepN.set {w : World} {b o : Nat} {x y : Int} (h : bothAt w b x y) (u : Value) : KeepN w (w.setCell ⟨b, o, none⟩ u) := by
  refine ⟨by simp [World.setCell], fun c cs fr hc => ?_⟩
  have hne : c ≠ b := by
    rintro rfl
    unfold bothAt at h
    rw [h] at hc
    injection hc with hc
    injection hc with _ ht
    exact absurd ht (by decide)
  exact (Below.heap_setCell _ _ _ _ hne).trans hc
theorem Below.set_at {B : Nat} {w W : World} {b o : Nat} {u : Value} (h : Below B w W) (hb : B ≤ b) : Below B w (W.setCell ⟨b, o, none⟩ u) := h.setCell (p := ⟨b, o, none⟩) hb u

def BoundI (w : World) (b0 b1 : Nat) (f : Nat → Int × Int) (q : Nat) (W : World) : Prop := Below w.heap.size w W ∧ bothAt W b0 0 0 ∧ bothAt W b1 (f q).1 (f q).2
theorem boundI_stays (w : World) (b0 b1 : Nat) (f : Nat → Int × Int) : Stays (BoundI w b0 b1 f) := ⟨fun q W W' ⟨h1, h2, h3⟩ hb => ⟨h1.trans (hb.mono h1.size), h2.below hb, h3.below hb⟩⟩
def leastT (l : Int) (r : List Nd) : Int × Int × Int := if sumR r = 0 then (0, 0, 7) else ((leastOf l r).1, (leastOf l r).2, 0)
theorem enters_Least : ∀ args W, (callFunc 122 args).run Tryz.prog W = .ok (.enter 122 args) W := enters_of Tryz.func122 (by kernel_rfl) rfl
theorem bound_Least (w : World) (g K l : Nat) (k : Int) (r : List Nd) (F : Nat → Prop) (h : DigAt w g K l k r F) (hn : r.length ≤ 67108864) :
    Calls Tryz.prog 47 #[.pointer (some ⟨g, 0, none⟩)] w fun e w' => e = .returned (bothV (leastT l r)) ∧ Below w.heap.size w w' := by
  have HD := Lib.hid (h.alloc (.cells #[.int .i64 0, .int .i64 0] 57))
  have HW := Lib.hid (bound_wrong · g K l k r F ·)
  clear h
  unfold bothV leastT
  unfold wrongOf at HW
  by_cases hN : sumR r = 0
  · rw [if_pos hN]
    rw [if_pos hN] at HW
    clear hN
    go_enter Tryz.func47, Tryz.ntmps47
    go_wp2_with fail
    refine (HW.out _ HD.out).mono ?_
    rintro e w1 ⟨rfl, hb1⟩
    have B1 : Below w.heap.size w w1 := Below.then_ (by repeat (first | with_reducible exact Below.refl _ _ | with_reducible assumption | ((with_reducible refine Below.setCell ?_ ?_ _); rotate_left; · (first | omega | exact Nat.le_refl _ | (simp <;> omega))) | (with_reducible refine Below.allocW ?_ _) | (with_reducible refine Below.drew ?_) | (with_reducible refine Below.extW ?_ _))) hb1
    have s1 : w.heap.size ≤ w1.heap.size := B1.size
    have z1_0 : w.heap.size < w1.heap.size := by have := hb1.size; (try simp at this); omega
    have y1_0 : w.heap.size ≤ w1.heap.size := Nat.le_of_lt z1_0
    have c1_0 := fun o => hb1.cell (p := ⟨w.heap.size, o, none⟩) (by first | omega | (simp <;> omega))
    have f1_0 := fun o => hb1.frozen (p := ⟨w.heap.size, o, none⟩) (by first | omega | (simp <;> omega))
    go_wp2_with fail
    exact bodyPost_ret (v := .tuple #[.agg #[.int .i64 0, .int .i64 0], .int .i64 7]) (by simp only [results, Tryz.results47]; go_simp) rfl ⟨rfl, (by repeat (first | with_reducible exact Below.refl _ _ | with_reducible assumption | ((with_reducible refine Below.setCell ?_ ?_ _); rotate_left; · (first | omega | exact Nat.le_refl _ | (simp <;> omega))) | (with_reducible refine Below.allocW ?_ _) | (with_reducible refine Below.drew ?_) | (with_reducible refine Below.extW ?_ _)))⟩
  · rw [if_neg hN]
    rw [if_neg hN] at HW
    clear hN
    have N0 := Lib.hid (bothAt.new w 0 0)
    go_enter Tryz.func47, Tryz.ntmps47
    go_wp2_with fail
    refine (HW.out _ HD.out).mono ?_
    rintro e w1 ⟨rfl, hb1⟩
    have B1 : Below w.heap.size w w1 := Below.then_ (by repeat (first | with_reducible exact Below.refl _ _ | with_reducible assumption | ((with_reducible refine Below.setCell ?_ ?_ _); rotate_left; · (first | omega | exact Nat.le_refl _ | (simp <;> omega))) | (with_reducible refine Below.allocW ?_ _) | (with_reducible refine Below.drew ?_) | (with_reducible refine Below.extW ?_ _))) hb1
    have s1 : w.heap.size ≤ w1.heap.size := B1.size
    have z1_0 : w.heap.size < w1.heap.size := by have := hb1.size; (try simp at this); omega
    have y1_0 : w.heap.size ≤ w1.heap.size := Nat.le_of_lt z1_0
    have c1_0 := fun o => hb1.cell (p := ⟨w.heap.size, o, none⟩) (by first | omega | (simp <;> omega))
    have f1_0 := fun o => hb1.frozen (p := ⟨w.heap.size, o, none⟩) (by first | omega | (simp <;> omega))
    have n0 := Lib.hid ((N0.out.below hb1).alloc (.cells #[.int .i64 9223372036854775807, .int .i64 9223372036854775807] 57))
    have n1 := Lib.hid (bothAt.new w1 9223372036854775807 9223372036854775807)
    have HD1 := Lib.hid ((HD.out.below hb1).alloc (.cells #[.int .i64 9223372036854775807, .int .i64 9223372036854775807] 57))
    have BA : Hid (Below w.heap.size w (w1.alloc (.cells #[.int .i64 9223372036854775807, .int .i64 9223372036854775807] 57))) := Lib.hid (by repeat (first | with_reducible exact Below.refl _ _ | with_reducible assumption | ((with_reducible refine Below.setCell ?_ ?_ _); rotate_left; · (first | omega | exact Nat.le_refl _ | (simp <;> omega))) | (with_reducible refine Below.allocW ?_ _) | (with_reducible refine Below.drew ?_) | (with_reducible refine Below.extW ?_ _)))
    go_wp2_with fail
    refine (bound_each _ g K l k r F HD1.out hn 122 #[.pointer (some ⟨w1.heap.size, 0, none⟩)] enters_Least (BoundI w w.heap.size w1.heap.size (fun q => leastOf l (r.take q))) (boundI_stays _ _ _ _) ⟨BA.out, n0.out, n1.out⟩ ?_).mono ?_
    · intro q hq W ⟨i1, i2, i3⟩
      refine (bound_Least1 W _ _ _ _ _ _ i3).mono ?_
      rintro e W' ⟨rfl, rfl⟩
      refine ⟨rfl, ⟨Below.set_at (Below.set_at i1 (by omega)) (by omega), (i2.set (by omega) _).set (by omega) _, ?_⟩, keepN_t (KeepN.set i3 _) (KeepN.set (i3.set0 _) _)⟩
      simp only
      rw [leastOf_succ hq]
      exact (i3.set0 _).set1 _
    · rintro e w2 ⟨rfl, ⟨i1, i2, i3⟩, hs2⟩
      simp only [List.take_length] at i3
      have cc := blk_cell i3
      have cf := blk_frozen i2
      have c0 := blk_cell i2
      have z0 := lt_of_block i2
      have z1 := lt_of_block i3
      clear i2 i3
      go_wp2_with fail
      exact bodyPost_ret (v := .tuple #[.agg #[.int .i64 (leastOf l r).1, .int .i64 (leastOf l r).2], .int .i64 0]) (by simp only [results, Tryz.results47]; go_simp) rfl ⟨rfl, (by repeat (first | with_reducible exact Below.refl _ _ | with_reducible assumption | ((with_reducible refine Below.setCell ?_ ?_ _); rotate_left; · (first | omega | exact Nat.le_refl _ | (simp <;> omega))) | (with_reducible refine Below.allocW ?_ _) | (with_reducible refine Below.drew ?_) | (with_reducible refine Below.extW ?_ _)))⟩
end Go.Proofs.YtcjnchjmpkapmaaGreat
/- Package bound: Greatest, Spread. -/
namespace Go.Proofs.YtcjnchjmpkapmaaGreat
open Go.ChangeShapes Go.WideShapes Go.ChangeAt Go.RowKit
set_option linter.unusedVariables false
set_option maxRecDepth 100000

def mostStep (l : Int) (a : Int × Int) (x : Nd) : Int × Int := (max a.1 (endsOf l x.1).1, max a.2 (endsOf l x.1).2.1)
def mostOf (l : Int) (r : List Nd) : Int × Int := r.foldl (mostStep l) (0, 0)
theorem mostOf_succ {l : Int} {r : List Nd} {q : Nat} (h : q < r.length) : mostOf l (r.take (q + 1)) = mostStep l (mostOf l (r.take q)) r[q] := by
  unfold mostOf
  rw [List.take_succ_eq_append_getElem h, List.foldl_append]; rfl
theorem bound_Greatest1 (w : World) (lo hi n x y : Int) (b : Nat) (h : bothAt w b x y) :
    Calls Tryz.prog 123 #[.int .i64 lo, .int .i64 hi, .int .i64 n, .pointer (some ⟨b, 0, none⟩)] w fun e w' => e = .returned (.tuple #[]) ∧ w' = (w.setCell ⟨b, 0, none⟩ (.int .i64 (max x lo))).setCell ⟨b, 1, none⟩ (.int .i64 (max y hi)) := by
  have cc := blk_cell h
  have cf := blk_frozen h
  have zb := lt_of_block h
  clear h
  go_enter Tryz.func123, Tryz.ntmps123
  go_wp2_with fail
  go_end0
  exact ⟨rfl, rfl⟩
def mostT (l : Int) (r : List Nd) : Int × Int × Int := if sumR r = 0 then (0, 0, 7) else ((mostOf l r).1, (mostOf l r).2, 0)
theorem enters_Greatest : ∀ args W, (callFunc 123 args).run Tryz.prog W = .ok (.enter 123 args) W := enters_of Tryz.func123 (by kernel_rfl) rfl
theorem bound_Greatest (w : World) (g K l : Nat) (k : Int) (r : List Nd) (F : Nat → Prop) (h : DigAt w g K l k r F) (hn : r.length ≤ 67108864) :
    Calls Tryz.prog 48 #[.pointer (some ⟨g, 0, none⟩)] w fun e w' => e = .returned (bothV (mostT l r)) ∧ Below w.heap.size w w' := by
  have HD := Lib.hid (h.alloc (.cells #[.int .i64 0, .int .i64 0] 57))
  have HW := Lib.hid (bound_wrong · g K l k r F ·)
  clear h
  unfold bothV mostT
  unfold wrongOf at HW
  by_cases hN : sumR r = 0
  · rw [if_pos hN]
    rw [if_pos hN] at HW
    clear hN
    go_enter Tryz.func48, Tryz.ntmps48
    go_wp2_with fail
    refine (HW.out _ HD.out).mono ?_
    rintro e w1 ⟨rfl, hb1⟩
    have B1 : Below w.heap.size w w1 := Below.then_ (by repeat (first | with_reducible exact Below.refl _ _ | with_reducible assumption | ((with_reducible refine Below.setCell ?_ ?_ _); rotate_left; · (first | omega | exact Nat.le_refl _ | (simp <;> omega))) | (with_reducible refine Below.allocW ?_ _) | (with_reducible refine Below.drew ?_) | (with_reducible refine Below.extW ?_ _))) hb1
    have s1 : w.heap.size ≤ w1.heap.size := B1.size
    have z1_0 : w.heap.size < w1.heap.size := by have := hb1.size; (try simp at this); omega
    have y1_0 : w.heap.size ≤ w1.heap.size := Nat.le_of_lt z1_0
    have c1_0 := fun o => hb1.cell (p := ⟨w.heap.size, o, none⟩) (by first | omega | (simp <;> omega))
    have f1_0 := fun o => hb1.frozen (p := ⟨w.heap.size, o, none⟩) (by first | omega | (simp <;> omega))
    go_wp2_with fail
    exact bodyPost_ret (v := .tuple #[.agg #[.int .i64 0, .int .i64 0], .int .i64 7]) (by simp only [results, Tryz.results48]; go_simp) rfl ⟨rfl, (by repeat (first | with_reducible exact Below.refl _ _ | with_reducible assumption | ((with_reducible refine Below.setCell ?_ ?_ _); rotate_left; · (first | omega | exact Nat.le_refl _ | (simp <;> omega))) | (with_reducible refine Below.allocW ?_ _) | (with_reducible refine Below.drew ?_) | (with_reducible refine Below.extW ?_ _)))⟩
  · rw [if_neg hN]
    rw [if_neg hN] at HW
    clear hN
    have N0 := Lib.hid (bothAt.new w 0 0)
    go_enter Tryz.func48, Tryz.ntmps48
    go_wp2_with fail
    refine (HW.out _ HD.out).mono ?_
    rintro e w1 ⟨rfl, hb1⟩
    have B1 : Below w.heap.size w w1 := Below.then_ (by repeat (first | with_reducible exact Below.refl _ _ | with_reducible assumption | ((with_reducible refine Below.setCell ?_ ?_ _); rotate_left; · (first | omega | exact Nat.le_refl _ | (simp <;> omega))) | (with_reducible refine Below.allocW ?_ _) | (with_reducible refine Below.drew ?_) | (with_reducible refine Below.extW ?_ _))) hb1
    have s1 : w.heap.size ≤ w1.heap.size := B1.size
    have z1_0 : w.heap.size < w1.heap.size := by have := hb1.size; (try simp at this); omega
    have y1_0 : w.heap.size ≤ w1.heap.size := Nat.le_of_lt z1_0
    have c1_0 := fun o => hb1.cell (p := ⟨w.heap.size, o, none⟩) (by first | omega | (simp <;> omega))
    have f1_0 := fun o => hb1.frozen (p := ⟨w.heap.size, o, none⟩) (by first | omega | (simp <;> omega))
    have n0 := Lib.hid ((N0.out.below hb1).alloc (.cells #[.int .i64 0, .int .i64 0] 57))
    have n1 := Lib.hid (bothAt.new w1 0 0)
    have HD1 := Lib.hid ((HD.out.below hb1).alloc (.cells #[.int .i64 0, .int .i64 0] 57))
    have BA : Hid (Below w.heap.size w (w1.alloc (.cells #[.int .i64 0, .int .i64 0] 57))) := Lib.hid (by repeat (first | with_reducible exact Below.refl _ _ | with_reducible assumption | ((with_reducible refine Below.setCell ?_ ?_ _); rotate_left; · (first | omega | exact Nat.le_refl _ | (simp <;> omega))) | (with_reducible refine Below.allocW ?_ _) | (with_reducible refine Below.drew ?_) | (with_reducible refine Below.extW ?_ _)))
    go_wp2_with fail
    refine (bound_each _ g K l k r F HD1.out hn 123 #[.pointer (some ⟨w1.heap.size, 0, none⟩)] enters_Greatest (BoundI w w.heap.size w1.heap.size (fun q => mostOf l (r.take q))) (boundI_stays _ _ _ _) ⟨BA.out, n0.out, n1.out⟩ ?_).mono ?_
    · intro q hq W ⟨i1, i2, i3⟩
      refine (bound_Greatest1 W _ _ _ _ _ _ i3).mono ?_
      rintro e W' ⟨rfl, rfl⟩
      refine ⟨rfl, ⟨Below.set_at (Below.set_at i1 (by omega)) (by omega), (i2.set (by omega) _).set (by omega) _, ?_⟩, keepN_t (KeepN.set i3 _) (KeepN.set (i3.set0 _) _)⟩
      simp only
      rw [mostOf_succ hq]
      exact (i3.set0 _).set1 _
    · rintro e w2 ⟨rfl, ⟨i1, i2, i3⟩, hs2⟩
      simp only [List.take_length] at i3
      have cc := blk_cell i3
      have cf := blk_frozen i2
      have c0 := blk_cell i2
      have z0 := lt_of_block i2
      have z1 := lt_of_block i3
      clear i2 i3
      go_wp2_with fail
      exact bodyPost_ret (v := .tuple #[.agg #[.int .i64 (mostOf l r).1, .int .i64 (mostOf l r).2], .int .i64 0]) (by simp only [results, Tryz.results48]; go_simp) rfl ⟨rfl, (by repeat (first | with_reducible exact Below.refl _ _ | with_reducible assumption | ((with_reducible refine Below.setCell ?_ ?_ _); rotate_left; · (first | omega | exact Nat.le_refl _ | (simp <;> omega))) | (with_reducible refine Below.allocW ?_ _) | (with_reducible refine Below.drew ?_) | (with_reducible refine Below.extW ?_ _)))⟩
end Go.Proofs.YtcjnchjmpkapmaaGreat
/- The reference of layer 20 (bound): Ends. -/
namespace Go.Proofs.YtcjnchjmpkapmaaGreat
open Go.ChangeShapes Go.WideShapes Go.ChangeAt Go.RowKit
set_option linter.unusedVariables false
set_option maxRecDepth 100000

structure E4 where
  a : Int
  b : Int
  c : Int
  d : Int
def e4Step (l : Int) (e : E4) (x : Nd) : E4 := ⟨if (endsOf l x.1).1 < e.a then (endsOf l x.1).1 else e.a, if (endsOf l x.1).2.1 < e.b then (endsOf l x.1).2.1 else e.b, if e.c < (endsOf l x.1).1 then (endsOf l x.1).1 else e.c, if e.d < (endsOf l x.1).2.1 then (endsOf l x.1).2.1 else e.d⟩
def e4Of (l : Int) (r : List Nd) : E4 := r.foldl (e4Step l) ⟨281474976710656, 281474976710656, -1, -1⟩
end Go.Proofs.YtcjnchjmpkapmaaGreat
