/-
  Texts of this proof, one behind the other: Plus, Mean, Worst, Worst2, Alive20, Order, WorstRef, Spread, BoundPlain, Spread2, BoundHoldLaw, BoundMeanLaw, BoundHoldsW.
-/
import Derived.Laws.Externs
import Derived.Test.YtcjnchjmpkapmaaGreatP3
import Derived.Test.YtcjnchjmpkapmaaGreatR5
import Derived.Test.YtcjnchjmpkapmaaGreatR6
import Derived.Test.YtcjnchjmpkapmaaGreatR7
import Derived.Test.YtcjnchjmpkapmaaGreatR8
/- Package reckon: Plus, Over. -/
set_option linter.unusedSimpArgs false namespace Go.Proofs.YtcjnchjmpkapmaaGreat
open Go.ChangeShapes Go.WideShapes Go.ChangeAt Go.RowKit
set_option linter.unusedVariables false
set_option maxRecDepth 100000

theorem run_Add64 (x y c : Int) (hx : 0 ≤ x) (hy : 0 ≤ y) (hc0 : 0 ≤ c) (hc : c ≤ 1) (w : World) :
    (callFunc 288 #[.int .u64 x, .int .u64 y, .int .u64 c]).run Tryz.prog w = .ok (.value (.tuple #[.int .u64 ((x + y + c) % 18446744073709551616), .int .u64 ((x + y + c) / 18446744073709551616)])) w := by
  rw [run_callFunc_extern Tryz.func288 (by kernel_rfl) (by kernel_rfl) (by kernel_rfl) (e := add64Entry) (by kernel_rfl), run_add64 x y c hx hy hc0 hc]
  rfl
def wideV (n : Nat) : Value := .agg #[.int .u64 (n % 18446744073709551616 : Nat), .int .u64 (n / 18446744073709551616 : Nat)]
theorem wide_add {n p : Nat} : ((n + p) % 18446744073709551616 = (n % 18446744073709551616 + p % 18446744073709551616) % 18446744073709551616) ∧
    (n + p) / 18446744073709551616 = n / 18446744073709551616 + p / 18446744073709551616 + (n % 18446744073709551616 + p % 18446744073709551616) / 18446744073709551616 := by omega
theorem reckon_Plus (w : World) (n x c : Nat) (hx : x ≤ 9223372036854775807) (hc : c ≤ 9223372036854775807) (hn : (n + x * c) / 18446744073709551616 ≤ 18446744073709551615) :
    Calls Tryz.prog 219 #[wideV n, .int .i64 x, .int .i64 c] w fun e w' => e = .returned (.tuple #[wideV (n + x * c), .bool true]) ∧ Below w.heap.size w w' := by
  have HC := Lib.hid (show decide (0 ≤ (x : Int) ∧ 0 ≤ (c : Int)) = true by simp)
  have HM : Hid (∀ W, Calls Tryz.prog 223 #[.int .u64 x, .int .u64 c] W fun e w' => e = .returned (.tuple #[.int .u64 (x * c / 18446744073709551616 : Nat), .int .u64 (x * c % 18446744073709551616 : Nat)]) ∧ w' = W) := Lib.hid fun W => Tryz.bits_Mul64 x c (by omega) (by omega) W
  unfold wideV
  have hw := @wide_add n (x * c)
  rw [hw.1, hw.2]
  rw [hw.2] at hn
  have n0l := Nat.mod_lt n (show 18446744073709551616 > 0 by decide)
  have p0l := Nat.mod_lt (x * c) (show 18446744073709551616 > 0 by decide)
  generalize n % 18446744073709551616 = n0 at n0l hn ⊢
  generalize n / 18446744073709551616 = n1 at hn ⊢
  generalize x * c % 18446744073709551616 = p0 at HM p0l hn ⊢
  generalize x * c / 18446744073709551616 = p1 at HM hn ⊢
  have k1 : (n0 + p0) / 18446744073709551616 ≤ 1 := by omega
  have r1 : Hid (∀ W, (callFunc 288 #[.int .u64 n0, .int .u64 p0, .int .u64 0]).run Tryz.prog W = .ok (.value (.tuple #[.int .u64 ((n0 + p0) % 18446744073709551616 : Nat), .int .u64 ((n0 + p0) / 18446744073709551616 : Nat)])) W) := Lib.hid fun W => by
    rw [run_Add64 n0 p0 0 (by omega) (by omega) (by omega) (by omega)]
    congr 5 <;> omega
  generalize (n0 + p0) % 18446744073709551616 = u0 at r1 ⊢
  generalize (n0 + p0) / 18446744073709551616 = k at r1 hn k1 ⊢
  have r2 : Hid (∀ W, (callFunc 288 #[.int .u64 n1, .int .u64 p1, .int .u64 k]).run Tryz.prog W = .ok (.value (.tuple #[.int .u64 (n1 + p1 + k : Nat), .int .u64 0])) W) := Lib.hid fun W => by
    have e1 : ((n1 : Int) + p1 + k) % 18446744073709551616 = (n1 + p1 + k : Nat) := by omega
    have e2 : ((n1 : Int) + p1 + k) / 18446744073709551616 = 0 := by omega
    rw [run_Add64 n1 p1 k (by omega) (by omega) (by omega) (by omega), e1, e2]
  generalize n1 + p1 + k = u1 at r2 ⊢
  clear hw n0l p0l hn k1
  replace r1 := r1.out
  replace r2 := r2.out
  go_enter Tryz.func219, Tryz.ntmps219
  go_wp2_with fail
  refine (reckon_counts _ x c).mono ?_
  rintro e w1 ⟨rfl, hb1⟩
  have B1 : Below w.heap.size w w1 := Below.then_ (by repeat (first | with_reducible exact Below.refl _ _ | with_reducible assumption | ((with_reducible refine Below.setCell ?_ ?_ _); rotate_left; · (first | omega | exact Nat.le_refl _ | (simp <;> omega))) | (with_reducible refine Below.allocW ?_ _) | (with_reducible refine Below.drew ?_) | (with_reducible refine Below.extW ?_ _))) hb1
  have s1 : w.heap.size ≤ w1.heap.size := B1.size
  have z1_0 : w.heap.size < w1.heap.size := by have := hb1.size; (try simp at this); omega
  have y1_0 : w.heap.size ≤ w1.heap.size := Nat.le_of_lt z1_0
  have c1_0 := fun o => hb1.cell (p := ⟨w.heap.size, o, none⟩) (by first | omega | (simp <;> omega))
  have f1_0 := fun o => hb1.frozen (p := ⟨w.heap.size, o, none⟩) (by first | omega | (simp <;> omega))
  have z1_1 : w.heap.size + 1 < w1.heap.size := by have := hb1.size; (try simp at this); omega
  have y1_1 : w.heap.size + 1 ≤ w1.heap.size := Nat.le_of_lt z1_1
  have c1_1 := fun o => hb1.cell (p := ⟨w.heap.size + 1, o, none⟩) (by first | omega | (simp <;> omega))
  have f1_1 := fun o => hb1.frozen (p := ⟨w.heap.size + 1, o, none⟩) (by first | omega | (simp <;> omega))
  rw [HC.out]
  go_wp2_with fail
  refine (HM.out _).mono ?_
  rintro e w2 ⟨rfl, rfl⟩
  go_wp2_with fail
  exact bodyPost_ret (v := .tuple #[.agg #[.int .u64 u0, .int .u64 u1], .bool true]) (by simp only [results, Tryz.results219]; go_simp) rfl ⟨rfl, (by repeat (first | with_reducible exact Below.refl _ _ | with_reducible assumption | ((with_reducible refine Below.setCell ?_ ?_ _); rotate_left; · (first | omega | exact Nat.le_refl _ | (simp <;> omega))) | (with_reducible refine Below.allocW ?_ _) | (with_reducible refine Below.drew ?_) | (with_reducible refine Below.extW ?_ _)))⟩
theorem wide_div (n : Nat) : n / 18446744073709551616 * 18446744073709551616 + n % 18446744073709551616 = n := Nat.div_add_mod' _ _
theorem reckon_Over (w : World) (n c : Nat) (h1 : 1 ≤ c) (hc : c ≤ 9223372036854775807) (hq : n / c ≤ 9223372036854775807) :
    Calls Tryz.prog 125 #[wideV n, .int .i64 c] w fun e w' => e = .returned (.tuple #[.int .i64 (n / c : Nat), .bool (decide (0 < n % c)), .bool true]) ∧ Below w.heap.size w w' := by
  have hn1 : n / 18446744073709551616 < c := by
    apply Nat.lt_of_not_le
    intro h
    have h2 : c * 18446744073709551616 ≤ n := Nat.le_trans (Nat.mul_le_mul_right _ h) (Nat.div_mul_le_self n 18446744073709551616)
    have h3 : 18446744073709551616 ≤ n / c := (Nat.le_div_iff_mul_le (by omega)).2 (by rw [Nat.mul_comm]; exact h2)
    omega
  have hD := Lib.hid (fun w => bits_Div64 w (n / 18446744073709551616) (n % 18446744073709551616) c (by omega) hn1 (Nat.mod_lt _ (by decide)))
  rw [wide_div] at hD
  have hr0 : n % c ≤ c := Nat.le_of_lt (Nat.mod_lt n (show c > 0 by omega))
  unfold wideV
  generalize n % 18446744073709551616 = n0 at hD ⊢
  generalize n / 18446744073709551616 = n1 at hD hn1 ⊢
  generalize n / c = q at hD hq ⊢
  generalize n % c = r at hD hr0 ⊢
  have hn1' : decide ((c : Int) ≤ (n1 : Int)) = false := by simp; omega
  have h1' : decide ((c : Int) < 1) = false := by simp; omega
  go_enter Tryz.func125, Tryz.ntmps125
  go_wp2_with fail
  refine (hD.out _).mono ?_
  rintro e w1 ⟨rfl, hb1⟩
  have B1 : Below w.heap.size w w1 := Below.then_ (by repeat (first | with_reducible exact Below.refl _ _ | with_reducible assumption | ((with_reducible refine Below.setCell ?_ ?_ _); rotate_left; · (first | omega | exact Nat.le_refl _ | (simp <;> omega))) | (with_reducible refine Below.allocW ?_ _) | (with_reducible refine Below.drew ?_) | (with_reducible refine Below.extW ?_ _))) hb1
  have s1 : w.heap.size ≤ w1.heap.size := B1.size
  go_wp2_with fail
  refine (reckon_count _ q (by omega)).mono ?_
  rintro e w2 ⟨rfl, hb2⟩
  have B2 : Below w.heap.size w w2 := Below.then_ (by repeat (first | with_reducible exact Below.refl _ _ | with_reducible assumption | ((with_reducible refine Below.setCell ?_ ?_ _); rotate_left; · (first | omega | exact Nat.le_refl _ | (simp <;> omega))) | (with_reducible refine Below.allocW ?_ _) | (with_reducible refine Below.drew ?_) | (with_reducible refine Below.extW ?_ _))) hb2
  have s2 : w.heap.size ≤ w2.heap.size := B2.size
  go_wp2_with fail
  go_ret3
  exact ⟨by simp, (by repeat (first | with_reducible exact Below.refl _ _ | with_reducible assumption | ((with_reducible refine Below.setCell ?_ ?_ _); rotate_left; · (first | omega | exact Nat.le_refl _ | (simp <;> omega))) | (with_reducible refine Below.allocW ?_ _) | (with_reducible refine Below.drew ?_) | (with_reducible refine Below.extW ?_ _)))⟩
end Go.Proofs.YtcjnchjmpkapmaaGreat
/- Package bound: Sum, Mean. -/
namespace Go.Proofs.YtcjnchjmpkapmaaGreat
open Go.ChangeShapes Go.WideShapes Go.ChangeAt Go.RowKit
set_option linter.unusedVariables false
set_option maxRecDepth 100000

def sumW (l : Int) (hi : Bool) : List Nd → Nat
  | [] => 0
  | x :: r => (if hi = true then (endsOf l x.1).2.1 else (endsOf l x.1).1).toNat * x.2.toNat + sumW l hi r
theorem sumW_append (l : Int) (hi : Bool) (a b : List Nd) : sumW l hi (a ++ b) = sumW l hi a + sumW l hi b := by
  induction a with
  | nil => simp [sumW]
  | cons x a ih => simp only [List.cons_append, sumW, ih]; omega
theorem sumW_succ {l : Int} {hi : Bool} {r : List Nd} {q : Nat} (h : q < r.length) : sumW l hi (r.take (q + 1)) = sumW l hi (r.take q) + (if hi = true then (endsOf l r[q].1).2.1 else (endsOf l r[q].1).1).toNat * r[q].2.toNat := by
  rw [List.take_succ_eq_append_getElem h, sumW_append]
  simp [sumW]
theorem sumW_le {l : Nat} (hl : l ≤ 48) {r : List Nd} (hr : Roll r) (hn : ∀ x ∈ r, isNode l x.1 = true) (hi : Bool) : sumW l hi r ≤ 281474976710655 * (sumR r).toNat := by
  induction r with
  | nil => simp [sumW]
  | cons x r ih =>
    have hx := ends_48 hl (hn x (by simp))
    have h0 := sumR_nonneg hr.tail
    have hx2 := (hr.2 x (by simp)).2
    have hi2 := ih hr.tail (fun y hy => hn y (by simp [hy]))
    have e : (sumR (x :: r)).toNat = x.2.toNat + (sumR r).toNat := by simp only [sumR]; omega
    rw [e, Nat.mul_add]
    simp only [sumW]
    have : (if hi = true then (endsOf l x.1).2.1 else (endsOf l x.1).1).toNat ≤ 281474976710655 := by split <;> omega
    have := Nat.mul_le_mul_right x.2.toNat this
    omega
def wideAt (w : World) (b n : Nat) : Prop := w.heap[b]? = some (.cells #[.int .u64 (n % 18446744073709551616 : Nat), .int .u64 (n / 18446744073709551616 : Nat)] 202 (0, 0))
theorem wideAt.below {w w' : World} {b n : Nat} (h : wideAt w b n) (hb : Below w.heap.size w w') : wideAt w' b n := blk_below h hb
theorem wideAt.alloc {w : World} {b n : Nat} (h : wideAt w b n) (o : Obj) : wideAt (w.alloc o) b n := h.below ((Below.refl _ _).alloc (Nat.le_refl _) o)
theorem wideAt.set {w : World} {b n q o : Nat} (h : wideAt w b n) (hne : b ≠ q) (u : Value) : wideAt (w.setCell ⟨q, o, none⟩ u) b n := (Below.heap_setCell _ _ _ _ hne).trans h
theorem wideAt.put {w : World} {b n : Nat} (h : wideAt w b n) (m : Nat) : wideAt ((w.setCell ⟨b, 0, none⟩ (.int .u64 (m % 18446744073709551616 : Nat))).setCell ⟨b, 1, none⟩ (.int .u64 (m / 18446744073709551616 : Nat))) b m :=
  heap_set_at (i := 1) (heap_set_at (i := 0) h _) _
theorem KeepN.setT {w W : World} {b o t : Nat} (k : KeepN w W) (h : TypeAt W b t) (ht : t ≠ 153) (u : Value) : KeepN w (W.setCell ⟨b, o, none⟩ u) := by
  refine keepN_t k ⟨by simp [World.setCell], fun c cs fr hc => ?_⟩
  have hne : c ≠ b := by
    rintro rfl
    obtain ⟨cs', fr', h⟩ := h
    rw [h] at hc
    injection hc with hc
    injection hc with _ h2
    exact ht h2
  exact (Below.heap_setCell _ _ _ _ hne).trans hc
theorem wideAt.ty {w : World} {b n : Nat} (h : wideAt w b n) : TypeAt w b 202 := .of h
theorem KeepN.more {w W W' : World} (k : KeepN w W) (h : Below W.heap.size W W') : KeepN w W' := keepN_t k (KeepN.of_below h)
set_option maxHeartbeats 1000000 in
theorem bound_Sum1 (w : World) (lo hi c n m b0 b1 : Nat) (h0 : wideAt w b0 n) (h1 : wideAt w b1 m) (hne : b0 ≠ b1) (hlo : lo ≤ 9223372036854775807) (hhi : hi ≤ 9223372036854775807) (hc : c ≤ 9223372036854775807)
    (q0 : (n + lo * c) / 18446744073709551616 ≤ 18446744073709551615) (q1 : (m + hi * c) / 18446744073709551616 ≤ 18446744073709551615) :
    Calls Tryz.prog 218 #[.int .i64 lo, .int .i64 hi, .int .i64 c, .pointer (some ⟨b0, 0, none⟩), .pointer (some ⟨b1, 0, none⟩)] w fun e w' => e = .returned (.tuple #[]) ∧ wideAt w' b0 (n + lo * c) ∧ wideAt w' b1 (m + hi * c) ∧ KeepN w w' ∧ (∀ B, B ≤ b0 → B ≤ b1 → B ≤ w.heap.size → Below B w w') := by
  have P0 := Lib.hid (reckon_Plus · n lo c hlo hc q0)
  have P1 := Lib.hid (reckon_Plus · m hi c hhi hc q1)
  have H0 := Lib.hid h0
  have H1 := Lib.hid h1
  unfold wideV at P0 P1
  have cc := blk_cell h0
  have cf := blk_frozen h0
  have zb := lt_of_block h0
  have cd := blk_cell h1
  have cg := blk_frozen h1
  have zc := lt_of_block h1
  generalize n + lo * c = n' at P0 ⊢
  generalize m + hi * c = m' at P1 ⊢
  clear h0 h1 q0 q1
  go_enter Tryz.func218, Tryz.ntmps218
  go_wp2_with fail
  refine (P0.out _).mono ?_
  rintro e w1 ⟨rfl, hb1⟩
  have K0 := Lib.hid (H0.out.below hb1)
  have K1 := Lib.hid (H1.out.below hb1)
  have cc1 := blk_cell K0.out
  have cf1 := blk_frozen K0.out
  have zb1 := lt_of_block K0.out
  have cd1 := blk_cell K1.out
  have cg1 := blk_frozen K1.out
  have zc1 := lt_of_block K1.out
  go_wp2_with fail
  refine (P1.out _).mono ?_
  rintro e w2 ⟨rfl, hb2⟩
  have J0 := Lib.hid ((K0.out.put n').below hb2)
  have J1 := Lib.hid (((K1.out.set hne.symm _).set hne.symm _).below hb2)
  have cd2 := blk_cell J1.out
  have cg2 := blk_frozen J1.out
  have zc2 := lt_of_block J1.out
  clear cc cf zb cd cg zc cc1 cf1 zb1 cd1 cg1 zc1
  go_wp2_with fail
  go_end0
  refine ⟨rfl, (J0.out.set hne _).set hne _, J1.out.put _, ?_, fun B x0 x1 x2 => ?_⟩
  · exact (((((KeepN.of_below hb1).setT K0.out.ty (by decide) _).setT K0.out.ty.setCell (by decide) _).more hb2).setT J1.out.ty (by decide) _).setT J1.out.ty.setCell (by decide) _
  · have s1 := hb1.size
    have s2 := hb2.size
    simp only [World.size_setCell] at s2
    exact (((((hb1.mono x2).setCell (p := ⟨b0, 0, none⟩) x0 _).setCell (p := ⟨b0, 1, none⟩) x0 _).trans (hb2.mono (by simp only [World.size_setCell]; omega))).setCell (p := ⟨b1, 0, none⟩) x1 _).setCell (p := ⟨b1, 1, none⟩) x1 _
def SumI (w : World) (l : Int) (r : List Nd) (b0 b1 : Nat) (q : Nat) (W : World) : Prop := Below w.heap.size w W ∧ wideAt W b0 (sumW l false (r.take q)) ∧ wideAt W b1 (sumW l true (r.take q))
theorem sumI_stays (w : World) (l : Int) (r : List Nd) (b0 b1 : Nat) : Stays (SumI w l r b0 b1) := ⟨fun q W W' ⟨h1, h2, h3⟩ hb => ⟨h1.trans (hb.mono h1.size), h2.below hb, h3.below hb⟩⟩
theorem enters_Sum : ∀ args W, (callFunc 218 args).run Tryz.prog W = .ok (.enter 218 args) W := enters_of Tryz.func218 (by kernel_rfl) rfl
theorem sum_step {l : Nat} (hl1 : 1 ≤ l ∧ l ≤ 48) {r : List Nd} (hf : Fits l r) {q : Nat} (hq : q < r.length) : ∃ lo hi c : Nat, (endsOf l r[q].1).1 = lo ∧ (endsOf l r[q].1).2.1 = hi ∧ r[q].2 = c ∧ lo ≤ 281474976710655 ∧ hi ≤ 281474976710655 ∧ c ≤ 72057594037927935 ∧
    sumW l false (r.take (q + 1)) = sumW l false (r.take q) + lo * c ∧ sumW l true (r.take (q + 1)) = sumW l true (r.take q) + hi * c ∧ sumW l false (r.take (q + 1)) / 18446744073709551616 ≤ 18446744073709551615 ∧ sumW l true (r.take (q + 1)) / 18446744073709551616 ≤ 18446744073709551615 := by
  have hn := hf.nodes hl1
  have hl := hl1.2
  have hx := ends_48 hl (hn _ (List.getElem_mem hq))
  have hx2 := (hf.roll.2 _ (List.getElem_mem hq)).2
  have hc := sumR_take_le hf.roll (q + 1)
  have hc2 := sumR_take_succ hq
  have hc3 := sumR_nonneg (hf.roll.take q)
  have hs := hf.sum
  have b0 := sumW_le hl (hf.roll.take (q + 1)) (fun x hx => hn x (List.mem_of_mem_take hx)) false
  have b1 := sumW_le hl (hf.roll.take (q + 1)) (fun x hx => hn x (List.mem_of_mem_take hx)) true
  have hm : 281474976710655 * (sumR (r.take (q + 1))).toNat ≤ 281474976710655 * 72057594037927935 := Nat.mul_le_mul_left _ (by omega)
  refine ⟨(endsOf l r[q].1).1.toNat, (endsOf l r[q].1).2.1.toNat, r[q].2.toNat, by omega, by omega, by omega, by omega, by omega, by omega, ?_, ?_, by omega, by omega⟩
  · rw [sumW_succ hq]; simp
  · rw [sumW_succ hq]; simp
theorem bound_Sum (w : World) (g K l : Nat) (k : Int) (r : List Nd) (F : Nat → Prop) (h : DigAt w g K l k r F) (hn : r.length ≤ 67108864) :
    Calls Tryz.prog 124 #[.pointer (some ⟨g, 0, none⟩)] w fun e w' => e = .returned (.tuple #[wideV (sumW l false r), wideV (sumW l true r)]) ∧ Below w.heap.size w w' := by
  have HD := Lib.hid ((h.alloc (.cells #[.int .u64 0, .int .u64 0] 202)).alloc (.cells #[.int .u64 0, .int .u64 0] 202))
  have hf := h.fits
  have hl := h.l_le
  have N0 : Hid (wideAt ((w.alloc (.cells #[.int .u64 0, .int .u64 0] 202)).alloc (.cells #[.int .u64 0, .int .u64 0] 202)) w.heap.size 0) := Lib.hid ((show wideAt (w.alloc (.cells #[.int .u64 0, .int .u64 0] 202)) w.heap.size 0 from heap_alloc_new _ _).alloc _)
  have N1 : Hid (wideAt ((w.alloc (.cells #[.int .u64 0, .int .u64 0] 202)).alloc (.cells #[.int .u64 0, .int .u64 0] 202)) (w.heap.size + 1) 0) := Lib.hid (heap_new_at _ _ _ (by simp))
  have BA : Hid (Below w.heap.size w ((w.alloc (.cells #[.int .u64 0, .int .u64 0] 202)).alloc (.cells #[.int .u64 0, .int .u64 0] 202))) := Lib.hid (by repeat (first | with_reducible exact Below.refl _ _ | with_reducible assumption | ((with_reducible refine Below.setCell ?_ ?_ _); rotate_left; · (first | omega | exact Nat.le_refl _ | (simp <;> omega))) | (with_reducible refine Below.allocW ?_ _) | (with_reducible refine Below.drew ?_) | (with_reducible refine Below.extW ?_ _)))
  clear h
  unfold wideV
  go_enter Tryz.func124, Tryz.ntmps124
  go_wp2_with fail
  refine (bound_each _ g K l k r F HD.out hn 218 #[.pointer (some ⟨w.heap.size, 0, none⟩), .pointer (some ⟨w.heap.size + 1, 0, none⟩)] enters_Sum (SumI w l r w.heap.size (w.heap.size + 1)) (sumI_stays _ _ _ _ _) ⟨BA.out, N0.out, N1.out⟩ ?_).mono ?_
  · intro q hq W ⟨i1, i2, i3⟩
    obtain ⟨lo, hi, c, e1, e2, e3, g1, g2, g3, e4, e5, g4, g5⟩ := sum_step hl hf hq
    rw [e1, e2, e3]
    have hs := i1.size
    refine (bound_Sum1 W lo hi c _ _ _ _ i2 i3 (by omega) (by omega) (by omega) (by omega) (by rw [← e4]; exact g4) (by rw [← e5]; exact g5)).mono ?_
    rintro e W' ⟨rfl, j2, j3, hk, hB⟩
    exact ⟨rfl, ⟨i1.trans (hB _ (Nat.le_refl _) (by omega) hs), by rw [e4]; exact j2, by rw [e5]; exact j3⟩, hk⟩
  · rintro e w2 ⟨rfl, ⟨i1, i2, i3⟩, hs2⟩
    simp only [List.take_length] at i2 i3
    have cc := blk_cell i3
    have cf := blk_frozen i3
    have c0 := blk_cell i2
    have f0 := blk_frozen i2
    have z0 := lt_of_block i2
    have z1 := lt_of_block i3
    clear i2 i3
    go_wp2_with fail
    go_region
    all_goals go_wp2_with fail
    all_goals exact bodyPost_ret (v := .tuple #[.agg #[.int .u64 (sumW l false r % 18446744073709551616 : Nat), .int .u64 (sumW l false r / 18446744073709551616 : Nat)], .agg #[.int .u64 (sumW l true r % 18446744073709551616 : Nat), .int .u64 (sumW l true r / 18446744073709551616 : Nat)]]) (by simp only [results, Tryz.results124]; go_simp) rfl ⟨rfl, (by repeat (first | with_reducible exact Below.refl _ _ | with_reducible assumption | ((with_reducible refine Below.setCell ?_ ?_ _); rotate_left; · (first | omega | exact Nat.le_refl _ | (simp <;> omega))) | (with_reducible refine Below.allocW ?_ _) | (with_reducible refine Below.drew ?_) | (with_reducible refine Below.extW ?_ _)))⟩
def meanT (l : Int) (r : List Nd) : Int × Int × Int := if sumR r = 0 then (0, 0, 7) else ((sumW l false r / (sumR r).toNat : Nat), (sumW l true r / (sumR r).toNat + (if sumW l true r % (sumR r).toNat = 0 then 0 else 1) : Nat), 0)
set_option maxHeartbeats 1000000 in
theorem bound_Mean (w : World) (g K l : Nat) (k : Int) (r : List Nd) (F : Nat → Prop) (h : DigAt w g K l k r F) (hn : r.length ≤ 67108864) :
    Calls Tryz.prog 50 #[.pointer (some ⟨g, 0, none⟩)] w fun e w' => e = .returned (bothV (meanT l r)) ∧ Below w.heap.size w w' := by
  have HD := Lib.hid (h.alloc (.cells #[.int .i64 0, .int .i64 0] 57))
  have HW := Lib.hid (bound_wrong · g K l k r F ·)
  have hf := h.fits
  have hl := h.l_le
  have hs0 := sumR_nonneg hf.roll
  have hs1 := hf.sum
  have b0 := sumW_le hl.2 hf.roll (hf.nodes hl) false
  have b1 := sumW_le hl.2 hf.roll (hf.nodes hl) true
  clear h
  unfold bothV meanT
  unfold wrongOf at HW
  by_cases hN : sumR r = 0
  · rw [if_pos hN]
    rw [if_pos hN] at HW
    clear hN b0 b1
    go_enter Tryz.func50, Tryz.ntmps50
    go_wp2_with fail
    refine (HW.out _ HD.out).mono ?_
    rintro e w1 ⟨rfl, hb1⟩
    have B1 : Below w.heap.size w w1 := Below.then_ (by repeat (first | with_reducible exact Below.refl _ _ | with_reducible assumption | ((with_reducible refine Below.setCell ?_ ?_ _); rotate_left; · (first | omega | exact Nat.le_refl _ | (simp <;> omega))) | (with_reducible refine Below.allocW ?_ _) | (with_reducible refine Below.drew ?_) | (with_reducible refine Below.extW ?_ _))) hb1
    have s1 : w.heap.size ≤ w1.heap.size := B1.size
    have z1_0 : w.heap.size < w1.heap.size := by have := hb1.size; (try simp at this); omega
    have y1_0 : w.heap.size ≤ w1.heap.size := Nat.le_of_lt z1_0
    have c1_0 := fun o => hb1.cell (p := ⟨w.heap.size, o, none⟩) (by first | omega | (simp <;> omega))
    have f1_0 := fun o => hb1.frozen (p := ⟨w.heap.size, o, none⟩) (by first | omega | (simp <;> omega))
    go_wp2_with fail
    exact bodyPost_ret (v := .tuple #[.agg #[.int .i64 0, .int .i64 0], .int .i64 7]) (by simp only [results, Tryz.results50]; go_simp) rfl ⟨rfl, (by repeat (first | with_reducible exact Below.refl _ _ | with_reducible assumption | ((with_reducible refine Below.setCell ?_ ?_ _); rotate_left; · (first | omega | exact Nat.le_refl _ | (simp <;> omega))) | (with_reducible refine Below.allocW ?_ _) | (with_reducible refine Below.drew ?_) | (with_reducible refine Below.extW ?_ _)))⟩
  · rw [if_neg hN]
    rw [if_neg hN] at HW
    have HN := Lib.hid (digest_N · g K l k r F ·)
    have HS := Lib.hid (bound_Sum · g K l k r F · hn)
    obtain ⟨c, hc⟩ : ∃ c : Nat, (sumR r).toNat = c := ⟨_, rfl⟩
    have hc' : sumR r = c := by omega
    rw [hc] at b0 b1 ⊢
    rw [hc'] at HN
    have c1 : 1 ≤ c := by omega
    have c2 : c ≤ 9223372036854775807 := by omega
    have q0 : sumW l false r / c ≤ 281474976710655 := (Nat.div_le_iff_le_mul (by omega)).2 (by omega)
    have q1 : sumW l true r / c ≤ 281474976710655 := (Nat.div_le_iff_le_mul (by omega)).2 (by omega)
    generalize sumW l false r = n at HS q0 ⊢
    generalize sumW l true r = m at HS q1 ⊢
    have O0 := Lib.hid (reckon_Over · n c c1 c2 (by omega))
    have O1 := Lib.hid (reckon_Over · m c c1 c2 (by omega))
    unfold wideV at HS O0 O1
    generalize n % 18446744073709551616 = n0 at HS O0
    generalize n / 18446744073709551616 = n1 at HS O0
    generalize m % 18446744073709551616 = m0 at HS O1
    generalize m / 18446744073709551616 = m1 at HS O1
    generalize n / c = u at O0 q0 ⊢
    generalize m / c = v at O1 q1 ⊢
    generalize decide (0 < n % c) = nb at O0
    clear hN b0 b1 hc hc' hs0 hs1
    cases hd : decide (0 < m % c)
    all_goals
      rw [hd] at O1
      simp only [decide_eq_true_eq, decide_eq_false_iff_not] at hd
      first | rw [if_pos (show m % c = 0 by omega)] | rw [if_neg (show ¬ m % c = 0 by omega)]
      clear hd
      go_enter Tryz.func50, Tryz.ntmps50
      go_wp2_with fail
      refine (HW.out _ HD.out).mono ?_
      rintro e w1 ⟨rfl, hb1⟩
      have B1 : Below w.heap.size w w1 := Below.then_ (by repeat (first | with_reducible exact Below.refl _ _ | with_reducible assumption | ((with_reducible refine Below.setCell ?_ ?_ _); rotate_left; · (first | omega | exact Nat.le_refl _ | (simp <;> omega))) | (with_reducible refine Below.allocW ?_ _) | (with_reducible refine Below.drew ?_) | (with_reducible refine Below.extW ?_ _))) hb1
      have s1 : w.heap.size ≤ w1.heap.size := B1.size
      have z1_0 : w.heap.size < w1.heap.size := by have := hb1.size; (try simp at this); omega
      have y1_0 : w.heap.size ≤ w1.heap.size := Nat.le_of_lt z1_0
      have c1_0 := fun o => hb1.cell (p := ⟨w.heap.size, o, none⟩) (by first | omega | (simp <;> omega))
      have f1_0 := fun o => hb1.frozen (p := ⟨w.heap.size, o, none⟩) (by first | omega | (simp <;> omega))
      have HD1 := Lib.hid (HD.out.below hb1)
      have N1 := Lib.hid ((bothAt.new w 0 0).below hb1)
      go_wp2_with fail
      refine (HS.out _ HD1.out).mono ?_
      rintro e w2 ⟨rfl, hb2⟩
      have B2 : Below w.heap.size w w2 := Below.then_ (by repeat (first | with_reducible exact Below.refl _ _ | with_reducible assumption | ((with_reducible refine Below.setCell ?_ ?_ _); rotate_left; · (first | omega | exact Nat.le_refl _ | (simp <;> omega))) | (with_reducible refine Below.allocW ?_ _) | (with_reducible refine Below.drew ?_) | (with_reducible refine Below.extW ?_ _))) hb2
      have s2 : w.heap.size ≤ w2.heap.size := B2.size
      have z2_0 : w.heap.size < w2.heap.size := by have := hb2.size; (try simp at this); omega
      have y2_0 : w.heap.size ≤ w2.heap.size := Nat.le_of_lt z2_0
      have c2_0 := fun o => hb2.cell (p := ⟨w.heap.size, o, none⟩) (by first | omega | (simp <;> omega))
      have f2_0 := fun o => hb2.frozen (p := ⟨w.heap.size, o, none⟩) (by first | omega | (simp <;> omega))
      have N2 := Lib.hid (((N1.out.below hb2).alloc (.cells #[.int .u64 n0, .int .u64 n1] 202)).alloc (.cells #[.int .u64 m0, .int .u64 m1] 202))
      have HD2 := Lib.hid (((HD1.out.below hb2).alloc (.cells #[.int .u64 n0, .int .u64 n1] 202)).alloc (.cells #[.int .u64 m0, .int .u64 m1] 202))
      go_wp2_with fail
      refine wp_region_ext (by kernel_rfl) (by kernel_rfl) ?_
      repeat (go_big_quiet_step (first
        | (go_at_call 26; exact quiet_ext (HN.out _ (HD2.out.below (ext_below _ _))))
        | (go_at_call 125; exact quiet_ext (O0.out _))))
      refine wpQuiet_nil ?_
      intro w3 hb3
      replace hb3 := below_of_ext hb3
      have B3 : Below w.heap.size w w3 := Below.then_ (by repeat (first | with_reducible exact Below.refl _ _ | with_reducible assumption | ((with_reducible refine Below.setCell ?_ ?_ _); rotate_left; · (first | omega | exact Nat.le_refl _ | (simp <;> omega))) | (with_reducible refine Below.allocW ?_ _) | (with_reducible refine Below.drew ?_) | (with_reducible refine Below.extW ?_ _))) hb3
      have s3 : w.heap.size ≤ w3.heap.size := B3.size
      have z3_0 : w.heap.size < w3.heap.size := by have := hb3.size; (try simp at this); omega
      have y3_0 : w.heap.size ≤ w3.heap.size := Nat.le_of_lt z3_0
      have c3_0 := fun o => hb3.cell (p := ⟨w.heap.size, o, none⟩) (by first | omega | (simp <;> omega))
      have f3_0 := fun o => hb3.frozen (p := ⟨w.heap.size, o, none⟩) (by first | omega | (simp <;> omega))
      have z3_1 : w2.heap.size + 1 < w3.heap.size := by have := hb3.size; (try simp at this); omega
      have y3_1 : w2.heap.size + 1 ≤ w3.heap.size := Nat.le_of_lt z3_1
      have c3_1 := fun o => hb3.cell (p := ⟨w2.heap.size + 1, o, none⟩) (by first | omega | (simp <;> omega))
      have f3_1 := fun o => hb3.frozen (p := ⟨w2.heap.size + 1, o, none⟩) (by first | omega | (simp <;> omega))
      have HD3 := Lib.hid (HD2.out.below hb3)
      have N3 := Lib.hid (N2.out.below hb3)
      go_wp2_with fail
      refine wp_region_ext (by kernel_rfl) (by kernel_rfl) ?_
      repeat (go_big_quiet_step (first
        | (go_at_call 26; exact quiet_ext (HN.out _ (HD3.out.below (ext_below _ _))))
        | (go_at_call 125; exact quiet_ext (O1.out _))))
      refine wpQuiet_nil ?_
      intro w4 hb4
      replace hb4 := below_of_ext hb4
      have B4 : Below w.heap.size w w4 := Below.then_ (by repeat (first | with_reducible exact Below.refl _ _ | with_reducible assumption | ((with_reducible refine Below.setCell ?_ ?_ _); rotate_left; · (first | omega | exact Nat.le_refl _ | (simp <;> omega))) | (with_reducible refine Below.allocW ?_ _) | (with_reducible refine Below.drew ?_) | (with_reducible refine Below.extW ?_ _))) hb4
      have s4 : w.heap.size ≤ w4.heap.size := B4.size
      have N4 := N3.out.below hb4
      have cc := blk_cell N4
      have cf := blk_frozen N4
      have zz := lt_of_block N4
      clear N4
      go_wp2_with fail
      first
        | exact bodyPost_ret (v := .tuple #[.agg #[.int .i64 u, .int .i64 (v + 0 : Nat)], .int .i64 0]) (by simp only [results, Tryz.results50]; go_simp) rfl ⟨rfl, (by repeat (first | with_reducible exact Below.refl _ _ | with_reducible assumption | ((with_reducible refine Below.setCell ?_ ?_ _); rotate_left; · (first | omega | exact Nat.le_refl _ | (simp <;> omega))) | (with_reducible refine Below.allocW ?_ _) | (with_reducible refine Below.drew ?_) | (with_reducible refine Below.extW ?_ _)))⟩
        | exact bodyPost_ret (v := .tuple #[.agg #[.int .i64 u, .int .i64 (v + 1 : Nat)], .int .i64 0]) (by simp only [results, Tryz.results50]; go_simp) rfl ⟨rfl, (by repeat (first | with_reducible exact Below.refl _ _ | with_reducible assumption | ((with_reducible refine Below.setCell ?_ ?_ _); rotate_left; · (first | omega | exact Nat.le_refl _ | (simp <;> omega))) | (with_reducible refine Below.allocW ?_ _) | (with_reducible refine Below.drew ?_) | (with_reducible refine Below.extW ?_ _)))⟩
end Go.Proofs.YtcjnchjmpkapmaaGreat
/- Package bound: Worst, Spread. -/
namespace Go.Proofs.YtcjnchjmpkapmaaGreat
open Go.ChangeShapes Go.WideShapes Go.ChangeAt Go.RowKit
set_option linter.unusedVariables false
set_option maxRecDepth 100000

def intAt (w : World) (b : Nat) (x : Int) : Prop := w.heap[b]? = some (.cells #[.int .i64 x] 3 (0, 0))
theorem intAt.below {w w' : World} {b : Nat} {x : Int} (h : intAt w b x) (hb : Below w.heap.size w w') : intAt w' b x := blk_below h hb
theorem intAt.alloc {w : World} {b : Nat} {x : Int} (h : intAt w b x) (o : Obj) : intAt (w.alloc o) b x := h.below ((Below.refl _ _).alloc (Nat.le_refl _) o)
theorem intAt.set {w : World} {b q o : Nat} {x : Int} (h : intAt w b x) (hne : b ≠ q) (u : Value) : intAt (w.setCell ⟨q, o, none⟩ u) b x := (Below.heap_setCell _ _ _ _ hne).trans h
theorem intAt.put {w : World} {b : Nat} {x : Int} (h : intAt w b x) (y : Int) : intAt (w.setCell ⟨b, 0, none⟩ (.int .i64 y)) b y := heap_set_at (i := 0) h _
theorem intAt.ty {w : World} {b : Nat} {x : Int} (h : intAt w b x) : TypeAt w b 3 := .of h
def worstStep (a : Int × Int) (at_ n : Int) : Int × Int := if a.2 < n ∨ n = a.2 ∧ at_ < a.1 then (at_, n) else a
def TryEnd (w : World) (bx bg : Nat) (r : Int × Int) (w' : World) : Prop :=
  intAt w' bx r.1 ∧ intAt w' bg r.2 ∧ KeepN w w' ∧ (∀ C, C ≤ bx → C ≤ bg → C ≤ w.heap.size → Below C w w') ∧ (∀ b, b < w.heap.size → b ≠ bx → b ≠ bg → w'.heap[b]? = w.heap[b]?)
theorem try_same {w w1 : World} {bx bg : Nat} {x gp : Int} (hb : Below w.heap.size w w1) (X : intAt w1 bx x) (G : intAt w1 bg gp) (o : Obj) : TryEnd w bx bg (x, gp) (w1.alloc o) :=
  have hB := hb.alloc hb.size o
  ⟨X.alloc o, G.alloc o, KeepN.of_below hB, fun C _ _ h => hB.mono h, fun b h _ _ => hB.block b h⟩
theorem try_put {w w1 : World} {bx bg : Nat} {x gp : Int} (hb : Below w.heap.size w w1) (X : intAt w1 bx x) (G : intAt w1 bg gp) (hne : bg ≠ bx) (o : Obj) (a n : Int) :
    TryEnd w bx bg (a, n) (((w1.setCell ⟨bx, 0, none⟩ (.int .i64 a)).setCell ⟨bg, 0, none⟩ (.int .i64 n)).alloc o) :=
  ⟨((X.put a).set hne.symm _).alloc o, ((G.set hne _).put n).alloc o, (((KeepN.of_below hb).setT X.ty (by decide) _).setT (G.set hne _).ty (by decide) _).more ((Below.refl _ _).alloc (Nat.le_refl _) o),
    fun C h1 h2 h3 => (((hb.mono h3).setCell (p := ⟨bx, 0, none⟩) h1 _).setCell (p := ⟨bg, 0, none⟩) h2 _).alloc (by have := hb.size; simp only [World.size_setCell]; omega) o,
    fun b h h1 h2 => (Below.heap_alloc _ o b (by have := hb.size; simp only [World.size_setCell]; omega)).trans ((Below.heap_setCell _ _ _ _ h2).trans ((Below.heap_setCell _ _ _ _ h1).trans (hb.block b h)))⟩
set_option maxHeartbeats 1000000 in
theorem bound_try (w : World) (L B g : Nat) (m : Int) (lt ft : List Nd) (at_ x gp : Int) (bt bg bx : Nat) (hT : TabAt w L B g m lt ft) (hBw : B ≤ w.heap.size) (hm : lt.length ≤ 67108864) (hr : lt.Pairwise fun a b => a.1 < b.1) (hm2 : ft.length ≤ 67108864) (hr2 : ft.Pairwise fun a b => a.1 < b.1)
    (ht : w.heap[bt]? = some (.cells #[.pointer (some ⟨g, 0, none⟩)] 52 (0, 0))) (hg : intAt w bg gp) (hx : intAt w bx x) (hne : bg ≠ bx) (hlo : -72057594037927936 ≤ upT ft at_ - upT lt at_) (hhi : upT ft at_ - upT lt at_ ≤ 72057594037927936) :
    Calls Tryz.prog 126 #[.int .i64 at_, .pointer (some ⟨bt, 0, none⟩), .pointer (some ⟨bg, 0, none⟩), .pointer (some ⟨bx, 0, none⟩)] w fun e w' => e = .returned (.tuple #[]) ∧ TryEnd w bx bg (worstStep (x, gp) at_ (upT ft at_ - upT lt at_)) w' := by
  have HB := Lib.hid (table_Both at_ hT hBw hm hr hm2 hr2)
  have ct := blk_cell ht
  have zt := lt_of_block ht
  have zg := lt_of_block hg
  have zx := lt_of_block hx
  have HG := Lib.hid hg
  have HX := Lib.hid hx
  generalize upT lt at_ = lo at HB hlo hhi ⊢
  generalize upT ft at_ = hi at HB hlo hhi ⊢
  clear hT hr hr2 ht hg hx
  by_cases c1 : gp < hi - lo
  · rw [show worstStep (x, gp) at_ (hi - lo) = (at_, hi - lo) by unfold worstStep; rw [if_pos (.inl c1)]]
    go_enter Tryz.func126, Tryz.ntmps126
    go_wp2_with fail
    refine HB.out.mono ?_
    rintro e w1 ⟨rfl, hb1⟩
    have s1 := hb1.size
    have G1 := HG.out.below hb1
    have X1 := HX.out.below hb1
    have cg := blk_cell G1
    have cgf := blk_frozen G1
    have cx := blk_cell X1
    have cxf := blk_frozen X1
    have KG := Lib.hid G1
    have KX := Lib.hid X1
    clear G1 X1
    have zg1 : bg < w1.heap.size := by omega
    have zx1 : bx < w1.heap.size := by omega
    have hne2 : bx ≠ bg := hne.symm
    go_wp2_with fail
    go_end0
    exact ⟨rfl, try_put hb1 KX.out KG.out hne _ _ _⟩
  · by_cases c2 : hi - lo = gp
    · subst c2
      have c3 : (hi - lo == hi - lo) = true := by simp
      by_cases c4 : at_ < x
      · rw [show worstStep (x, hi - lo) at_ (hi - lo) = (at_, hi - lo) by unfold worstStep; rw [if_pos (.inr ⟨rfl, c4⟩)]]
        go_enter Tryz.func126, Tryz.ntmps126
        go_wp2_with fail
        refine HB.out.mono ?_
        rintro e w1 ⟨rfl, hb1⟩
        have s1 := hb1.size
        have G1 := HG.out.below hb1
        have X1 := HX.out.below hb1
        have cg := blk_cell G1
        have cgf := blk_frozen G1
        have cx := blk_cell X1
        have cxf := blk_frozen X1
        have KG := Lib.hid G1
        have KX := Lib.hid X1
        clear G1 X1
        have zg1 : bg < w1.heap.size := by omega
        have zx1 : bx < w1.heap.size := by omega
        have hne2 : bx ≠ bg := hne.symm
        go_wp2_with fail
        go_end0
        exact ⟨rfl, try_put hb1 KX.out KG.out hne _ _ _⟩
      · rw [show worstStep (x, hi - lo) at_ (hi - lo) = (x, hi - lo) by unfold worstStep; rw [if_neg (by simp; omega)]]
        go_enter Tryz.func126, Tryz.ntmps126
        go_wp2_with fail
        refine HB.out.mono ?_
        rintro e w1 ⟨rfl, hb1⟩
        have s1 := hb1.size
        have G1 := HG.out.below hb1
        have X1 := HX.out.below hb1
        have cg := blk_cell G1
        have cgf := blk_frozen G1
        have cx := blk_cell X1
        have cxf := blk_frozen X1
        have KG := Lib.hid G1
        have KX := Lib.hid X1
        clear G1 X1
        have zg1 : bg < w1.heap.size := by omega
        have zx1 : bx < w1.heap.size := by omega
        have hne2 : bx ≠ bg := hne.symm
        go_wp2_with fail
        go_end0
        exact ⟨rfl, try_same hb1 KX.out KG.out _⟩
    · have c3 : (hi - lo == gp) = false := by simpa using c2
      rw [show worstStep (x, gp) at_ (hi - lo) = (x, gp) by unfold worstStep; rw [if_neg (by simp; omega)]]
      clear c2
      go_enter Tryz.func126, Tryz.ntmps126
      go_wp2_with fail
      refine HB.out.mono ?_
      rintro e w1 ⟨rfl, hb1⟩
      have s1 := hb1.size
      have G1 := HG.out.below hb1
      have X1 := HX.out.below hb1
      have cg := blk_cell G1
      have cgf := blk_frozen G1
      have cx := blk_cell X1
      have cxf := blk_frozen X1
      have KG := Lib.hid G1
      have KX := Lib.hid X1
      clear G1 X1
      have zg1 : bg < w1.heap.size := by omega
      have zx1 : bx < w1.heap.size := by omega
      have hne2 : bx ≠ bg := hne.symm
      go_wp2_with fail
      go_end0
      exact ⟨rfl, try_same hb1 KX.out KG.out _⟩
end Go.Proofs.YtcjnchjmpkapmaaGreat
/- Package bound: Worst. -/
namespace Go.Proofs.YtcjnchjmpkapmaaGreat
open Go.ChangeShapes Go.WideShapes Go.ChangeAt Go.RowKit
set_option linter.unusedVariables false
set_option maxRecDepth 100000

@[go_sem] theorem run_store_func (P : Program) (w : World) (a : Addr) (m : Mode) (f : Fn) (ts : Array Value) (cs : Array Value) : (store a (.func f ts cs) m).run P w = stored P w a (.func f ts cs) m := run_store P w a _ m rfl
def gapAt (l : Int) (r : List Nd) (x : Int) : Int := highOf l r x - lowOf l r x
def worstPre (l : Int) (r : List Nd) (p : List Nd) : Int × Int := p.foldl (fun a x => worstStep a (endsOf l x.1).1 (gapAt l r (endsOf l x.1).1)) (worstStep (0, 0) 0 (gapAt l r 0))
theorem worstPre_succ {l : Int} {r : List Nd} {q : Nat} (h : q < r.length) : worstPre l r (r.take (q + 1)) = worstStep (worstPre l r (r.take q)) (endsOf l r[q].1).1 (gapAt l r (endsOf l r[q].1).1) := by
  unfold worstPre
  rw [List.take_succ_eq_append_getElem h, List.foldl_append]; rfl
theorem bound_Worst2 (w : World) (lo hi c : Int) (bt bg bx bf : Nat) (R : World → Prop) (hf : w.heap[bf]? = some (.cells #[.func (.func 126) #[] #[.pointer (some ⟨bt, 0, none⟩), .pointer (some ⟨bg, 0, none⟩), .pointer (some ⟨bx, 0, none⟩)]] 206 (0, 0)))
    (hC : Calls Tryz.prog 126 #[.int .i64 lo, .pointer (some ⟨bt, 0, none⟩), .pointer (some ⟨bg, 0, none⟩), .pointer (some ⟨bx, 0, none⟩)] w fun e w' => e = .returned (.tuple #[]) ∧ R w') :
    Calls Tryz.prog 127 #[.int .i64 lo, .int .i64 hi, .int .i64 c, .pointer (some ⟨bf, 0, none⟩)] w fun e w' => e = .returned (.tuple #[]) ∧ R w' := by
  have cf := blk_cell hf
  have zf := lt_of_block hf
  have HC := Lib.hid hC
  clear hf hC
  go_enter Tryz.func127, Tryz.ntmps127
  go_wp2_with fail
  refine HC.out.mono ?_
  rintro e w1 ⟨rfl, hR⟩
  have HR := Lib.hid hR
  clear hR
  go_wp2_with fail
  go_end0
  exact ⟨rfl, HR.out⟩
structure WorstI (w : World) (l : Int) (r lt ft : List Nd) (L B g bt bg bx bf : Nat) (q : Nat) (W : World) : Prop where
  blw : Below w.heap.size w W
  x : intAt W bx (worstPre l r (r.take q)).1
  gp : intAt W bg (worstPre l r (r.take q)).2
  t : W.heap[bt]? = some (.cells #[.pointer (some ⟨g, 0, none⟩)] 52 (0, 0))
  f : W.heap[bf]? = some (.cells #[.func (.func 126) #[] #[.pointer (some ⟨bt, 0, none⟩), .pointer (some ⟨bg, 0, none⟩), .pointer (some ⟨bx, 0, none⟩)]] 206 (0, 0))
  tab : TabAt W L B g (sumR r) lt ft
theorem worstI_stays (w : World) (l : Int) (r lt ft : List Nd) (L B g bt bg bx bf : Nat) (hB : ∀ W q, WorstI w l r lt ft L B g bt bg bx bf q W → B ≤ W.heap.size) : Stays (WorstI w l r lt ft L B g bt bg bx bf) :=
  ⟨fun q W W' h hb => ⟨h.blw.trans (hb.mono h.blw.size), h.x.below hb, h.gp.below hb, blk_below h.t hb, blk_below h.f hb, h.tab.below (hb.mono (hB W q h))⟩⟩
theorem gap_range {l : Int} {r : List Nd} (h : Roll r) (hs : sumR r ≤ 72057594037927935) (x : Int) : -72057594037927936 ≤ gapAt l r x ∧ gapAt l r x ≤ 72057594037927936 := by
  have h1 := weighR_le (l := l) (f := fun _ hi => decide (hi ≤ x)) h
  have h2 := weighR_le (l := l) (f := fun lo _ => decide (lo ≤ x)) h
  unfold gapAt highOf lowOf
  omega
theorem try_at (w : World) (l : Int) (r lt ft : List Nd) (L B g : Nat) (at_ x gp : Int) (bt bg bx : Nat) (hr : Roll r) (hs : sumR r ≤ 72057594037927935) (hn : r.length ≤ 67108864) (htl : Tab (lastL l r) lt) (htf : Tab (firstL l r) ft) (hl1 : lt.length ≤ r.length) (hl2 : ft.length ≤ r.length)
    (hT : TabAt w L B g (sumR r) lt ft) (hBw : B ≤ w.heap.size) (ht : w.heap[bt]? = some (.cells #[.pointer (some ⟨g, 0, none⟩)] 52 (0, 0))) (hg : intAt w bg gp) (hx : intAt w bx x) (hne : bg ≠ bx) :
    Calls Tryz.prog 126 #[.int .i64 at_, .pointer (some ⟨bt, 0, none⟩), .pointer (some ⟨bg, 0, none⟩), .pointer (some ⟨bx, 0, none⟩)] w fun e w' => e = .returned (.tuple #[]) ∧ TryEnd w bx bg (worstStep (x, gp) at_ (gapAt l r at_)) w' := by
  have e : upT ft at_ - upT lt at_ = gapAt l r at_ := by rw [htl.upT, htf.upT, low_up, high_up]; rfl
  have hb := gap_range (l := l) hr hs at_
  have := bound_try w L B g (sumR r) lt ft at_ x gp bt bg bx hT hBw (by omega) htl.rise (by omega) htf.rise ht hg hx hne (by rw [e]; exact hb.1) (by rw [e]; exact hb.2)
  rwa [e] at this
def worstT (l : Int) (r : List Nd) : Int × Int × Int := if sumR r = 0 then (0, 0, 7) else ((worstPre l r r).1, (worstPre l r r).2, 0)
def triV (t : Int × Int × Int) : Value := .tuple #[.int .i64 t.1, .int .i64 t.2.1, .int .i64 t.2.2]
theorem enters_Worst2 : ∀ args W, (callFunc 127 args).run Tryz.prog W = .ok (.enter 127 args) W := enters_of Tryz.func127 (by kernel_rfl) rfl
set_option maxHeartbeats 1000000 in
theorem bound_Worst (w : World) (g K l : Nat) (k : Int) (r : List Nd) (F : Nat → Prop) (h : DigAt w g K l k r F) (hn : r.length ≤ 67108864) :
    Calls Tryz.prog 51 #[.pointer (some ⟨g, 0, none⟩)] w fun e w' => e = .returned (triV (worstT l r)) ∧ Below w.heap.size w w' := by
  have HD := Lib.hid ((h.alloc (.cells #[.int .i64 0] 3)).alloc (.cells #[.int .i64 0] 3))
  have HW := Lib.hid (bound_wrong · g K l k r F ·)
  have hfit := h.fits
  have HF := Lib.hid h.lt
  clear h
  unfold triV worstT
  unfold wrongOf at HW
  by_cases hN : sumR r = 0
  · rw [if_pos hN]
    rw [if_pos hN] at HW
    clear hN
    go_enter Tryz.func51, Tryz.ntmps51
    go_wp2_with fail
    refine (HW.out _ HD.out).mono ?_
    rintro e w1 ⟨rfl, hb1⟩
    have B1 : Below w.heap.size w w1 := Below.then_ (by repeat (first | with_reducible exact Below.refl _ _ | with_reducible assumption | ((with_reducible refine Below.setCell ?_ ?_ _); rotate_left; · (first | omega | exact Nat.le_refl _ | (simp <;> omega))) | (with_reducible refine Below.allocW ?_ _) | (with_reducible refine Below.drew ?_) | (with_reducible refine Below.extW ?_ _))) hb1
    have s1 : w.heap.size ≤ w1.heap.size := B1.size
    have z1_0 : w.heap.size < w1.heap.size := by have := hb1.size; (try simp at this); omega
    have y1_0 : w.heap.size ≤ w1.heap.size := Nat.le_of_lt z1_0
    have c1_0 := fun o => hb1.cell (p := ⟨w.heap.size, o, none⟩) (by first | omega | (simp <;> omega))
    have f1_0 := fun o => hb1.frozen (p := ⟨w.heap.size, o, none⟩) (by first | omega | (simp <;> omega))
    have z1_1 : w.heap.size + 1 < w1.heap.size := by have := hb1.size; (try simp at this); omega
    have y1_1 : w.heap.size + 1 ≤ w1.heap.size := Nat.le_of_lt z1_1
    have c1_1 := fun o => hb1.cell (p := ⟨w.heap.size + 1, o, none⟩) (by first | omega | (simp <;> omega))
    have f1_1 := fun o => hb1.frozen (p := ⟨w.heap.size + 1, o, none⟩) (by first | omega | (simp <;> omega))
    go_wp2_with fail
    exact bodyPost_ret (v := .tuple #[.int .i64 0, .int .i64 0, .int .i64 7]) (by simp only [results, Tryz.results51]; go_simp) rfl ⟨rfl, (by repeat (first | with_reducible exact Below.refl _ _ | with_reducible assumption | ((with_reducible refine Below.setCell ?_ ?_ _); rotate_left; · (first | omega | exact Nat.le_refl _ | (simp <;> omega))) | (with_reducible refine Below.allocW ?_ _) | (with_reducible refine Below.drew ?_) | (with_reducible refine Below.extW ?_ _)))⟩
  · rw [if_neg hN]
    rw [if_neg hN] at HW
    clear hN
    have X0 := Lib.hid (show intAt ((w.alloc (.cells #[.int .i64 0] 3)).alloc (.cells #[.int .i64 0] 3)) w.heap.size 0 from (show intAt (w.alloc (.cells #[.int .i64 0] 3)) w.heap.size 0 from heap_alloc_new _ _).alloc _)
    have G0 := Lib.hid (show intAt ((w.alloc (.cells #[.int .i64 0] 3)).alloc (.cells #[.int .i64 0] 3)) (w.heap.size + 1) 0 from heap_new_at _ _ _ (by simp))
    go_enter Tryz.func51, Tryz.ntmps51
    go_wp2_with fail
    refine (HW.out _ HD.out).mono ?_
    rintro e w1 ⟨rfl, hb1⟩
    have B1 : Below w.heap.size w w1 := Below.then_ (by repeat (first | with_reducible exact Below.refl _ _ | with_reducible assumption | ((with_reducible refine Below.setCell ?_ ?_ _); rotate_left; · (first | omega | exact Nat.le_refl _ | (simp <;> omega))) | (with_reducible refine Below.allocW ?_ _) | (with_reducible refine Below.drew ?_) | (with_reducible refine Below.extW ?_ _))) hb1
    have s1 : w.heap.size ≤ w1.heap.size := B1.size
    have z1_0 : w.heap.size < w1.heap.size := by have := hb1.size; (try simp at this); omega
    have y1_0 : w.heap.size ≤ w1.heap.size := Nat.le_of_lt z1_0
    have c1_0 := fun o => hb1.cell (p := ⟨w.heap.size, o, none⟩) (by first | omega | (simp <;> omega))
    have f1_0 := fun o => hb1.frozen (p := ⟨w.heap.size, o, none⟩) (by first | omega | (simp <;> omega))
    have z1_1 : w.heap.size + 1 < w1.heap.size := by have := hb1.size; (try simp at this); omega
    have y1_1 : w.heap.size + 1 ≤ w1.heap.size := Nat.le_of_lt z1_1
    have c1_1 := fun o => hb1.cell (p := ⟨w.heap.size + 1, o, none⟩) (by first | omega | (simp <;> omega))
    have f1_1 := fun o => hb1.frozen (p := ⟨w.heap.size + 1, o, none⟩) (by first | omega | (simp <;> omega))
    have HD1 := Lib.hid (HD.out.below hb1)
    have X1 := Lib.hid (X0.out.below hb1)
    have G1 := Lib.hid (G0.out.below hb1)
    go_wp2_with fail
    refine (rank_Of _ g K l k r F HD1.out hn).mono ?_
    rintro e w2 ⟨tg, lt, ft, rfl, htab, htl, htf, hl1, hl2, hb2⟩
    have B2 : Below w.heap.size w w2 := Below.then_ (by repeat (first | with_reducible exact Below.refl _ _ | with_reducible assumption | ((with_reducible refine Below.setCell ?_ ?_ _); rotate_left; · (first | omega | exact Nat.le_refl _ | (simp <;> omega))) | (with_reducible refine Below.allocW ?_ _) | (with_reducible refine Below.drew ?_) | (with_reducible refine Below.extW ?_ _))) hb2
    have s2 : w.heap.size ≤ w2.heap.size := B2.size
    have X2 := Lib.hid (X1.out.below hb2)
    have G2 := Lib.hid (G1.out.below hb2)
    have HD2 := Lib.hid (HD1.out.below hb2)
    have HT := Lib.hid htab
    have HTL := Lib.hid htl
    have HTF := Lib.hid htf
    have hs1 : w.heap.size + 1 < w1.heap.size := z1_1
    have hs12 := hb2.size
    have BA2 := Lib.hid B2
    clear htab htl htf c1_0 c1_1 f1_0 f1_1
    go_wp2_with fail
    have T3 := Lib.hid (HT.out.below ((Below.refl w2.heap.size w2).alloc (Nat.le_refl _) (.cells #[.pointer (some ⟨tg, 0, none⟩)] 52) |>.alloc (by simp) (.cells #[.func (.func 126) #[] #[.pointer (some ⟨w2.heap.size, 0, none⟩), .pointer (some ⟨w.heap.size + 1, 0, none⟩), .pointer (some ⟨w.heap.size, 0, none⟩)]] 206)))
    have P3 := Lib.hid ((Below.heap_alloc (w2.alloc (.cells #[.pointer (some ⟨tg, 0, none⟩)] 52)) (.cells #[.func (.func 126) #[] #[.pointer (some ⟨w2.heap.size, 0, none⟩), .pointer (some ⟨w.heap.size + 1, 0, none⟩), .pointer (some ⟨w.heap.size, 0, none⟩)]] 206) w2.heap.size (by simp)).trans (heap_alloc_new w2 _))
    have Q3 := Lib.hid (heap_new_at (w2.alloc (.cells #[.pointer (some ⟨tg, 0, none⟩)] 52)) (.cells #[.func (.func 126) #[] #[.pointer (some ⟨w2.heap.size, 0, none⟩), .pointer (some ⟨w.heap.size + 1, 0, none⟩), .pointer (some ⟨w.heap.size, 0, none⟩)]] 206) (w2.heap.size + 1) (by simp))
    have hszW : ((w2.alloc (.cells #[.pointer (some ⟨tg, 0, none⟩)] 52)).alloc (.cells #[.func (.func 126) #[] #[.pointer (some ⟨w2.heap.size, 0, none⟩), .pointer (some ⟨w.heap.size + 1, 0, none⟩), .pointer (some ⟨w.heap.size, 0, none⟩)]] 206)).heap.size = w2.heap.size + 1 + 1 := by simp
    have B3 := Lib.hid (BA2.out.alloc s2 (.cells #[.pointer (some ⟨tg, 0, none⟩)] 52) |>.alloc (by simp; omega) (.cells #[.func (.func 126) #[] #[.pointer (some ⟨w2.heap.size, 0, none⟩), .pointer (some ⟨w.heap.size + 1, 0, none⟩), .pointer (some ⟨w.heap.size, 0, none⟩)]] 206))
    have X3 := Lib.hid ((X2.out.alloc (.cells #[.pointer (some ⟨tg, 0, none⟩)] 52)).alloc (.cells #[.func (.func 126) #[] #[.pointer (some ⟨w2.heap.size, 0, none⟩), .pointer (some ⟨w.heap.size + 1, 0, none⟩), .pointer (some ⟨w.heap.size, 0, none⟩)]] 206))
    have G3 := Lib.hid ((G2.out.alloc (.cells #[.pointer (some ⟨tg, 0, none⟩)] 52)).alloc (.cells #[.func (.func 126) #[] #[.pointer (some ⟨w2.heap.size, 0, none⟩), .pointer (some ⟨w.heap.size + 1, 0, none⟩), .pointer (some ⟨w.heap.size, 0, none⟩)]] 206))
    have HD3 := Lib.hid ((HD2.out.alloc (.cells #[.pointer (some ⟨tg, 0, none⟩)] 52)).alloc (.cells #[.func (.func 126) #[] #[.pointer (some ⟨w2.heap.size, 0, none⟩), .pointer (some ⟨w.heap.size + 1, 0, none⟩), .pointer (some ⟨w.heap.size, 0, none⟩)]] 206))
    generalize (w2.alloc (.cells #[.pointer (some ⟨tg, 0, none⟩)] 52)).alloc (.cells #[.func (.func 126) #[] #[.pointer (some ⟨w2.heap.size, 0, none⟩), .pointer (some ⟨w.heap.size + 1, 0, none⟩), .pointer (some ⟨w.heap.size, 0, none⟩)]] 206) = W3 at T3 P3 Q3 B3 X3 G3 HD3 hszW ⊢
    refine (try_at W3 l r lt ft _ _ tg 0 0 0 w2.heap.size (w.heap.size + 1) w.heap.size hfit.roll hfit.sum hn HTL.out HTF.out hl1 hl2 T3.out (by omega) P3.out G3.out X3.out (by omega)).mono ?_
    rintro e w4 ⟨rfl, x4, g4, k4, b4, o4⟩
    have I4 : Hid (WorstI w l r lt ft w1.heap.size w2.heap.size tg w2.heap.size (w.heap.size + 1) w.heap.size (w2.heap.size + 1) 0 w4) := Lib.hid
      ⟨B3.out.trans (b4 _ (Nat.le_refl _) (by omega) (by omega)), x4, g4, (o4 _ (by omega) (by omega) (by omega)).trans P3.out, (o4 _ (by omega) (by omega) (by omega)).trans Q3.out, T3.out.keep fun b h1 h2 => o4 b (by omega) (by omega) (by omega)⟩
    have hsz4 : w2.heap.size + 1 + 1 ≤ w4.heap.size := by have := (b4 0 (Nat.zero_le _) (Nat.zero_le _) (Nat.zero_le _)).size; omega
    have D4 : Hid (DigAt w4 g K l k r F) := Lib.hid (HD3.out.keep fun b hb => o4 b (by have := HF.out b hb; omega) (by have := HF.out b hb; omega) (by have := HF.out b hb; omega))
    clear x4 g4 k4 b4 o4
    go_wp2_with fail
    have hB : ∀ W q, WorstI w l r lt ft w1.heap.size w2.heap.size tg w2.heap.size (w.heap.size + 1) w.heap.size (w2.heap.size + 1) q W → w2.heap.size ≤ W.heap.size := fun W q h => by
      have := lt_of_block h.f; omega
    have HB := Lib.hid hB
    clear hB
    refine (bound_each _ g K l k r F D4.out hn 127 #[.pointer (some ⟨w2.heap.size + 1, 0, none⟩)] enters_Worst2 (WorstI w l r lt ft w1.heap.size w2.heap.size tg w2.heap.size (w.heap.size + 1) w.heap.size (w2.heap.size + 1)) (worstI_stays _ _ _ _ _ _ _ _ _ _ _ _ HB.out) I4.out ?_).mono ?_
    · intro q hq W hI
      have hsW := HB.out W q hI
      have hsF := lt_of_block hI.f
      refine (bound_Worst2 W (endsOf l r[q].1).1 (endsOf l r[q].1).2.1 r[q].2 _ _ _ _ _ hI.f (try_at W l r lt ft _ _ tg (endsOf l r[q].1).1 _ _ w2.heap.size (w.heap.size + 1) w.heap.size hfit.roll hfit.sum hn HTL.out HTF.out hl1 hl2 hI.tab hsW hI.t hI.gp hI.x (by omega))).mono ?_
      rintro e W' ⟨rfl, x5, g5, k5, b5, o5⟩
      rw [← worstPre_succ hq] at x5 g5
      exact ⟨rfl, ⟨hI.blw.trans (b5 _ (Nat.le_refl _) (by omega) (by omega)), x5, g5, (o5 _ (by omega) (by omega) (by omega)).trans hI.t, (o5 _ (by omega) (by omega) (by omega)).trans hI.f, hI.tab.keep fun b h1 h2 => o5 b (by omega) (by omega) (by omega)⟩, k5⟩
    · rintro e w5 ⟨rfl, hI, hs5⟩
      have i2 := hI.x
      have i3 := hI.gp
      have B5 := hI.blw
      simp only [List.take_length] at i2 i3
      have cc := blk_cell i3
      have cf := blk_frozen i3
      have c0 := blk_cell i2
      have f0 := blk_frozen i2
      have z0 := lt_of_block i2
      have z1 := lt_of_block i3
      clear i2 i3 hI
      go_wp2_with fail
      go_region
      all_goals go_wp2_with fail
      all_goals exact bodyPost_ret (v := .tuple #[.int .i64 (worstPre l r r).1, .int .i64 (worstPre l r r).2, .int .i64 0]) (by simp only [results, Tryz.results51]; go_simp) rfl ⟨rfl, (by repeat (first | with_reducible exact Below.refl _ _ | with_reducible assumption | ((with_reducible refine Below.setCell ?_ ?_ _); rotate_left; · (first | omega | exact Nat.le_refl _ | (simp <;> omega))) | (with_reducible refine Below.allocW ?_ _) | (with_reducible refine Below.drew ?_) | (with_reducible refine Below.extW ?_ _)))⟩
end Go.Proofs.YtcjnchjmpkapmaaGreat
/- Chapter 20's example. -/
namespace Go.Proofs.YtcjnchjmpkapmaaGreat
open Go.ChangeShapes Go.WideShapes Go.ChangeAt Go.RowKit
set_option linter.unusedVariables false
set_option maxRecDepth 100000

theorem least20 : leastT ((2 : Nat) : Int) nodes16 = (0, 0, 0) := by decide +kernel
theorem most20 : mostT ((2 : Nat) : Int) nodes16 = (3, 3, 0) := by decide +kernel
theorem mean20 : meanT ((2 : Nat) : Int) nodes16 = (1, 2, 0) := by decide +kernel
theorem worst20 : worstT ((2 : Nat) : Int) nodes16 = (0, 1, 0) := by decide +kernel
theorem alive20 (w : World) : Calls Tryz.prog 46 #[] w fun e w' => e = .returned (.bool true) ∧ Below w.heap.size w w' := by
  have HS := Lib.hid (sl_lit w encN nodes16 153 _ rfl)
  have HC := Lib.hid (digest_Load · 2 2 4 (some ⟨w.heap.size, 0, none⟩) 3 nodes16 load16 · nodes16_ints (by decide))
  go_enter Tryz.func46, Tryz.ntmps46
  go_wp2_with fail
  refine (HC.out _ (HS.out.keep (by simp) fun p hp => rfl)).mono ?_
  rintro e w1 ⟨g, F, rfl, hD, _, hb1⟩
  have B1 : Below w.heap.size w w1 := Below.then_ (by repeat (first | with_reducible exact Below.refl _ _ | with_reducible assumption | ((with_reducible refine Below.setCell ?_ ?_ _); rotate_left; · (first | omega | exact Nat.le_refl _ | (simp <;> omega))) | (with_reducible refine Below.allocW ?_ _) | (with_reducible refine Below.drew ?_) | (with_reducible refine Below.extW ?_ _))) hb1
  have s1 : w.heap.size ≤ w1.heap.size := B1.size
  have KD := Lib.hid hD
  clear hD
  go_wp2_with fail
  refine (bound_Least _ g 2 2 4 nodes16 F KD.out (by decide)).mono ?_
  rintro e w2 ⟨rfl, hb2⟩
  have B2 : Below w.heap.size w w2 := Below.then_ (by repeat (first | with_reducible exact Below.refl _ _ | with_reducible assumption | ((with_reducible refine Below.setCell ?_ ?_ _); rotate_left; · (first | omega | exact Nat.le_refl _ | (simp <;> omega))) | (with_reducible refine Below.allocW ?_ _) | (with_reducible refine Below.drew ?_) | (with_reducible refine Below.extW ?_ _))) hb2
  have s2 : w.heap.size ≤ w2.heap.size := B2.size
  rw [least20]
  unfold bothV
  have KD2 := Lib.hid ((KD.out.below hb2).alloc (.cells #[.int .i64 0, .int .i64 0] 57))
  go_wp2_with fail
  refine (bound_Greatest _ g 2 2 4 nodes16 F KD2.out (by decide)).mono ?_
  rintro e w3 ⟨rfl, hb3⟩
  have B3 : Below w.heap.size w w3 := Below.then_ (by repeat (first | with_reducible exact Below.refl _ _ | with_reducible assumption | ((with_reducible refine Below.setCell ?_ ?_ _); rotate_left; · (first | omega | exact Nat.le_refl _ | (simp <;> omega))) | (with_reducible refine Below.allocW ?_ _) | (with_reducible refine Below.drew ?_) | (with_reducible refine Below.extW ?_ _))) hb3
  have s3 : w.heap.size ≤ w3.heap.size := B3.size
  have z3_0 : w2.heap.size < w3.heap.size := by have := hb3.size; (try simp at this); omega
  have y3_0 : w2.heap.size ≤ w3.heap.size := Nat.le_of_lt z3_0
  have c3_0 := fun o => hb3.cell (p := ⟨w2.heap.size, o, none⟩) (by first | omega | (simp <;> omega))
  have f3_0 := fun o => hb3.frozen (p := ⟨w2.heap.size, o, none⟩) (by first | omega | (simp <;> omega))
  rw [most20]
  unfold bothV
  have KD3 := Lib.hid ((KD2.out.below hb3).alloc (.cells #[.int .i64 3, .int .i64 3] 57))
  go_wp2_with fail
  refine (bound_Mean _ g 2 2 4 nodes16 F KD3.out (by decide)).mono ?_
  rintro e w4 ⟨rfl, hb4⟩
  have B4 : Below w.heap.size w w4 := Below.then_ (by repeat (first | with_reducible exact Below.refl _ _ | with_reducible assumption | ((with_reducible refine Below.setCell ?_ ?_ _); rotate_left; · (first | omega | exact Nat.le_refl _ | (simp <;> omega))) | (with_reducible refine Below.allocW ?_ _) | (with_reducible refine Below.drew ?_) | (with_reducible refine Below.extW ?_ _))) hb4
  have s4 : w.heap.size ≤ w4.heap.size := B4.size
  have z4_0 : w2.heap.size < w4.heap.size := by have := hb4.size; (try simp at this); omega
  have y4_0 : w2.heap.size ≤ w4.heap.size := Nat.le_of_lt z4_0
  have c4_0 := fun o => hb4.cell (p := ⟨w2.heap.size, o, none⟩) (by first | omega | (simp <;> omega))
  have f4_0 := fun o => hb4.frozen (p := ⟨w2.heap.size, o, none⟩) (by first | omega | (simp <;> omega))
  have z4_1 : w3.heap.size < w4.heap.size := by have := hb4.size; (try simp at this); omega
  have y4_1 : w3.heap.size ≤ w4.heap.size := Nat.le_of_lt z4_1
  have c4_1 := fun o => hb4.cell (p := ⟨w3.heap.size, o, none⟩) (by first | omega | (simp <;> omega))
  have f4_1 := fun o => hb4.frozen (p := ⟨w3.heap.size, o, none⟩) (by first | omega | (simp <;> omega))
  rw [mean20]
  unfold bothV
  have KD4 := Lib.hid ((KD3.out.below hb4).alloc (.cells #[.int .i64 1, .int .i64 2] 57))
  go_wp2_with fail
  refine (bound_Worst _ g 2 2 4 nodes16 F KD4.out (by decide)).mono ?_
  rintro e w5 ⟨rfl, hb5⟩
  have B5 : Below w.heap.size w w5 := Below.then_ (by repeat (first | with_reducible exact Below.refl _ _ | with_reducible assumption | ((with_reducible refine Below.setCell ?_ ?_ _); rotate_left; · (first | omega | exact Nat.le_refl _ | (simp <;> omega))) | (with_reducible refine Below.allocW ?_ _) | (with_reducible refine Below.drew ?_) | (with_reducible refine Below.extW ?_ _))) hb5
  have s5 : w.heap.size ≤ w5.heap.size := B5.size
  have z5_0 : w2.heap.size < w5.heap.size := by have := hb5.size; (try simp at this); omega
  have y5_0 : w2.heap.size ≤ w5.heap.size := Nat.le_of_lt z5_0
  have c5_0 := fun o => hb5.cell (p := ⟨w2.heap.size, o, none⟩) (by first | omega | (simp <;> omega))
  have f5_0 := fun o => hb5.frozen (p := ⟨w2.heap.size, o, none⟩) (by first | omega | (simp <;> omega))
  have z5_1 : w3.heap.size < w5.heap.size := by have := hb5.size; (try simp at this); omega
  have y5_1 : w3.heap.size ≤ w5.heap.size := Nat.le_of_lt z5_1
  have c5_1 := fun o => hb5.cell (p := ⟨w3.heap.size, o, none⟩) (by first | omega | (simp <;> omega))
  have f5_1 := fun o => hb5.frozen (p := ⟨w3.heap.size, o, none⟩) (by first | omega | (simp <;> omega))
  have z5_2 : w4.heap.size < w5.heap.size := by have := hb5.size; (try simp at this); omega
  have y5_2 : w4.heap.size ≤ w5.heap.size := Nat.le_of_lt z5_2
  have c5_2 := fun o => hb5.cell (p := ⟨w4.heap.size, o, none⟩) (by first | omega | (simp <;> omega))
  have f5_2 := fun o => hb5.frozen (p := ⟨w4.heap.size, o, none⟩) (by first | omega | (simp <;> omega))
  rw [worst20]
  unfold triV
  go_wp2_with fail
  go_ret
  exact ⟨rfl, (by repeat (first | with_reducible exact Below.refl _ _ | with_reducible assumption | ((with_reducible refine Below.setCell ?_ ?_ _); rotate_left; · (first | omega | exact Nat.le_refl _ | (simp <;> omega))) | (with_reducible refine Below.allocW ?_ _) | (with_reducible refine Below.drew ?_) | (with_reducible refine Below.extW ?_ _)))⟩
end Go.Proofs.YtcjnchjmpkapmaaGreat
/- Which of two products is greater: package reckon, and the reference of layer 1. -/
namespace Go.Proofs.YtcjnchjmpkapmaaGreat
open Go.ChangeShapes Go.WideShapes Go.ChangeAt Go.RowKit
set_option linter.unusedVariables false
set_option maxRecDepth 100000

def ordV (a b c d : Nat) : Int := cmpV (a * b) (c * d)
end Go.Proofs.YtcjnchjmpkapmaaGreat
/- Package bound: Within; the reference of layer 20: Worst. -/
namespace Go.Proofs.YtcjnchjmpkapmaaGreat
open Go.ChangeShapes Go.WideShapes Go.ChangeAt Go.RowKit
set_option linter.unusedVariables false
set_option maxRecDepth 100000

def withinT (l : Int) (r : List Nd) (num den : Int) : Bool × Int := if sumR r = 0 then (false, 7) else if num < 0 ∨ den < 1 then (false, 2) else (decide (ordV (worstPre l r r).2.toNat den.toNat num.toNat (sumR r).toNat ≤ 0), 0)
end Go.Proofs.YtcjnchjmpkapmaaGreat
/- Package bound: Spread; what is told of nil. -/
namespace Go.Proofs.YtcjnchjmpkapmaaGreat
open Go.ChangeShapes Go.WideShapes Go.ChangeAt Go.RowKit
set_option linter.unusedVariables false
set_option maxRecDepth 100000

end Go.Proofs.YtcjnchjmpkapmaaGreat
/- Chapter 20: plain laws of the ends. -/
namespace Go.Proofs.YtcjnchjmpkapmaaGreat
open Go.ChangeShapes Go.WideShapes Go.ChangeAt Go.RowKit
set_option linter.unusedVariables false

theorem least_fold {l : Nat} (hl : l ≤ 48) (r : List Nd) : ∀ (a : Int × Int), 0 ≤ a.1 → a.1 ≤ a.2 → (∀ x ∈ r, isNode l x.1 = true) →
    0 ≤ (r.foldl (leastStep l) a).1 ∧ (r.foldl (leastStep l) a).1 ≤ (r.foldl (leastStep l) a).2 ∧ (r.foldl (leastStep l) a).2 ≤ a.2 ∧ (r ≠ [] → (r.foldl (leastStep l) a).2 ≤ 281474976710655) := by
  induction r with
  | nil => intro a h1 h2 _; exact ⟨h1, h2, Int.le_refl _, fun h => absurd rfl h⟩
  | cons x r ih =>
    intro a h1 h2 hr
    have hx := ends_48 hl (hr x (by simp))
    have h3 : 0 ≤ (leastStep l a x).1 := by simp only [leastStep]; omega
    have h4 : (leastStep l a x).1 ≤ (leastStep l a x).2 := by simp only [leastStep]; omega
    obtain ⟨i1, i2, i3, i4⟩ := ih (leastStep l a x) h3 h4 (fun y hy => hr y (by simp [hy]))
    rw [List.foldl_cons]
    have h5 : (leastStep l a x).2 ≤ a.2 ∧ (leastStep l a x).2 ≤ 281474976710655 := by simp only [leastStep]; omega
    exact ⟨i1, i2, by omega, fun _ => by omega⟩
theorem most_fold {l : Nat} (hl : l ≤ 48) (r : List Nd) : ∀ (a : Int × Int), 0 ≤ a.1 → a.1 ≤ a.2 → a.2 ≤ 281474976710655 → (∀ x ∈ r, isNode l x.1 = true) →
    0 ≤ (r.foldl (mostStep l) a).1 ∧ (r.foldl (mostStep l) a).1 ≤ (r.foldl (mostStep l) a).2 ∧ (r.foldl (mostStep l) a).2 ≤ 281474976710655 := by
  induction r with
  | nil => intro a h1 h2 h3 _; exact ⟨h1, h2, h3⟩
  | cons x r ih =>
    intro a h1 h2 h3 hr
    have hx := ends_48 hl (hr x (by simp))
    rw [List.foldl_cons]
    exact ih (mostStep l a x) (by simp only [mostStep]; omega) (by simp only [mostStep]; omega) (by simp only [mostStep]; omega) (fun y hy => hr y (by simp [hy]))
theorem least_bounds {l : Nat} (hl : l ≤ 48) {r : List Nd} (hr : ∀ x ∈ r, isNode l x.1 = true) (hne : r ≠ []) : 0 ≤ (leastOf l r).1 ∧ (leastOf l r).1 ≤ (leastOf l r).2 ∧ (leastOf l r).2 ≤ 281474976710655 := by
  have := least_fold hl r (9223372036854775807, 9223372036854775807) (by decide) (by decide) hr
  exact ⟨this.1, this.2.1, this.2.2.2 hne⟩
theorem most_bounds {l : Nat} (hl : l ≤ 48) {r : List Nd} (hr : ∀ x ∈ r, isNode l x.1 = true) : 0 ≤ (mostOf l r).1 ∧ (mostOf l r).1 ≤ (mostOf l r).2 ∧ (mostOf l r).2 ≤ 281474976710655 :=
  most_fold hl r (0, 0) (by decide) (by decide) (by decide) hr
end Go.Proofs.YtcjnchjmpkapmaaGreat
/- Package bound: Spread; what is told of nil. -/
namespace Go.Proofs.YtcjnchjmpkapmaaGreat
open Go.ChangeShapes Go.WideShapes Go.ChangeAt Go.RowKit
set_option linter.unusedVariables false
set_option maxRecDepth 100000

def spreadT (l : Int) (r : List Nd) : Int × Int × Int := if sumR r = 0 then (0, 0, 7) else (max ((mostOf l r).1 - (leastOf l r).2) 0, (mostOf l r).2 - (leastOf l r).1, 0)
theorem bound_Spread (w : World) (g K l : Nat) (k : Int) (r : List Nd) (F : Nat → Prop) (h : DigAt w g K l k r F) (hn : r.length ≤ 67108864) :
    Calls Tryz.prog 49 #[.pointer (some ⟨g, 0, none⟩)] w fun e w' => e = .returned (bothV (spreadT l r)) ∧ Below w.heap.size w w' := by
  have HD := Lib.hid (h.alloc (.cells #[.int .i64 0, .int .i64 0] 57))
  have hf := h.fits
  have hll := h.l_le
  have HL := Lib.hid (bound_Least · g K l k r F · hn)
  have HG := Lib.hid (bound_Greatest · g K l k r F · hn)
  unfold leastT at HL
  unfold mostT at HG
  unfold bothV at HL HG ⊢
  unfold spreadT
  clear h
  by_cases hN : sumR r = 0
  · rw [if_pos hN]
    rw [if_pos hN] at HL
    clear hN HG
    go_enter Tryz.func49, Tryz.ntmps49
    go_wp2_with fail
    refine (HL.out _ HD.out).mono ?_
    rintro e w1 ⟨rfl, hb1⟩
    have B1 : Below w.heap.size w w1 := Below.then_ (by repeat (first | with_reducible exact Below.refl _ _ | with_reducible assumption | ((with_reducible refine Below.setCell ?_ ?_ _); rotate_left; · (first | omega | exact Nat.le_refl _ | (simp <;> omega))) | (with_reducible refine Below.allocW ?_ _) | (with_reducible refine Below.drew ?_) | (with_reducible refine Below.extW ?_ _))) hb1
    have s1 : w.heap.size ≤ w1.heap.size := B1.size
    have z1_0 : w.heap.size < w1.heap.size := by have := hb1.size; (try simp at this); omega
    have y1_0 : w.heap.size ≤ w1.heap.size := Nat.le_of_lt z1_0
    have c1_0 := fun o => hb1.cell (p := ⟨w.heap.size, o, none⟩) (by first | omega | (simp <;> omega))
    have f1_0 := fun o => hb1.frozen (p := ⟨w.heap.size, o, none⟩) (by first | omega | (simp <;> omega))
    go_wp2_with fail
    exact bodyPost_ret (v := .tuple #[.agg #[.int .i64 0, .int .i64 0], .int .i64 7]) (by simp only [results, Tryz.results49]; go_simp) rfl ⟨rfl, (by repeat (first | with_reducible exact Below.refl _ _ | with_reducible assumption | ((with_reducible refine Below.setCell ?_ ?_ _); rotate_left; · (first | omega | exact Nat.le_refl _ | (simp <;> omega))) | (with_reducible refine Below.allocW ?_ _) | (with_reducible refine Below.drew ?_) | (with_reducible refine Below.extW ?_ _)))⟩
  · rw [if_neg hN]
    rw [if_neg hN] at HL HG
    have hne : r ≠ [] := by rintro rfl; exact hN rfl
    have b1 := least_bounds hll.2 (hf.nodes hll) hne
    have b2 := most_bounds hll.2 (hf.nodes hll)
    generalize leastOf l r = a at HL b1 ⊢
    generalize mostOf l r = b at HG b2 ⊢
    obtain ⟨a1, a2⟩ := a
    obtain ⟨b1', b2'⟩ := b
    simp only at b1 b2 HL HG ⊢
    clear hN hne hf hll
    go_enter Tryz.func49, Tryz.ntmps49
    go_wp2_with fail
    refine (HL.out _ HD.out).mono ?_
    rintro e w1 ⟨rfl, hb1⟩
    have B1 : Below w.heap.size w w1 := Below.then_ (by repeat (first | with_reducible exact Below.refl _ _ | with_reducible assumption | ((with_reducible refine Below.setCell ?_ ?_ _); rotate_left; · (first | omega | exact Nat.le_refl _ | (simp <;> omega))) | (with_reducible refine Below.allocW ?_ _) | (with_reducible refine Below.drew ?_) | (with_reducible refine Below.extW ?_ _))) hb1
    have s1 : w.heap.size ≤ w1.heap.size := B1.size
    have z1_0 : w.heap.size < w1.heap.size := by have := hb1.size; (try simp at this); omega
    have y1_0 : w.heap.size ≤ w1.heap.size := Nat.le_of_lt z1_0
    have c1_0 := fun o => hb1.cell (p := ⟨w.heap.size, o, none⟩) (by first | omega | (simp <;> omega))
    have f1_0 := fun o => hb1.frozen (p := ⟨w.heap.size, o, none⟩) (by first | omega | (simp <;> omega))
    have HD1 := Lib.hid ((HD.out.below hb1).alloc (.cells #[.int .i64 a1, .int .i64 a2] 57))
    have N1 := Lib.hid (((bothAt.new w 0 0).below hb1).alloc (.cells #[.int .i64 a1, .int .i64 a2] 57))
    have M1 := Lib.hid (bothAt.new w1 a1 a2)
    go_wp2_with fail
    refine (HG.out _ HD1.out).mono ?_
    rintro e w2 ⟨rfl, hb2⟩
    have B2 : Below w.heap.size w w2 := Below.then_ (by repeat (first | with_reducible exact Below.refl _ _ | with_reducible assumption | ((with_reducible refine Below.setCell ?_ ?_ _); rotate_left; · (first | omega | exact Nat.le_refl _ | (simp <;> omega))) | (with_reducible refine Below.allocW ?_ _) | (with_reducible refine Below.drew ?_) | (with_reducible refine Below.extW ?_ _))) hb2
    have s2 : w.heap.size ≤ w2.heap.size := B2.size
    have n2 := N1.out.below hb2
    have m2 := M1.out.below hb2
    have cc := blk_cell n2
    have cf := blk_frozen n2
    have zz := lt_of_block n2
    have cm := blk_cell m2
    have zm := lt_of_block m2
    clear n2 m2
    go_wp2_with fail
    exact bodyPost_ret (v := .tuple #[.agg #[.int .i64 (max (b1' - a2) 0), .int .i64 (b2' - a1)], .int .i64 0]) (by simp only [results, Tryz.results49]; go_simp) rfl ⟨rfl, (by repeat (first | with_reducible exact Below.refl _ _ | with_reducible assumption | ((with_reducible refine Below.setCell ?_ ?_ _); rotate_left; · (first | omega | exact Nat.le_refl _ | (simp <;> omega))) | (with_reducible refine Below.allocW ?_ _) | (with_reducible refine Below.drew ?_) | (with_reducible refine Below.extW ?_ _)))⟩
end Go.Proofs.YtcjnchjmpkapmaaGreat
/- What is told of the least and the greatest value, of the mean and of the worst gap, holds. Plain laws. -/
namespace Go.Proofs.YtcjnchjmpkapmaaGreat
open Go.ChangeShapes Go.WideShapes Go.ChangeAt Go.RowKit
set_option linter.unusedVariables false

theorem fold_min (f : Nd → Int) : ∀ (r : List Nd) (a : Int), r.foldl (fun a x => min a (f x)) a ≤ a ∧ (∀ x ∈ r, r.foldl (fun a x => min a (f x)) a ≤ f x) ∧ (r.foldl (fun a x => min a (f x)) a = a ∨ ∃ x ∈ r, r.foldl (fun a x => min a (f x)) a = f x) := by
  intro r
  induction r with
  | nil => intro a; simp
  | cons x r ih =>
    intro a
    obtain ⟨h1, h2, h3⟩ := ih (min a (f x))
    simp only [List.foldl_cons]
    refine ⟨by omega, fun y hy => ?_, ?_⟩
    · rcases List.mem_cons.1 hy with rfl | hy
      · omega
      · exact h2 y hy
    · rcases h3 with h3 | ⟨y, hy, h3⟩
      · by_cases hx : a ≤ f x
        · left; rw [h3]; omega
        · right; exact ⟨x, by simp, by rw [h3]; omega⟩
      · exact .inr ⟨y, by simp [hy], h3⟩
theorem fold_max (f : Nd → Int) : ∀ (r : List Nd) (a : Int), a ≤ r.foldl (fun a x => max a (f x)) a ∧ (∀ x ∈ r, f x ≤ r.foldl (fun a x => max a (f x)) a) ∧ (r.foldl (fun a x => max a (f x)) a = a ∨ ∃ x ∈ r, r.foldl (fun a x => max a (f x)) a = f x) := by
  intro r
  induction r with
  | nil => intro a; simp
  | cons x r ih =>
    intro a
    obtain ⟨h1, h2, h3⟩ := ih (max a (f x))
    simp only [List.foldl_cons]
    refine ⟨by omega, fun y hy => ?_, ?_⟩
    · rcases List.mem_cons.1 hy with rfl | hy
      · omega
      · exact h2 y hy
    · rcases h3 with h3 | ⟨y, hy, h3⟩
      · by_cases hx : f x ≤ a
        · left; rw [h3]; omega
        · right; exact ⟨x, by simp, by rw [h3]; omega⟩
      · exact .inr ⟨y, by simp [hy], h3⟩
theorem fold_pair {g : Int → Int → Int} {f1 f2 : Nd → Int} {s : Int × Int → Nd → Int × Int} (hs : ∀ a x, s a x = (g a.1 (f1 x), g a.2 (f2 x))) : ∀ (r : List Nd) (a : Int × Int), r.foldl s a = (r.foldl (fun a x => g a (f1 x)) a.1, r.foldl (fun a x => g a (f2 x)) a.2) := by
  intro r
  induction r with
  | nil => intro a; rfl
  | cons x r ih => intro a; simp only [List.foldl_cons]; rw [hs, ih]
theorem least_is (l : Int) (r : List Nd) : leastOf l r = (r.foldl (fun a x => min a (endsOf l x.1).1) 9223372036854775807, r.foldl (fun a x => min a (endsOf l x.1).2.1) 9223372036854775807) :=
  fold_pair (g := min) (f1 := fun x => (endsOf l x.1).1) (f2 := fun x => (endsOf l x.1).2.1) (fun a x => rfl) r _
theorem most_is (l : Int) (r : List Nd) : mostOf l r = (r.foldl (fun a x => max a (endsOf l x.1).1) 0, r.foldl (fun a x => max a (endsOf l x.1).2.1) 0) :=
  fold_pair (g := max) (f1 := fun x => (endsOf l x.1).1) (f2 := fun x => (endsOf l x.1).2.1) (fun a x => rfl) r _
theorem weighR_in {l : Int} {f : Int → Int → Bool} {r : List Nd} (hr : Roll r) {x : Nd} (hx : x ∈ r) (hf : f (endsOf l x.1).1 (endsOf l x.1).2.1 = true) : 1 ≤ weighR l f r := by
  induction r with
  | nil => simp at hx
  | cons y r ih =>
    have h1 := (hr.2 y (by simp)).2
    have h2 := weighR_le (l := l) (f := f) hr.tail
    simp only [weighR]
    rcases List.mem_cons.1 hx with rfl | hx
    · rw [if_pos hf]; omega
    · have := ih hr.tail hx
      split <;> omega
theorem weighR_out {l : Int} {f : Int → Int → Bool} {r : List Nd} (hr : Roll r) {x : Nd} (hx : x ∈ r) (hf : f (endsOf l x.1).1 (endsOf l x.1).2.1 = false) : weighR l f r < sumR r := by
  induction r with
  | nil => simp at hx
  | cons y r ih =>
    have h1 := (hr.2 y (by simp)).2
    have h2 := weighR_le (l := l) (f := f) hr.tail
    simp only [weighR, sumR]
    rcases List.mem_cons.1 hx with rfl | hx
    · rw [if_neg (by simp [hf])]; omega
    · have := ih hr.tail hx
      split <;> omega
theorem weighR_every {l : Int} {f : Int → Int → Bool} {r : List Nd} (hf : ∀ x ∈ r, f (endsOf l x.1).1 (endsOf l x.1).2.1 = true) : weighR l f r = sumR r := by
  induction r with
  | nil => rfl
  | cons y r ih =>
    simp only [weighR, sumR]
    rw [if_pos (hf y (by simp)), ih fun z hz => hf z (by simp [hz])]
section
variable {l : Nat} {k : Int} {r m : List Nd}
theorem Held.ne (h : Held l k r m) (hm : m ≠ []) : r ≠ [] := by
  rintro rfl
  have := h.sum
  have h1 := h.bag.len
  cases m with
  | nil => exact hm rfl
  | cons x m => simp [sumR] at this h1; omega
theorem Held.ends (h : Held l k r m) (hl : 1 ≤ l ∧ l ≤ 48) (hk : 1 ≤ k) {lo hi : Int} (hlo : ∃ z ∈ m, z.1 = lo) (hlo2 : ∀ z ∈ m, lo ≤ z.1) (hhi : ∃ z ∈ m, z.1 = hi) (hhi2 : ∀ z ∈ m, z.1 ≤ hi) :
    (leastOf l r).1 ≤ lo ∧ lo ≤ (leastOf l r).2 ∧ (mostOf l r).1 ≤ hi ∧ hi ≤ (mostOf l r).2 := by
  have hne : r ≠ [] := h.ne (by obtain ⟨z, hz, _⟩ := hlo; rintro rfl; simp at hz)
  have hp : ∀ x ∈ m, 1 ≤ x.2 := fun x hx => (h.bag.val x hx).2.2
  have hn := h.fits.nodes hl
  have hex : ∃ x, x ∈ r := by
    cases r with
    | nil => exact absurd rfl hne
    | cons x r => exact ⟨x, by simp⟩
  obtain ⟨x0, hx0⟩ := hex
  have key : ∀ y, (∃ z ∈ m, z.1 ≤ y) → 1 ≤ betwB m 0 y := by
    rintro y ⟨z, hz, hzy⟩
    clear hlo hlo2 hhi hhi2
    have hv := h.bag.val
    clear h
    induction m with
    | nil => simp at hz
    | cons u m ih =>
      have h1 := hp u (by simp)
      have h2 := betwB_le (m := m) (fun x hx => hp x (by simp [hx])) 0 y
      simp only [betwB]
      rcases List.mem_cons.1 hz with rfl | hz
      · rw [if_pos ⟨(hv z (by simp)).1, hzy⟩]; omega
      · have := ih (fun x hx => hp x (by simp [hx])) hz fun x hx => hv x (by simp [hx])
        split <;> omega
  have key2 : ∀ y, 1 ≤ betwB m 0 y → ∃ z ∈ m, z.1 ≤ y := fun y hy => by
    apply Classical.byContradiction
    intro hc
    have : betwB m 0 y = 0 := betwB_none fun z hz => .inr (by
      apply Classical.byContradiction
      intro hc2
      exact hc ⟨z, hz, by omega⟩)
    omega
  have key3 : ∀ y, betwB m 0 y < sumR m → ∃ z ∈ m, y < z.1 := fun y hy => by
    apply Classical.byContradiction
    intro hc
    have : betwB m 0 y = sumR m := betwB_all fun z hz => ⟨(h.bag.val z hz).1, by
      apply Classical.byContradiction
      intro hc2
      exact hc ⟨z, hz, by omega⟩⟩
    omega
  rw [least_is, most_is]
  simp only
  refine ⟨?_, ?_, ?_, ?_⟩
  · obtain ⟨_, f2, _⟩ := fold_min (fun x => (endsOf l x.1).1) r 9223372036854775807
    apply Classical.byContradiction
    intro hc
    obtain ⟨z, hz, e⟩ := hlo
    have h1 := key lo ⟨z, hz, by omega⟩
    have h2 := (h.rank hl hk lo).2.1
    have : highOf l r lo = 0 := by
      unfold highOf
      exact weighR_none fun x hx => by
        have := f2 x hx
        simp only [decide_eq_false_iff_not]
        omega
    omega
  · obtain ⟨_, f2, f3⟩ := fold_min (fun x => (endsOf l x.1).2.1) r 9223372036854775807
    rcases f3 with f3 | ⟨x, hx, f3⟩
    · have := ends_48 hl.2 (hn x0 hx0)
      have := f2 x0 hx0
      (try simp only at this)
      omega
    · (try simp only at f3)
      rw [f3]
      have h1 : 1 ≤ lowOf l r (endsOf l x.1).2.1 := weighR_in h.fits.roll hx (by simp)
      have h2 := (h.rank hl hk (endsOf l x.1).2.1).1
      obtain ⟨z, hz, hzy⟩ := key2 (endsOf l x.1).2.1 (by omega)
      have := hlo2 z hz
      omega
  · obtain ⟨_, f2, f3⟩ := fold_max (fun x => (endsOf l x.1).1) r 0
    rcases f3 with f3 | ⟨x, hx, f3⟩
    · rw [f3]
      obtain ⟨z, hz, e⟩ := hhi
      have := (h.bag.val z hz).1
      omega
    · (try simp only at f3)
      rw [f3]
      have h1 : highOf l r ((endsOf l x.1).1 - 1) < sumR r := weighR_out h.fits.roll hx (by simp; omega)
      have h2 := (h.rank hl hk ((endsOf l x.1).1 - 1)).2.1
      rw [h.sum] at h1
      obtain ⟨z, hz, hzy⟩ := key3 ((endsOf l x.1).1 - 1) (by omega)
      have := hhi2 z hz
      omega
  · obtain ⟨_, f2, _⟩ := fold_max (fun x => (endsOf l x.1).2.1) r 0
    generalize r.foldl (fun a x => max a (endsOf l x.1).2.1) 0 = M at f2 ⊢
    have h1 : lowOf l r M = sumR r := weighR_every fun x hx => by
      have := f2 x hx
      simp only [decide_eq_true_eq]
      omega
    have h2 := (h.rank hl hk M).1
    apply Classical.byContradiction
    intro hc
    obtain ⟨z, hz, e⟩ := hhi
    have h3 : betwB m 0 M < sumR m := by
      have hv := h.bag.val
      clear key key2 key3 hlo hlo2 hhi2 h1 h2 f2 hn hx0 hne
      clear h
      have hlt : M < z.1 := by omega
      clear hc e
      induction m with
      | nil => simp at hz
      | cons u m ih =>
        have g1 := hp u (by simp)
        have g2 := betwB_le (m := m) (fun x hx => hp x (by simp [hx])) 0 M
        simp only [betwB, sumR]
        rcases List.mem_cons.1 hz with rfl | hz
        · rw [if_neg (by omega)]; omega
        · have := ih (fun x hx => hp x (by simp [hx])) hz fun x hx => hv x (by simp [hx])
          split <;> omega
    rw [h.sum] at h1
    omega
theorem worst_fold (l : Int) (r : List Nd) : ∀ (p : List Nd) (a : Int × Int), a.2 ≤ (p.foldl (fun a x => worstStep a (endsOf l x.1).1 (gapAt l r (endsOf l x.1).1)) a).2 ∧ (∀ x ∈ p, gapAt l r (endsOf l x.1).1 ≤ (p.foldl (fun a x => worstStep a (endsOf l x.1).1 (gapAt l r (endsOf l x.1).1)) a).2) ∧
    ∀ M, a.2 ≤ M → (∀ x ∈ p, gapAt l r (endsOf l x.1).1 ≤ M) → (p.foldl (fun a x => worstStep a (endsOf l x.1).1 (gapAt l r (endsOf l x.1).1)) a).2 ≤ M := by
  intro p
  induction p with
  | nil => intro a; exact ⟨Int.le_refl _, by simp, fun M h _ => h⟩
  | cons x p ih =>
    intro a
    obtain ⟨h1, h2, h3⟩ := ih (worstStep a (endsOf l x.1).1 (gapAt l r (endsOf l x.1).1))
    have e : (worstStep a (endsOf l x.1).1 (gapAt l r (endsOf l x.1).1)).2 = max a.2 (gapAt l r (endsOf l x.1).1) := by
      unfold worstStep
      split
      · rename_i hc; simp only; omega
      · rename_i hc; omega
    rw [e] at h1 h3
    simp only [List.foldl_cons]
    refine ⟨by omega, fun y hy => ?_, fun M ha hM => h3 M ?_ fun y hy => hM y (by simp [hy])⟩
    · rcases List.mem_cons.1 hy with rfl | hy
      · omega
      · exact h2 y hy
    · have := hM x (by simp)
      omega
theorem Held.worst (h : Held l k r m) (hl : 1 ≤ l ∧ l ≤ 48) (hk : 1 ≤ k) : (worstPre l r r).2 ≤ l * (sumR m / k) ∧ ∀ y, highOf l r y - lowOf l r y ≤ (worstPre l r r).2 := by
  have hg : ∀ y, gapAt l r y = highOf l r y - lowOf l r y := fun y => rfl
  have hs0 : (worstStep (0, 0) 0 (gapAt l r 0)).2 = max 0 (gapAt l r 0) := by
    unfold worstStep
    split
    · rename_i hc; simp only at hc ⊢; omega
    · rename_i hc; simp only at hc ⊢; omega
  have hq0 : 0 ≤ sumR m / k := Int.ediv_nonneg h.bag.sum0 (by omega)
  have hM0 : 0 ≤ (l : Int) * (sumR m / k) := Int.mul_nonneg (by omega) hq0
  obtain ⟨f1, f2, f3⟩ := worst_fold l r r (worstStep (0, 0) 0 (gapAt l r 0))
  rw [hs0] at f1 f3
  change _ ≤ (worstPre l r r).2 at f1
  change ∀ x ∈ r, _ ≤ (worstPre l r r).2 at f2
  change ∀ M, _ → _ → (worstPre l r r).2 ≤ M at f3
  refine ⟨f3 _ ?_ fun x hx => ?_, fun y => ?_⟩
  · have := (h.rank hl hk 0).2.2
    rw [hg]; omega
  · have := (h.rank hl hk (endsOf l x.1).1).2.2
    rw [hg]; omega
  · by_cases hex : ∃ x ∈ r, (endsOf l x.1).1 ≤ y
    · -- the last node that begins up to there
      have hmax : ∃ x ∈ r, (endsOf l x.1).1 ≤ y ∧ ∀ z ∈ r, (endsOf l z.1).1 ≤ y → (endsOf l z.1).1 ≤ (endsOf l x.1).1 := by
        clear f1 f2 f3 hs0 hg h
        induction r with
        | nil => obtain ⟨x, hx, _⟩ := hex; simp at hx
        | cons u r ih =>
          by_cases hex2 : ∃ x ∈ r, (endsOf l x.1).1 ≤ y
          · obtain ⟨x, hx, h1, h2⟩ := ih hex2
            by_cases hu : (endsOf l u.1).1 ≤ y ∧ (endsOf l x.1).1 < (endsOf l u.1).1
            · refine ⟨u, by simp, hu.1, fun z hz hzy => ?_⟩
              rcases List.mem_cons.1 hz with rfl | hz
              · exact Int.le_refl _
              · have := h2 z hz hzy; omega
            · refine ⟨x, by simp [hx], h1, fun z hz hzy => ?_⟩
              rcases List.mem_cons.1 hz with rfl | hz
              · omega
              · exact h2 z hz hzy
          · obtain ⟨x, hx, hxy⟩ := hex
            rcases List.mem_cons.1 hx with rfl | hx
            · refine ⟨x, by simp, hxy, fun z hz hzy => ?_⟩
              rcases List.mem_cons.1 hz with rfl | hz
              · exact Int.le_refl _
              · exact absurd ⟨z, hz, hzy⟩ hex2
            · exact absurd ⟨x, hx, hxy⟩ hex2
      obtain ⟨x, hx, hxy, hxm⟩ := hmax
      have h1 := f2 x hx
      rw [hg] at h1
      have h2 : highOf l r y = highOf l r (endsOf l x.1).1 := by
        have a1 : highOf l r (endsOf l x.1).1 ≤ highOf l r y := weighR_mono h.fits.roll fun z hz hzz => by
          simp only [decide_eq_true_eq] at hzz ⊢; omega
        have a2 : highOf l r y ≤ highOf l r (endsOf l x.1).1 := weighR_mono h.fits.roll fun z hz hzz => by
          simp only [decide_eq_true_eq] at hzz ⊢; exact hxm z hz hzz
        omega
      have h3 : lowOf l r (endsOf l x.1).1 ≤ lowOf l r y := weighR_mono h.fits.roll fun z hz hzz => by
        simp only [decide_eq_true_eq] at hzz ⊢; omega
      omega
    · have : highOf l r y = 0 := weighR_none fun x hx => by
        simp only [decide_eq_false_iff_not]
        exact fun hc => hex ⟨x, hx, hc⟩
      have := (weighR_le (l := l) (f := fun _ hi => decide (hi ≤ y)) h.fits.roll).1
      change 0 ≤ lowOf l r y at this
      omega
end
end Go.Proofs.YtcjnchjmpkapmaaGreat
/- What is told of the mean holds. Plain laws. -/
namespace Go.Proofs.YtcjnchjmpkapmaaGreat
open Go.ChangeShapes Go.WideShapes Go.ChangeAt Go.RowKit
set_option linter.unusedVariables false

def lsum (g : Nat → Int) : Nat → Int
  | 0 => 0
  | M + 1 => lsum g M + g M
theorem lsum_zero (M : Nat) : lsum (fun _ => 0) M = 0 := by
  induction M with
  | zero => rfl
  | succ M ih => simp only [lsum, ih]; rfl
theorem lsum_add (g h : Nat → Int) (M : Nat) : lsum (fun j => g j + h j) M = lsum g M + lsum h M := by
  induction M with
  | zero => rfl
  | succ M ih => simp only [lsum, ih]; omega
theorem lsum_le {g h : Nat → Int} (hg : ∀ j, g j ≤ h j) (M : Nat) : lsum g M ≤ lsum h M := by
  induction M with
  | zero => simp [lsum]
  | succ M ih => have := hg M; simp only [lsum]; omega
theorem lsum_cut (a c : Int) (h0 : 0 ≤ a) (M : Nat) : lsum (fun j => if (j : Int) < a then c else 0) M = min a M * c := by
  induction M with
  | zero => simp only [lsum]; rw [show min a ((0 : Nat) : Int) = 0 by omega, Int.zero_mul]
  | succ M ih =>
    simp only [lsum, ih]
    by_cases h : (M : Int) < a
    · rw [if_pos h, show min a (M : Int) = M by omega, show min a ((M + 1 : Nat) : Int) = M + 1 by omega, Int.add_mul]; omega
    · rw [if_neg h, show min a (M : Int) = a by omega, show min a ((M + 1 : Nat) : Int) = a by omega]; omega
def intW (l : Int) (f : Int → Int → Int) : List Nd → Int
  | [] => 0
  | x :: r => f (endsOf l x.1).1 (endsOf l x.1).2.1 * x.2 + intW l f r
theorem intW_levels {l : Int} {f : Int → Int → Int} {M : Nat} : ∀ {r : List Nd}, (∀ x ∈ r, 0 ≤ f (endsOf l x.1).1 (endsOf l x.1).2.1 ∧ f (endsOf l x.1).1 (endsOf l x.1).2.1 ≤ M) → intW l f r = lsum (fun j => weighR l (fun lo hi => decide ((j : Int) < f lo hi)) r) M := by
  intro r
  induction r with
  | nil =>
    intro _
    exact (lsum_zero M).symm
  | cons x r ih =>
    intro h
    have h1 := h x (by simp)
    have h2 := ih fun y hy => h y (by simp [hy])
    have e : (fun j : Nat => weighR l (fun lo hi => decide ((j : Int) < f lo hi)) (x :: r)) = fun j : Nat => (if (j : Int) < f (endsOf l x.1).1 (endsOf l x.1).2.1 then x.2 else 0) + weighR l (fun lo hi => decide ((j : Int) < f lo hi)) r := by
      funext j
      simp only [weighR, decide_eq_true_eq]
    rw [e, lsum_add, lsum_cut _ _ h1.1, ← h2, show min (f (endsOf l x.1).1 (endsOf l x.1).2.1) (M : Int) = f (endsOf l x.1).1 (endsOf l x.1).2.1 by omega]
    rfl
theorem sumW_int {l : Nat} {r : List Nd} (hr : Roll r) (hn : ∀ x ∈ r, isNode l x.1 = true) (b : Bool) : (sumW l b r : Int) = intW l (fun lo hi => if b = true then hi else lo) r := by
  induction r with
  | nil => rfl
  | cons x r ih =>
    have h1 := ends_bounds (hn x (by simp))
    have h2 := (hr.2 x (by simp)).2
    have h3 := ih hr.tail fun y hy => hn y (by simp [hy])
    simp only [sumW, intW]
    rw [Int.natCast_add, h3, Int.natCast_mul, Int.toNat_of_nonneg (by cases b <;> simp <;> omega), Int.toNat_of_nonneg (by omega)]
def itemS : List Nd → Nat
  | [] => 0
  | x :: m => x.1.toNat * x.2.toNat + itemS m
theorem itemS_take {m : List Nd} {q : Nat} (h : q < m.length) : itemS (m.take (q + 1)) = itemS (m.take q) + m[q].1.toNat * m[q].2.toNat := by
  have key : ∀ a b : List Nd, itemS (a ++ b) = itemS a + itemS b := by
    intro a b
    induction a with
    | nil => simp [itemS]
    | cons x a ih => simp only [List.cons_append, itemS, ih]; omega
  rw [List.take_succ_eq_append_getElem h, key]
  simp [itemS]
theorem items_int {l : Nat} (hl : 1 ≤ l ∧ l ≤ 48) {m : List Nd} (hv : ∀ x ∈ m, 0 ≤ x.1 ∧ x.1 < 2 ^ l ∧ 1 ≤ x.2) (b : Bool) : intW l (fun lo hi => if b = true then hi else lo) (leaves l m) = itemS m := by
  induction m with
  | nil => rfl
  | cons x m ih =>
    have hx := hv x (by simp)
    obtain ⟨_, n2, n3⟩ := leaf_node hl hx.1 hx.2.1
    unfold loN at n2
    unfold hiN at n3
    have := ih fun y hy => hv y (by simp [hy])
    simp only [leaves, List.map_cons, intW, itemS] at this ⊢
    rw [this, n2, n3, Int.natCast_add, Int.natCast_mul, Int.toNat_of_nonneg hx.1, Int.toNat_of_nonneg (by omega)]
    cases b <;> rfl
theorem Held.sums {l : Nat} {k : Int} {r m : List Nd} (h : Held l k r m) (hl : 1 ≤ l ∧ l ≤ 48) : sumW l false r ≤ itemS m ∧ itemS m ≤ sumW l true r := by
  have hn := h.fits.nodes hl
  have hq := leaves_roll h.bag
  have hqn := leaves_node hl h.bag
  have b1 : ∀ (b : Bool), ∀ x ∈ r, 0 ≤ (fun lo hi : Int => if b = true then hi else lo) (endsOf l x.1).1 (endsOf l x.1).2.1 ∧ (fun lo hi : Int => if b = true then hi else lo) (endsOf l x.1).1 (endsOf l x.1).2.1 ≤ ((281474976710655 : Nat) : Int) := fun b x hx => by
    have := ends_48 hl.2 (hn x hx)
    cases b <;> simp <;> omega
  have b2 : ∀ (b : Bool), ∀ x ∈ leaves l m, 0 ≤ (fun lo hi : Int => if b = true then hi else lo) (endsOf l x.1).1 (endsOf l x.1).2.1 ∧ (fun lo hi : Int => if b = true then hi else lo) (endsOf l x.1).1 (endsOf l x.1).2.1 ≤ ((281474976710655 : Nat) : Int) := fun b x hx => by
    have := ends_48 hl.2 (hqn x hx)
    cases b <;> simp <;> omega
  have hv := h.bag.val
  constructor
  · have e1 := sumW_int h.fits.roll hn false
    have e2 := items_int hl hv false
    rw [intW_levels (b1 false)] at e1
    rw [intW_levels (b2 false)] at e2
    have : (sumW l false r : Int) ≤ itemS m := by
      rw [e1, ← e2]
      refine lsum_le (fun j => ?_) _
      refine h.flow.le h.fits.roll hq ?_
      intro lo hi a b h1 h2 h3
      simp only [Bool.false_eq_true, if_false, decide_eq_true_eq] at h3 ⊢
      omega
    exact_mod_cast this
  · have e1 := sumW_int h.fits.roll hn true
    have e2 := items_int hl hv true
    rw [intW_levels (b1 true)] at e1
    rw [intW_levels (b2 true)] at e2
    have : (itemS m : Int) ≤ sumW l true r := by
      rw [e1, ← e2]
      refine lsum_le (fun j => ?_) _
      refine h.flow.ge h.fits.roll hq ?_
      intro lo hi a b h1 h2 h3 h4
      simp only [if_true, decide_eq_true_eq] at h4 ⊢
      omega
    exact_mod_cast this
end Go.Proofs.YtcjnchjmpkapmaaGreat
/- Chapter 20: what is told of bounds holds: the law. -/
namespace Go.Proofs.YtcjnchjmpkapmaaGreat
open Go.ChangeShapes Go.WideShapes Go.ChangeAt Go.RowKit
set_option linter.unusedVariables false
set_option linter.unusedSimpArgs false
set_option maxRecDepth 100000

structure BoundIs (l : Nat) (k : Int) (r m : List Nd) (lo hi : Int) : Prop where
  a : (leastOf l r).1 ≤ lo ∧ lo ≤ (leastOf l r).2
  b : (mostOf l r).1 ≤ hi ∧ hi ≤ (mostOf l r).2
  gap : (worstPre l r r).2 ≤ l * (sumR m / k)
  worst : ∀ y, highOf l r y - lowOf l r y ≤ (worstPre l r r).2
  mean : sumW l false r / (sumR m).toNat ≤ itemS m / (sumR m).toNat ∧ itemS m / (sumR m).toNat ≤ sumW l true r / (sumR m).toNat + (if sumW l true r % (sumR m).toNat = 0 then 0 else 1)
  big : itemS m < 9223372036854775808 * (sumR m).toNat
  pos : 0 < sumR m
  rng : 0 ≤ lo ∧ lo ≤ hi ∧ hi ≤ 281474976710655
theorem bound_holds {l : Nat} {k : Int} {r m : List Nd} (h : Held l k r m) (hl : 1 ≤ l ∧ l ≤ 48) (hk : 1 ≤ k) (hm : 0 < m.length) : BoundIs l k r m m[0].1 (m[m.length - 1]'(by omega)).1 := by
  have hp := List.pairwise_iff_getElem.1 h.bag.up
  have hpos : 0 < sumR m := by have := h.bag.len; omega
  have hlo : ∀ z ∈ m, m[0].1 ≤ z.1 := fun z hz => by
    obtain ⟨j, hj, rfl⟩ := List.mem_iff_getElem.1 hz
    by_cases h0 : j = 0
    · subst h0; exact Int.le_refl _
    · have := hp 0 j hm hj (by omega); omega
  have hhi : ∀ z ∈ m, z.1 ≤ (m[m.length - 1]'(by omega)).1 := fun z hz => by
    obtain ⟨j, hj, rfl⟩ := List.mem_iff_getElem.1 hz
    by_cases h0 : j = m.length - 1
    · subst h0; exact Int.le_refl _
    · have := hp j (m.length - 1) hj (by omega) (by omega); omega
  obtain ⟨e1, e2, e3, e4⟩ := h.ends hl hk ⟨_, List.getElem_mem hm, rfl⟩ hlo ⟨_, List.getElem_mem (by omega), rfl⟩ hhi
  obtain ⟨w1, w2⟩ := h.worst hl hk
  obtain ⟨s1, s2⟩ := h.sums hl
  have h48 := pow_48 hl.2
  have hv0 := h.bag.val _ (List.getElem_mem hm)
  have hv1 := h.bag.val _ (List.getElem_mem (show m.length - 1 < m.length by omega))
  have hs := sumW_le hl.2 h.fits.roll (h.fits.nodes hl) true
  rw [h.sum] at hs
  refine ⟨⟨e1, e2⟩, ⟨e3, e4⟩, w1, w2, ⟨Nat.div_le_div_right s1, ?_⟩, ?_, hpos, hv0.1, hlo _ (List.getElem_mem (by omega)), by omega⟩
  · have := Nat.div_le_div_right (c := (sumR m).toNat) s2
    omega
  · have : 0 < (sumR m).toNat := by omega
    omega
theorem getB_le {l : Nat} {m : List Nd} (h : ∀ x ∈ m, 0 ≤ x.1 ∧ x.1 < 2 ^ l ∧ 1 ≤ x.2) {x : Nd} (hx : x ∈ m) : x.2 ≤ sumR m := by
  induction m with
  | nil => simp at hx
  | cons z m ih =>
    have h1 := (h z (by simp)).2.2
    have h2 := (sumR_pos fun y hy => (h y (List.mem_cons_of_mem _ hy)).2.2).1
    simp only [sumR]
    rcases List.mem_cons.1 hx with rfl | hx
    · omega
    · have := ih (fun y hy => h y (by simp [hy])) hx; omega
structure FourW (w : World) (g K l : Nat) (k : Int) (r m : List Nd) (F : Nat → Prop) (ops : List Op3) (A : Option Addr) (cap : Nat) (pb : Nat) (A1 : Option Addr) (c1 : Nat) (p7 p9 p11 p13 : Nat) (a0 a1 b0 b1 d0 d1 e0 e1 : Int) (W : World) : Prop where
  a : LawW w g K l k r m F ops A cap pb A1 c1 W
  x7 : bothAt W p7 a0 a1
  x9 : bothAt W p9 b0 b1
  x11 : bothAt W p11 d0 d1
  x13 : bothAt W p13 e0 e1
section
variable {w : World} {g K l : Nat} {k : Int} {r m : List Nd} {F : Nat → Prop} {ops : List Op3} {A : Option Addr} {cap : Nat} {pb : Nat} {A1 : Option Addr} {c1 : Nat} {p7 p9 p11 p13 : Nat} {a0 a1 b0 b1 d0 d1 e0 e1 : Int} {W W' : World}
theorem FourW.below (h : FourW w g K l k r m F ops A cap pb A1 c1 p7 p9 p11 p13 a0 a1 b0 b1 d0 d1 e0 e1 W) (hb : Below W.heap.size W W') : FourW w g K l k r m F ops A cap pb A1 c1 p7 p9 p11 p13 a0 a1 b0 b1 d0 d1 e0 e1 W' :=
  ⟨h.a.below hb, h.x7.below hb, h.x9.below hb, h.x11.below hb, h.x13.below hb⟩
end
set_option maxHeartbeats 4000000 in
theorem law_BoundHolds_big (l k K : Int) (ops : List Op3) (A : Option Addr) (cap : Nat) (y : Int) (w : World) (h : ¬ (ops.length ≤ 120 ∧ ¬ (K = 1 ∧ 10 < l))) (hm : ops.length ≤ maxLen) :
    Calls Tryz.prog 8 #[callsV l k K A ops.length cap, .int .i64 y] w fun e w' => e = .returned (.bool true) ∧ Below w.heap.size w w' := by
  unfold maxLen at hm
  unfold callsV
  by_cases h1 : 120 < ops.length
  · have h1p : (120 : Int) < (ops.length : Int) := by omega
    clear h
    go_enter Tryz.func8, Tryz.ntmps8
    go_wp2_with fail
    refine (alive20 _).mono ?_
    rintro e w1 ⟨rfl, hb1⟩
    have B1 : Below w.heap.size w w1 := Below.then_ (by repeat (first | with_reducible exact Below.refl _ _ | with_reducible assumption | ((with_reducible refine Below.setCell ?_ ?_ _); rotate_left; · (first | omega | exact Nat.le_refl _ | (simp <;> omega))) | (with_reducible refine Below.allocW ?_ _) | (with_reducible refine Below.drew ?_) | (with_reducible refine Below.extW ?_ _))) hb1
    have s1 : w.heap.size ≤ w1.heap.size := B1.size
    go_wp2_with fail
    go_ret
    exact ⟨rfl, (by repeat (first | with_reducible exact Below.refl _ _ | with_reducible assumption | ((with_reducible refine Below.setCell ?_ ?_ _); rotate_left; · (first | omega | exact Nat.le_refl _ | (simp <;> omega))) | (with_reducible refine Below.allocW ?_ _) | (with_reducible refine Below.drew ?_) | (with_reducible refine Below.extW ?_ _)))⟩
  · have h1n : decide ((120 : Int) < (ops.length : Int)) = false := by simp; omega
    have hK : K = 1 ∧ 10 < l := Classical.byContradiction fun hc => h ⟨by omega, hc⟩
    obtain ⟨rfl, hL⟩ := hK
    clear h h1
    go_enter Tryz.func8, Tryz.ntmps8
    go_wp2_with fail
    refine (alive20 _).mono ?_
    rintro e w1 ⟨rfl, hb1⟩
    have B1 : Below w.heap.size w w1 := Below.then_ (by repeat (first | with_reducible exact Below.refl _ _ | with_reducible assumption | ((with_reducible refine Below.setCell ?_ ?_ _); rotate_left; · (first | omega | exact Nat.le_refl _ | (simp <;> omega))) | (with_reducible refine Below.allocW ?_ _) | (with_reducible refine Below.drew ?_) | (with_reducible refine Below.extW ?_ _))) hb1
    have s1 : w.heap.size ≤ w1.heap.size := B1.size
    go_wp2_with fail
    go_ret
    exact ⟨rfl, (by repeat (first | with_reducible exact Below.refl _ _ | with_reducible assumption | ((with_reducible refine Below.setCell ?_ ?_ _); rotate_left; · (first | omega | exact Nat.le_refl _ | (simp <;> omega))) | (with_reducible refine Below.allocW ?_ _) | (with_reducible refine Below.drew ?_) | (with_reducible refine Below.extW ?_ _)))⟩
set_option maxHeartbeats 4000000 in
theorem law_BoundHolds_none (l k K : Int) (ops : List Op3) (A : Option Addr) (cap : Nat) (y : Int) (w : World) (h : ops.length ≤ 120 ∧ ¬ (K = 1 ∧ 10 < l)) (hd : isDig l k K = false) :
    Calls Tryz.prog 8 #[callsV l k K A ops.length cap, .int .i64 y] w fun e w' => e = .returned (.bool true) ∧ Below w.heap.size w w' := by
  obtain ⟨h1, h4⟩ := h
  have h1n : decide ((120 : Int) < (ops.length : Int)) = false := by simp; omega
  have HM := Lib.hid (fun W v => law13_Made_no W l k K v hd)
  unfold bagV at HM
  unfold callsV
  rcases (by by_cases e : K = 1; exact .inl ⟨by simpa using e, by simp; omega⟩; exact .inr (by simpa using e) : ((K == 1) = true ∧ decide (10 < l) = false) ∨ (K == 1) = false) with ⟨g1, g2⟩ | g1
  all_goals
    clear h4 hd h1
    go_enter Tryz.func8, Tryz.ntmps8
    go_wp2_with fail
    refine (HM.out _ _).mono ?_
    rintro e w1 ⟨rfl, hb1⟩
    have B1 : Below w.heap.size w w1 := Below.then_ (by repeat (first | with_reducible exact Below.refl _ _ | with_reducible assumption | ((with_reducible refine Below.setCell ?_ ?_ _); rotate_left; · (first | omega | exact Nat.le_refl _ | (simp <;> omega))) | (with_reducible refine Below.allocW ?_ _) | (with_reducible refine Below.drew ?_) | (with_reducible refine Below.extW ?_ _))) hb1
    have s1 : w.heap.size ≤ w1.heap.size := B1.size
    go_wp2_with fail
    refine (alive20 _).mono ?_
    rintro e w2 ⟨rfl, hb2⟩
    have B2 : Below w.heap.size w w2 := Below.then_ (by repeat (first | with_reducible exact Below.refl _ _ | with_reducible assumption | ((with_reducible refine Below.setCell ?_ ?_ _); rotate_left; · (first | omega | exact Nat.le_refl _ | (simp <;> omega))) | (with_reducible refine Below.allocW ?_ _) | (with_reducible refine Below.drew ?_) | (with_reducible refine Below.extW ?_ _))) hb2
    have s2 : w.heap.size ≤ w2.heap.size := B2.size
    go_wp2_with fail
    go_ret
    exact ⟨rfl, (by repeat (first | with_reducible exact Below.refl _ _ | with_reducible assumption | ((with_reducible refine Below.setCell ?_ ?_ _); rotate_left; · (first | omega | exact Nat.le_refl _ | (simp <;> omega))) | (with_reducible refine Below.allocW ?_ _) | (with_reducible refine Below.drew ?_) | (with_reducible refine Below.extW ?_ _)))⟩
set_option maxHeartbeats 16000000 in
theorem law_BoundHolds_yes (l K : Nat) (k : Int) (ops : List Op3) (A : Option Addr) (cap : Nat) (y : Int) (w : World) (h : ops.length ≤ 120 ∧ ¬ ((K : Int) = 1 ∧ 10 < (l : Int))) (hd : isDig l k K = true) (hS : Sl w w.heap.size encO A ops) (hI : intsO ops) :
    Calls Tryz.prog 8 #[callsV l k K A ops.length cap, .int .i64 y] w fun e w' => e = .returned (.bool true) ∧ Below w.heap.size w w' := by
  obtain ⟨h1, h4⟩ := h
  have hl : 1 ≤ l ∧ l ≤ 48 := by simp only [isDig, isPool, Bool.and_eq_true, decide_eq_true_eq] at hd; omega
  have hk : 1 ≤ k := by simp only [isDig, Bool.and_eq_true, decide_eq_true_eq] at hd; exact hd.2.1
  have h1n : decide ((120 : Int) < (ops.length : Int)) = false := by simp; omega
  have HM := Lib.hid (fun W h => law13_Made W l K k A cap ops hd h hI (by omega))
  have X0 : Hid ((w.alloc (.cells #[.int .i64 l, .int .i64 k, .int .i64 K, .slice A ops.length cap] 26)).heap[w.heap.size]? = some (.cells #[.int .i64 l, .int .i64 k, .int .i64 K, .slice A ops.length cap] 26 (0, 0))) := Lib.hid (heap_alloc_new w _)
  have BW0 : Hid (Below w.heap.size w (w.alloc (.cells #[.int .i64 l, .int .i64 k, .int .i64 K, .slice A ops.length cap] 26))) := Lib.hid (by repeat (first | with_reducible exact Below.refl _ _ | with_reducible assumption | ((with_reducible refine Below.setCell ?_ ?_ _); rotate_left; · (first | omega | exact Nat.le_refl _ | (simp <;> omega))) | (with_reducible refine Below.allocW ?_ _) | (with_reducible refine Below.drew ?_) | (with_reducible refine Below.extW ?_ _)))
  have S0 := Lib.hid (hS.keep (B' := (w.alloc (.cells #[.int .i64 l, .int .i64 k, .int .i64 K, .slice A ops.length cap] 26)).heap.size) BW0.out.size fun p hp => BW0.out.cell hp)
  unfold callsV
  rcases (by by_cases e : (K : Int) = 1; exact .inl ⟨by simpa using e, by simp; omega⟩; exact .inr (by simpa using e) : (((K : Int) == 1) = true ∧ decide (10 < (l : Int)) = false) ∨ ((K : Int) == 1) = false) with ⟨g1, g2⟩ | g1
  all_goals
    clear h4 hd hS
    go_enter Tryz.func8, Tryz.ntmps8
    go_upto_region 1 with fail
    generalize w.alloc (.cells #[.int .i64 l, .int .i64 k, .int .i64 K, .slice A ops.length cap] 26) = W0 at X0 BW0 S0 ⊢
    have x0 := blk_cell X0.out
    have xz := lt_of_block X0.out
    go_wp2_with fail
    refine (HM.out W0 S0.out).mono ?_
    rintro e w1 ⟨g, F, r, m, A1, c1, rfl, hD, _, hT, hH, hr, hml, _, hb1⟩
    have al := (Below.refl w1.heap.size w1).alloc (Nat.le_refl _) (.cells #[.int .i64 l, .slice A1 m.length c1] 31)
    have R2 : Hid (LawW w g K l k r m F ops A cap w1.heap.size A1 c1 (w1.alloc (.cells #[.int .i64 l, .slice A1 m.length c1] 31))) := Lib.hid
      ⟨hD.below al, blk_below (blk_below X0.out hb1) al, heap_alloc_new w1 _, (hT.below al).sl, Below.then_ (Below.then_ BW0.out hb1) al⟩
    have hv : ∀ x ∈ m, 1 ≤ x.2 := fun x hx => (hH.bag.val x hx).2.2
    have hs1 := hH.bag.sum
    have hVm := Lib.hid hH.bag.val
    have hl48 := Lib.hid (pow_48 hl.2)
    have HTo := Lib.hid (fun W h => ref10_Total W l A1 c1 m h hv hs1)
    have HLe := Lib.hid (fun W h => bound_Least W g K l k r F h (by omega))
    have HGr := Lib.hid (fun W h => bound_Greatest W g K l k r F h (by omega))
    have HSp := Lib.hid (fun W h => bound_Spread W g K l k r F h (by omega))
    have HMe := Lib.hid (fun W h => bound_Mean W g K l k r F h (by omega))
    have HWo := Lib.hid (fun W h => bound_Worst W g K l k r F h (by omega))
    have HSl := Lib.hid (fun W h => rank_Slack W g K l k r F h)
    have HHi := Lib.hid (fun W h => rank_High W g K l k r F y h (by omega))
    have HLo := Lib.hid (fun W h => rank_Low W g K l k r F y h (by omega))
    have hbI := fun h => bound_holds hH hl hk h
    have hlr := weighR_le (l := l) (f := fun _ hi => decide (hi ≤ y)) hH.fits.roll
    have hhr := weighR_le (l := l) (f := fun lo _ => decide (lo ≤ y)) hH.fits.roll
    change 0 ≤ lowOf l r y ∧ lowOf l r y ≤ _ at hlr
    change 0 ≤ highOf l r y ∧ highOf l r y ≤ _ at hhr
    have hsum := hH.sum
    rw [hsum] at hlr hhr HSl
    have hlb := least_bounds hl.2 (hH.fits.nodes hl)
    have hmb := most_bounds hl.2 (hH.fits.nodes hl)
    have hrne := hH.ne
    unfold leastT bothV at HLe
    unfold mostT bothV at HGr
    unfold spreadT bothV at HSp
    unfold meanT bothV at HMe
    unfold worstT triV at HWo
    rw [hsum] at HLe HGr HSp HMe HWo
    clear hD hT hH hb1 al x0 xz X0 BW0 S0 HM hv hsum
    unfold bagV at HTo ⊢
    go_upto_region 4 with fail
    obtain ⟨pb, hpb⟩ : ∃ pb, pb = w1.heap.size := ⟨_, rfl⟩
    rw [← hpb] at R2 ⊢
    generalize w1.alloc (.cells #[.int .i64 l, .slice A1 m.length c1] 31) = w2 at R2 ⊢
    clear hpb
    have x2 := blk_cell R2.out.b
    have xz2 := lt_of_block R2.out.b
    by_cases hm0 : m.length = 0
    · have hm0' : ((m.length : Int) == 0) = true := by simp [hm0]
      go_wp2_with fail
      refine (alive20 _).mono ?_
      rintro e w3 ⟨rfl, hb3⟩
      have R3 := Lib.hid (R2.out.below hb3)
      go_wp2_with fail
      go_ret
      exact ⟨rfl, R3.out.blw⟩
    · have hm0' : ((m.length : Int) == 0) = false := by rw [beq_eq_false_iff_ne]; omega
      have hmp : 0 < m.length := by omega
      have I := hbI hmp
      have hrn := hrne (by rintro rfl; simp at hm0)
      have hlb := hlb hrn
      have i1 := I.a
      have i2 := I.b
      have i3 := I.gap
      have i4 := I.worst y
      have i5 := I.mean
      have i6 := I.big
      have i7 := I.pos
      have i8 := I.rng
      rw [if_neg (show ¬ sumR m = 0 by omega)] at HLe HGr HSp HMe HWo
      obtain ⟨lov, hlov⟩ : ∃ lov, lov = m[0].1 := ⟨_, rfl⟩
      obtain ⟨hiv, hhiv⟩ : ∃ hiv, hiv = (m[m.length - 1]'(by omega)).1 := ⟨_, rfl⟩
      rw [← hlov, ← hhiv] at i8
      rw [← hlov] at i1
      rw [← hhiv] at i2
      have HV0 := Lib.hid hlov
      have HV1 := Lib.hid hhiv
      have hml2 : (m.length : Int) ≤ 120 := by omega
      have hq0 : 0 ≤ sumR m / k := Int.ediv_nonneg (by omega) (by omega)
      have hq1 : sumR m / k ≤ sumR m := Int.ediv_le_self _ (by omega)
      have hsl0 : (0 : Int) ≤ l * (sumR m / k) := Int.mul_nonneg (by omega) hq0
      have hsl1 : (l : Int) * (sumR m / k) ≤ 3458764513820540880 := by
        have h1 : (l : Int) * (sumR m / k) ≤ 48 * (sumR m / k) := Int.mul_le_mul_of_nonneg_right (by omega) hq0
        omega
      obtain ⟨N, hN⟩ : ∃ N : Nat, sumR m = N := ⟨(sumR m).toNat, by omega⟩
      have hNn : (sumR m).toNat = N := by omega
      rw [hNn] at HMe i5 i6
      generalize (l : Int) * (sumR m / k) = slk at HSl i3 hsl0 hsl1
      rw [hN] at HTo hs1 hlr hhr i7
      generalize (leastOf l r).1 = a0 at HLe HSp i1 hlb
      generalize (leastOf l r).2 = a1 at HLe HSp i1 hlb
      generalize (mostOf l r).1 = b0 at HGr HSp i2 hmb
      generalize (mostOf l r).2 = b1 at HGr HSp i2 hmb
      generalize (worstPre l r r).1 = wx at HWo
      generalize (worstPre l r r).2 = gp at HWo i3 i4
      generalize highOf l r y = hiy at HHi hhr i4
      generalize lowOf l r y = loy at HLo hlr i4
      have HS5 := Lib.hid i6
      have hSm := Lib.hid hN
      obtain ⟨mq, hmq⟩ : ∃ mq : Nat, mq = itemS m / N := ⟨_, rfl⟩
      have HMQ := Lib.hid hmq
      rw [← hmq] at i5
      generalize sumW l false r / N = m0 at HMe i5
      generalize (sumW l true r / N + if sumW l true r % N = 0 then 0 else 1) = m1 at HMe i5
      have hc5 : (m0 : Int) ≤ (mq : Int) := by omega
      have hc6 : (mq : Int) ≤ (m1 : Int) := by omega
      obtain ⟨ds, hds⟩ : ∃ ds, ds = max (b0 - a1) 0 := ⟨_, rfl⟩
      rw [← hds] at HSp
      have hsp1 : ds ≤ hiv - lov := by omega
      have hsp2 : hiv - lov ≤ b1 - a0 := by omega
      have hds0 : 0 ≤ ds ∧ ds ≤ 281474976710655 := by omega
      have hgp0 : -9223372036854775808 ≤ gp ∧ gp ≤ slk := ⟨by omega, i3⟩
      clear i5 i6 hmq hds I hbI hrne hlov hhiv hNn hN hq0 hq1
      go_wp2_with fail
      refine (HLe.out _ R2.out.d).mono ?_
      rintro e v3 ⟨rfl, hb3⟩
      have al := hb3.trans (((Below.refl v3.heap.size v3).alloc (Nat.le_refl _) (.cells #[.int .i64 a0, .int .i64 a1] 57)).mono hb3.size)
      have Q3 : Hid (bothAt (v3.alloc (.cells #[.int .i64 a0, .int .i64 a1] 57)) v3.heap.size a0 a1) := Lib.hid (bothAt.new v3 a0 a1)
      have R3 := Lib.hid (R2.out.below al)
      clear hb3 al R2 x2 xz2
      go_upto_region 7 with fail
      obtain ⟨p7, hp7⟩ : ∃ p7, p7 = v3.heap.size := ⟨_, rfl⟩
      rw [← hp7] at Q3 ⊢
      generalize v3.alloc (.cells #[.int .i64 a0, .int .i64 a1] 57) = u3 at Q3 R3 ⊢
      clear hp7
      go_wp2_with fail
      refine (HGr.out _ R3.out.d).mono ?_
      rintro e v4 ⟨rfl, hb4⟩
      have al := hb4.trans (((Below.refl v4.heap.size v4).alloc (Nat.le_refl _) (.cells #[.int .i64 b0, .int .i64 b1] 57)).mono hb4.size)
      have Q4 : Hid (bothAt (v4.alloc (.cells #[.int .i64 b0, .int .i64 b1] 57)) v4.heap.size b0 b1) := Lib.hid (bothAt.new v4 b0 b1)
      have R4 := Lib.hid (R3.out.below al)
      have Q3' := Lib.hid (Q3.out.below al)
      clear hb4 al R3 Q3
      have Q3 := Q3'
      clear Q3'
      go_upto_region 8 with fail
      obtain ⟨p9, hp9⟩ : ∃ p9, p9 = v4.heap.size := ⟨_, rfl⟩
      rw [← hp9] at Q4 ⊢
      generalize v4.alloc (.cells #[.int .i64 b0, .int .i64 b1] 57) = u4 at Q4 R4 Q3 ⊢
      clear hp9
      go_wp2_with fail
      refine (HSp.out _ R4.out.d).mono ?_
      rintro e v5 ⟨rfl, hb5⟩
      have al := hb5.trans (((Below.refl v5.heap.size v5).alloc (Nat.le_refl _) (.cells #[.int .i64 ds, .int .i64 (b1 - a0)] 57)).mono hb5.size)
      have Q5 : Hid (bothAt (v5.alloc (.cells #[.int .i64 ds, .int .i64 (b1 - a0)] 57)) v5.heap.size ds (b1 - a0)) := Lib.hid (bothAt.new v5 ds (b1 - a0))
      have R5 := Lib.hid (R4.out.below al)
      have Q3' := Lib.hid (Q3.out.below al)
      have Q4' := Lib.hid (Q4.out.below al)
      clear hb5 al R4 Q3 Q4
      have Q3 := Q3'
      clear Q3'
      have Q4 := Q4'
      clear Q4'
      go_upto_region 9 with fail
      obtain ⟨p11, hp11⟩ : ∃ p11, p11 = v5.heap.size := ⟨_, rfl⟩
      rw [← hp11] at Q5 ⊢
      generalize v5.alloc (.cells #[.int .i64 ds, .int .i64 (b1 - a0)] 57) = u5 at Q5 R5 Q3 Q4 ⊢
      clear hp11
      go_wp2_with fail
      refine (HMe.out _ R5.out.d).mono ?_
      rintro e v6 ⟨rfl, hb6⟩
      have al := hb6.trans (((Below.refl v6.heap.size v6).alloc (Nat.le_refl _) (.cells #[.int .i64 (m0 : Int), .int .i64 (m1 : Int)] 57)).mono hb6.size)
      have Q6 : Hid (bothAt (v6.alloc (.cells #[.int .i64 (m0 : Int), .int .i64 (m1 : Int)] 57)) v6.heap.size (m0 : Int) (m1 : Int)) := Lib.hid (bothAt.new v6 (m0 : Int) (m1 : Int))
      have R6 := Lib.hid (R5.out.below al)
      have Q3' := Lib.hid (Q3.out.below al)
      have Q4' := Lib.hid (Q4.out.below al)
      have Q5' := Lib.hid (Q5.out.below al)
      clear hb6 al R5 Q3 Q4 Q5
      have Q3 := Q3'
      clear Q3'
      have Q4 := Q4'
      clear Q4'
      have Q5 := Q5'
      clear Q5'
      go_upto_region 10 with fail
      obtain ⟨p13, hp13⟩ : ∃ p13, p13 = v6.heap.size := ⟨_, rfl⟩
      rw [← hp13] at Q6 ⊢
      generalize v6.alloc (.cells #[.int .i64 (m0 : Int), .int .i64 (m1 : Int)] 57) = u6 at Q6 R6 Q3 Q4 Q5 ⊢
      clear hp13
      go_wp2_with fail
      refine (HWo.out _ R6.out.d).mono ?_
      rintro e v7 ⟨rfl, hb7⟩
      have R7 : Hid (FourW w g K l k r m F ops A cap pb A1 c1 p7 p9 p11 p13 a0 a1 b0 b1 ds (b1 - a0) m0 m1 v7) := Lib.hid ((FourW.mk R6.out Q3.out Q4.out Q5.out Q6.out).below hb7)
      clear hb7 R6 Q3 Q4 Q5 Q6
      obtain ⟨b, off, hA1, hb, hc0⟩ := R7.out.a.s.at_ hmp
      obtain ⟨b', off', hA1', hb', hc1⟩ := R7.out.a.s.at_ (show m.length - 1 < m.length by omega)
      rw [hA1] at hA1'
      cases hA1'
      subst hA1
      have e0 := hc0 0 (.int .i64 lov) (by rw [HV0.out]; rfl)
      have e1 := hc1 0 (.int .i64 hiv) (by rw [HV1.out]; rfl)
      simp only [Nat.zero_mul, Nat.add_zero] at e0 e1
      have hcast : ((m.length : Int) - 1) = ((m.length - 1 : Nat) : Int) := by omega
      have x7 := blk_cell R7.out.a.b
      have xz7 := lt_of_block R7.out.a.b
      clear hc0 hc1 hb'
      go_wp2_with fail
      refine wp_region_ext (by kernel_rfl) (by kernel_rfl) ?_
      repeat (go_big_quiet_step (fail))
      refine wpQuiet_nil ?_
      intro v8 hb8
      replace hb8 := below_of_ext hb8
      have R8 := Lib.hid (R7.out.below hb8)
      clear hb8 R7 x7 xz7 e0 e1 hb hcast
      have cx7 := blk_cell R8.out.x7
      have z7 := lt_of_block R8.out.x7
      have cx9 := blk_cell R8.out.x9
      have z9 := lt_of_block R8.out.x9
      have cx11 := blk_cell R8.out.x11
      have z11 := lt_of_block R8.out.x11
      go_wp2_with fail
      refine (HSl.out v8 R8.out.a.d).mono ?_
      rintro e v9 ⟨rfl, hb9⟩
      have R9 := Lib.hid (R8.out.below hb9)
      clear hb9 R8 cx7 z7 cx9 z9 cx11 z11
      go_wp2_with fail
      refine (HHi.out v9 R9.out.a.d).mono ?_
      rintro e va ⟨rfl, hba⟩
      have Ra := Lib.hid (R9.out.below hba)
      clear hba R9
      go_wp2_with fail
      refine (HLo.out va Ra.out.a.d).mono ?_
      rintro e vb ⟨rfl, hbb⟩
      have Rb := Lib.hid (Ra.out.below hbb)
      clear hbb Ra
      have xb := blk_cell Rb.out.a.b
      have xzb := lt_of_block Rb.out.a.b
      go_wp2_with fail
      have O0 : Hid (Own vb w.heap.size 3 encD (.slice none 0 0) []) := Lib.hid (Own.nil _ _ _ _)
      clear i1 i2 i3 i4 hlb hmb hlr hhr hsp1 hsp2 hds0 hgp0 hsl0 hsl1 xb xzb
      go_loopw [20, 176] (fun s i wr => ∃ (q : Nat) (L : List Nat), q ≤ m.length ∧ i = .int .i64 q ∧ FourW w g K l k r m F ops A cap pb (some ⟨b, off, none⟩) c1 p7 p9 p11 p13 a0 a1 b0 b1 ds (b1 - a0) m0 m1 wr ∧ Own wr w.heap.size 3 encD s L ∧ okD L ∧ valD L = itemS (m.take q) ∧ L.length ≤ 23 + q) (fun _ i _ => m.length - (intOf i).toNat)
      case atStart => exact ⟨0, [], Nat.zero_le _, rfl, Rb.out, O0.out, by intro x hx; simp at hx, by simp [valD, itemS], by simp⟩
      case round =>
        obtain ⟨q, L, hq, rfl, hR, hO, hok, hval, hLl⟩ := hrel
        have R := Lib.hid hR
        have O := Lib.hid hO
        have OK := Lib.hid hok
        have HV := Lib.hid hval
        obtain ⟨As, cs, rfl, _⟩ := hO.form
        clear hR hO hok hval Rb O0
        by_cases hlt : q < m.length
        · have hqi : (q : Int) < (m.length : Int) := by omega
          obtain ⟨b2, off2, hA2, hb2, hc⟩ := R.out.a.s.at_ hlt
          cases hA2
          have hmv := hVm.out _ (List.getElem_mem hlt)
          have hIt := itemS_take hlt
          obtain ⟨vn, hvn⟩ : ∃ vn : Nat, m[q].1 = vn := ⟨m[q].1.toNat, by omega⟩
          obtain ⟨wn, hwn⟩ : ∃ wn : Nat, m[q].2 = wn := ⟨m[q].2.toNat, by omega⟩
          have hwle : m[q].2 ≤ sumR m := getB_le hVm.out (List.getElem_mem hlt)
          rw [hwn, hSm.out] at hwle
          have hv48 := hl48.out
          have d0 := hc 0 (.int .i64 vn) (by rw [← hvn]; rfl)
          have d1 := hc 1 (.int .i64 wn) (by rw [← hwn]; rfl)
          simp only [Nat.add_zero] at d0
          rw [hvn, hwn, Int.toNat_natCast, Int.toNat_natCast] at hIt
          have hvn2 : vn < 9223372036854775808 := by rw [hvn] at hmv; omega
          have hwn2 : wn < 9223372036854775808 := by omega
          have HIt := Lib.hid hIt
          have al := (Below.refl wr.heap.size wr).alloc (Nat.le_refl _) (.cells #[.int .i64 vn, .int .i64 wn] 96)
          have XN := Lib.hid (heap_alloc_new wr (.cells #[.int .i64 vn, .int .i64 wn] 96))
          have R1 := Lib.hid (R.out.below al)
          have O1 := Lib.hid (O.out.below al)
          clear hc hmv hIt hvn hwn hwle hv48 al R O hb2
          go_upto_region 20 with fail
          obtain ⟨pn, hpn⟩ : ∃ pn, pn = wr.heap.size := ⟨_, rfl⟩
          rw [← hpn] at XN ⊢
          generalize wr.alloc (.cells #[.int .i64 (vn : Int), .int .i64 (wn : Int)] 96) = w9 at XN R1 O1 ⊢
          clear hpn
          refine wp_region_noPanic ?_
          refine wp_region_N (fun w' => w'.heap[pn]? = some (.cells #[.int .i64 (vn : Int), .int .i64 (wn : Int)] 96 (0, 0))) [] (by kernel_rfl) (XN.out) (fun hHeld => ?_)
          refine wpAnyN_pure (i := 0) (v := Value.slice As L.length cs) rfl (by kernel_rfl) (by kernel_rfl) (by kernel_rfl) (fun _ _ _ h => h) (Or.inl ⟨by rfl, fun W _ => by go_simp⟩) ?_
          try simp only [List.getElem_toArray, List.getElem_cons_zero, List.getElem_cons_succ, Act.put, List.setIfInBounds_toArray, List.set_cons_zero, List.set_cons_succ]
          refine wpAnyN_pure (i := 1) (v := Value.pointer (some ⟨pn, 0, none⟩)) rfl (by kernel_rfl) (by kernel_rfl) (by kernel_rfl) (fun _ _ _ h => h) (Or.inl ⟨by rfl, fun W _ => by go_simp⟩) ?_
          try simp only [List.getElem_toArray, List.getElem_cons_zero, List.getElem_cons_succ, Act.put, List.setIfInBounds_toArray, List.set_cons_zero, List.set_cons_succ]
          refine wpAnyN_take (i := 2) (v := Value.int .i64 (vn : Int)) rfl (by kernel_rfl) (by kernel_rfl) (by kernel_rfl) (by kernel_rfl) (fun _ _ _ h => h) (Or.inl ⟨by rfl, fun W hW => by have q1 := blk_cell hW; have q2 := lt_of_block hW; go_simp⟩) XN.out ?_
          try simp only [List.getElem_toArray, List.getElem_cons_zero, List.getElem_cons_succ, Act.put, List.setIfInBounds_toArray, List.set_cons_zero, List.set_cons_succ]
          refine wpAnyN_pure (i := 4) (v := Value.pointer (some ⟨pn, 1, none⟩)) rfl (by kernel_rfl) (by kernel_rfl) (by kernel_rfl) (fun _ _ _ h => h) (Or.inl ⟨by rfl, fun W _ => by go_simp⟩) ?_
          try simp only [List.getElem_toArray, List.getElem_cons_zero, List.getElem_cons_succ, Act.put, List.setIfInBounds_toArray, List.set_cons_zero, List.set_cons_succ]
          refine wpAnyN_take (i := 5) (v := Value.int .i64 (wn : Int)) rfl (by kernel_rfl) (by kernel_rfl) (by kernel_rfl) (by kernel_rfl) (fun _ _ _ h => h) (Or.inl ⟨by rfl, fun W hW => by have q1 := blk_cell hW; have q2 := lt_of_block hW; go_simp⟩) XN.out ?_
          try simp only [List.getElem_toArray, List.getElem_cons_zero, List.getElem_cons_succ, Act.put, List.setIfInBounds_toArray, List.set_cons_zero, List.set_cons_succ]
          refine wpAnyN_one (i := 3) (by kernel_rfl) rfl (fun K hK => ?_)
          go_simp
          refine (ref1_Digits w9.drew vn hvn2).mono ?_
          rintro e wa ⟨va1, La, rfl, hoa, oka, vla, lla, hba⟩
          have XA := Lib.hid (blk_below (w := w9.drew) XN.out hba)
          have RA := Lib.hid (FourW.below (W := w9.drew) ⟨⟨R1.out.a.d.keep fun _ _ => rfl, R1.out.a.x, R1.out.a.b, R1.out.a.s, R1.out.a.blw.drew⟩, R1.out.x7, R1.out.x9, R1.out.x11, R1.out.x13⟩ hba)
          have OA := Lib.hid (Own.below (w := w9.drew) O1.out hba)
          have PA := Lib.hid hoa
          have KA := Lib.hid (And.intro oka (And.intro vla lla))
          obtain ⟨Aa, ca, rfl, _⟩ := hoa.form
          clear hba hoa oka vla lla R1 O1 XN
          refine hK.out _ _ (fun _ _ => XA.out) ?_
          clear hK K
          try simp only [List.getElem_toArray, List.getElem_cons_zero, List.getElem_cons_succ, Act.put, List.setIfInBounds_toArray, List.set_cons_zero, List.set_cons_succ]
          refine wpAnyN_one (i := 6) (by kernel_rfl) rfl (fun K hK => ?_)
          go_simp
          refine (ref1_Digits wa wn hwn2).mono ?_
          rintro e wb ⟨vb1, Lb, rfl, hob, okb, vlb, llb, hbb⟩
          have XB := Lib.hid (blk_below XA.out hbb)
          have RB := Lib.hid (RA.out.below hbb)
          have OB := Lib.hid (OA.out.below hbb)
          have PB := Lib.hid (PA.out.below hbb)
          have PB2 := Lib.hid hob
          have KB := Lib.hid (And.intro okb (And.intro vlb llb))
          obtain ⟨Ab, cb2, rfl, _⟩ := hob.form
          clear hbb hob okb vlb llb RA OA PA XA
          refine hK.out _ _ (fun _ _ => XB.out) ?_
          clear hK K
          try simp only [List.getElem_toArray, List.getElem_cons_zero, List.getElem_cons_succ, Act.put, List.setIfInBounds_toArray, List.set_cons_zero, List.set_cons_succ]
          refine wpAnyN_one (i := 7) (by kernel_rfl) rfl (fun K hK => ?_)
          go_simp
          refine (ref1_Times wb Aa Ab ca cb2 La Lb PB.out.sl PB2.out.sl KA.out.1 KB.out.1 (by have := KA.out.2.2; omega) (by have := KB.out.2.2; omega)).mono ?_
          rintro e wc ⟨vc1, rfl, Lc, hoc, okc, vlc, llc, hbc⟩
          have XC := Lib.hid (blk_below XB.out hbc)
          have RC := Lib.hid (RB.out.below hbc)
          have OC := Lib.hid (OB.out.below hbc)
          have PC := Lib.hid hoc
          have KC : Hid (okD Lc ∧ valD Lc = vn * wn ∧ Lc.length ≤ 22) := Lib.hid ⟨okc, by rw [vlc, KA.out.2.1, KB.out.2.1], by have := KA.out.2.2; have := KB.out.2.2; omega⟩
          obtain ⟨Ac, cc2, rfl, _⟩ := hoc.form
          clear hbc hoc okc vlc llc RB OB PB PB2 XB KA KB
          refine hK.out _ _ (fun _ _ => XC.out) ?_
          clear hK K
          try simp only [List.getElem_toArray, List.getElem_cons_zero, List.getElem_cons_succ, Act.put, List.setIfInBounds_toArray, List.set_cons_zero, List.set_cons_succ]
          refine wpAnyN_one (i := 8) (by kernel_rfl) rfl (fun K hK => ?_)
          go_simp
          refine (ref1_Sum wc As Ac cs cc2 L Lc OC.out.sl PC.out.sl OK.out KC.out.1 (by omega) (by have := KC.out.2.2; omega)).mono ?_
          rintro e wd ⟨vd1, Ld, rfl, hod, okd, vld, lld, hbd⟩
          have XD := Lib.hid (blk_below XC.out hbd)
          have RD := Lib.hid (RC.out.below hbd)
          have OD := Lib.hid (hod.base_le RC.out.a.blw.size)
          have KD : Hid (okD Ld ∧ valD Ld = itemS (m.take (q + 1)) ∧ Ld.length ≤ 23 + (q + 1)) := Lib.hid ⟨okd, by rw [vld, HV.out, KC.out.2.1, HIt.out], by have := KC.out.2.2; omega⟩
          clear hbd hod okd vld lld RC OC PC XC KC
          refine hK.out _ _ (fun _ _ => XD.out) ?_
          clear hK K
          try simp only [List.getElem_toArray, List.getElem_cons_zero, List.getElem_cons_succ, Act.put, List.setIfInBounds_toArray, List.set_cons_zero, List.set_cons_succ]
          refine wpAnyN_one (i := 9) (by kernel_rfl) rfl (fun K hK => ?_)
          go_simp
          refine hK.out _ _ (fun _ _ => XD.out) ?_
          clear hK K
          try simp only [List.getElem_toArray, List.getElem_cons_zero, List.getElem_cons_succ, Act.put, List.setIfInBounds_toArray, List.set_cons_zero, List.set_cons_succ]
          refine wpAnyN_done (by kernel_rfl) ?_ _
          refine NoPanic.normal ?_
          have R3 := Lib.hid RD.out
          clear hHeld XD RD HV HIt OK d0 d1
          go_wp2_with fail
          go_roundw
          case rel => exact ⟨q + 1, Ld, by omega, by go_num, R3.out, OD.out, KD.out.1, KD.out.2.1, KD.out.2.2⟩
          case measure => simp [intOf]; omega
        · obtain rfl : q = m.length := by omega
          have hqi : decide ((m.length : Int) < (m.length : Int)) = false := by simp
          rw [List.take_length] at HV
          have x3 := blk_cell R.out.a.b
          have xz3 := lt_of_block R.out.a.b
          go_wp2_with fail
          refine (HTo.out wr R.out.a.s).mono ?_
          rintro e w3 ⟨rfl, hb3⟩
          have R3 := Lib.hid (R.out.below hb3)
          have O3 := Lib.hid (O.out.below hb3)
          clear hb3 R O x3 xz3
          go_wp2_with fail
          refine (ref1_Quot w3 As cs L N (itemS m) O3.out.sl OK.out (by omega) HV.out (by omega) (by omega) HS5.out).mono ?_
          rintro e w4 ⟨rfl, hb4⟩
          have R4 := Lib.hid (R3.out.below hb4)
          rw [← HMQ.out]
          generalize decide (itemS m % N ≠ 0) = tb
          have y4 := blk_cell R4.out.x13
          have z4 := lt_of_block R4.out.x13
          clear hb4 R3 O3 HV OK
          go_wp2_with fail
          refine (alive20 _).mono ?_
          rintro e w5 ⟨rfl, hb5⟩
          have R5 := Lib.hid (R4.out.below hb5)
          go_wp2_with fail
          go_ret
          exact ⟨rfl, R5.out.a.blw⟩
theorem law_BoundHolds (l k K : Int) (ops : List Op3) (A : Option Addr) (cap : Nat) (y : Int) (W : World) (hS : Sl W W.heap.size encO A ops) (hI : intsO ops) (_ : i64 l) (_ : i64 k) (_ : i64 K) (hm : ops.length ≤ maxLen) (_ : (Lit.int IntKind.i64 y).wf = true) :
    Calls Tryz.prog 8 #[callsV l k K A ops.length cap, .int .i64 y] W fun e W' => e = .returned (.bool true) ∧ Below W.heap.size W W' := by
  by_cases h : ops.length ≤ 120 ∧ ¬ (K = 1 ∧ 10 < l)
  · cases hd : isDig l k K
    · exact law_BoundHolds_none l k K ops A cap y W h hd
    · obtain ⟨n, m, rfl, rfl⟩ := isDig_nat hd
      exact law_BoundHolds_yes n m k ops A cap y W h hd hS hI
  · exact law_BoundHolds_big l k K ops A cap y W h hm
end Go.Proofs.YtcjnchjmpkapmaaGreat
