/-
  Texts of this proof, one behind the other: Plus, Mean, Worst, Worst2, Alive20, Order.
-/
import Derived.Laws.Externs
import Derived.Test.YtcjnchjmpkapmaaGreatP3
import Derived.Test.YtcjnchjmpkapmaaGreatR7
import Derived.Test.YtcjnchjmpkapmaaGreatR8
/- Package reckon: Plus, Over. -/
set_option linter.unusedSimpArgs false namespace Go.Proofs.YtcjnchjmpkapmaaGreat
open Go.ChangeShapes Go.WideShapes Go.ChangeAt Go.RowKit
set_option linter.unusedVariables false
set_option maxRecDepth 100000

def wideV (n : Nat) : Value := .agg #[.int .u64 (n % 18446744073709551616 : Nat), .int .u64 (n / 18446744073709551616 : Nat)]
end Go.Proofs.YtcjnchjmpkapmaaGreat
/- Package bound: Sum, Mean. -/
namespace Go.Proofs.YtcjnchjmpkapmaaGreat
open Go.ChangeShapes Go.WideShapes Go.ChangeAt Go.RowKit
set_option linter.unusedVariables false
set_option maxRecDepth 100000

def sumW (l : Int) (hi : Bool) : List Nd → Nat
  | [] => 0
  | x :: r => (if hi = true then (endsOf l x.1).2.1 else (endsOf l x.1).1).toNat * x.2.toNat + sumW l hi r
def wideAt (w : World) (b n : Nat) : Prop := w.heap[b]? = some (.cells #[.int .u64 (n % 18446744073709551616 : Nat), .int .u64 (n / 18446744073709551616 : Nat)] 202 (0, 0))
def SumI (w : World) (l : Int) (r : List Nd) (b0 b1 : Nat) (q : Nat) (W : World) : Prop := Below w.heap.size w W ∧ wideAt W b0 (sumW l false (r.take q)) ∧ wideAt W b1 (sumW l true (r.take q))
def meanT (l : Int) (r : List Nd) : Int × Int × Int := if sumR r = 0 then (0, 0, 7) else ((sumW l false r / (sumR r).toNat : Nat), (sumW l true r / (sumR r).toNat + (if sumW l true r % (sumR r).toNat = 0 then 0 else 1) : Nat), 0)
end Go.Proofs.YtcjnchjmpkapmaaGreat
/- Package bound: Worst, Spread. -/
namespace Go.Proofs.YtcjnchjmpkapmaaGreat
open Go.ChangeShapes Go.WideShapes Go.ChangeAt Go.RowKit
set_option linter.unusedVariables false
set_option maxRecDepth 100000

def intAt (w : World) (b : Nat) (x : Int) : Prop := w.heap[b]? = some (.cells #[.int .i64 x] 3 (0, 0))
def worstStep (a : Int × Int) (at_ n : Int) : Int × Int := if a.2 < n ∨ n = a.2 ∧ at_ < a.1 then (at_, n) else a
def TryEnd (w : World) (bx bg : Nat) (r : Int × Int) (w' : World) : Prop :=
  intAt w' bx r.1 ∧ intAt w' bg r.2 ∧ KeepN w w' ∧ (∀ C, C ≤ bx → C ≤ bg → C ≤ w.heap.size → Below C w w') ∧ (∀ b, b < w.heap.size → b ≠ bx → b ≠ bg → w'.heap[b]? = w.heap[b]?)
end Go.Proofs.YtcjnchjmpkapmaaGreat
/- Package bound: Worst. -/
namespace Go.Proofs.YtcjnchjmpkapmaaGreat
open Go.ChangeShapes Go.WideShapes Go.ChangeAt Go.RowKit
set_option linter.unusedVariables false
set_option maxRecDepth 100000

@[go_sem] theorem run_store_func (P : Program) (w : World) (a : Addr) (m : Mode) (f : Fn) (ts : Array Value) (cs : Array Value) : (store a (.func f ts cs) m).run P w = stored P w a (.func f ts cs) m := run_store P w a _ m rfl
def gapAt (l : Int) (r : List Nd) (x : Int) : Int := highOf l r x - lowOf l r x
def worstPre (l : Int) (r : List Nd) (p : List Nd) : Int × Int := p.foldl (fun a x => worstStep a (endsOf l x.1).1 (gapAt l r (endsOf l x.1).1)) (worstStep (0, 0) 0 (gapAt l r 0))
structure WorstI (w : World) (l : Int) (r lt ft : List Nd) (L B g bt bg bx bf : Nat) (q : Nat) (W : World) : Prop where
  blw : Below w.heap.size w W
  x : intAt W bx (worstPre l r (r.take q)).1
  gp : intAt W bg (worstPre l r (r.take q)).2
  t : W.heap[bt]? = some (.cells #[.pointer (some ⟨g, 0, none⟩)] 52 (0, 0))
  f : W.heap[bf]? = some (.cells #[.func (.func 126) #[] #[.pointer (some ⟨bt, 0, none⟩), .pointer (some ⟨bg, 0, none⟩), .pointer (some ⟨bx, 0, none⟩)]] 206 (0, 0))
  tab : TabAt W L B g (sumR r) lt ft
def worstT (l : Int) (r : List Nd) : Int × Int × Int := if sumR r = 0 then (0, 0, 7) else ((worstPre l r r).1, (worstPre l r r).2, 0)
def triV (t : Int × Int × Int) : Value := .tuple #[.int .i64 t.1, .int .i64 t.2.1, .int .i64 t.2.2]
end Go.Proofs.YtcjnchjmpkapmaaGreat
/- Chapter 20's example. -/
namespace Go.Proofs.YtcjnchjmpkapmaaGreat
open Go.ChangeShapes Go.WideShapes Go.ChangeAt Go.RowKit
set_option linter.unusedVariables false
set_option maxRecDepth 100000

end Go.Proofs.YtcjnchjmpkapmaaGreat
/- Which of two products is greater: package reckon, and the reference of layer 1. -/
namespace Go.Proofs.YtcjnchjmpkapmaaGreat
open Go.ChangeShapes Go.WideShapes Go.ChangeAt Go.RowKit
set_option linter.unusedVariables false
set_option maxRecDepth 100000

def ordV (a b c d : Nat) : Int := cmpV (a * b) (c * d)
theorem reckon_Order (w : World) (a b c d : Nat) (ha : a ≤ 9223372036854775807) (hb : b ≤ 9223372036854775807) (hc : c ≤ 9223372036854775807) (hd : d ≤ 9223372036854775807) :
    Calls Tryz.prog 307 #[.int .i64 a, .int .i64 b, .int .i64 c, .int .i64 d] w fun e w' => e = .returned (.tuple #[.int .i64 (ordV a b c d), .bool true]) ∧ Below w.heap.size w w' := by
  have HC1 := Lib.hid (show decide (0 ≤ (a : Int) ∧ 0 ≤ (b : Int)) = true by simp)
  have HC2 := Lib.hid (show decide (0 ≤ (c : Int) ∧ 0 ≤ (d : Int)) = true by simp)
  have HM1 : Hid (∀ W, Calls Tryz.prog 223 #[.int .u64 a, .int .u64 b] W fun e w' => e = .returned (.tuple #[.int .u64 (a * b / 18446744073709551616 : Nat), .int .u64 (a * b % 18446744073709551616 : Nat)]) ∧ w' = W) := Lib.hid fun W => Tryz.bits_Mul64 a b (by omega) (by omega) W
  have HM2 : Hid (∀ W, Calls Tryz.prog 223 #[.int .u64 c, .int .u64 d] W fun e w' => e = .returned (.tuple #[.int .u64 (c * d / 18446744073709551616 : Nat), .int .u64 (c * d % 18446744073709551616 : Nat)]) ∧ w' = W) := Lib.hid fun W => Tryz.bits_Mul64 c d (by omega) (by omega) W
  have h1 : a * b ≤ 9223372036854775807 * 9223372036854775807 := Nat.mul_le_mul ha hb
  have h2 : c * d ≤ 9223372036854775807 * 9223372036854775807 := Nat.mul_le_mul hc hd
  have e1 : ordV a b c d = cmpV (a * b) (c * d) := rfl
  rw [e1]
  clear e1
  generalize a * b = m at HM1 h1 ⊢
  generalize c * d = n at HM2 h2 ⊢
  have f1 : m = 18446744073709551616 * (m / 18446744073709551616) + m % 18446744073709551616 := by omega
  have f2 : n = 18446744073709551616 * (n / 18446744073709551616) + n % 18446744073709551616 := by omega
  have g1 : m / 18446744073709551616 ≤ 18446744073709551615 := by omega
  have g2 : n / 18446744073709551616 ≤ 18446744073709551615 := by omega
  have g3 : m % 18446744073709551616 ≤ 18446744073709551615 := by omega
  have g4 : n % 18446744073709551616 ≤ 18446744073709551615 := by omega
  generalize m / 18446744073709551616 = p at HM1 f1 g1
  generalize m % 18446744073709551616 = q at HM1 f1 g3
  generalize n / 18446744073709551616 = r at HM2 f2 g2
  generalize n % 18446744073709551616 = s at HM2 f2 g4
  rcases (show p < r ∨ (p = r ∧ q < s) ∨ (r < p) ∨ (p = r ∧ s < q) ∨ (p = r ∧ q = s) by omega) with k | ⟨k, k2⟩ | k | ⟨k, k2⟩ | ⟨k, k2⟩
  · rw [cmpV_less (by omega)]
    clear f1 f2 h1 h2
    go_enter Tryz.func307, Tryz.ntmps307
    go_wp2_with fail
    refine (reckon_counts _ a b).mono ?_
    rintro e w1 ⟨rfl, hb1⟩
    have B1 : Below w.heap.size w w1 := Below.then_ (by repeat (first | with_reducible exact Below.refl _ _ | with_reducible assumption | ((with_reducible refine Below.setCell ?_ ?_ _); rotate_left; · (first | omega | exact Nat.le_refl _ | (simp <;> omega))) | (with_reducible refine Below.allocW ?_ _) | (with_reducible refine Below.drew ?_) | (with_reducible refine Below.extW ?_ _))) hb1
    have s1 : w.heap.size ≤ w1.heap.size := B1.size
    rw [HC1.out]
    go_wp2_with fail
    refine (reckon_counts _ c d).mono ?_
    rintro e w2 ⟨rfl, hb2⟩
    have B2 : Below w.heap.size w w2 := Below.then_ (by repeat (first | with_reducible exact Below.refl _ _ | with_reducible assumption | ((with_reducible refine Below.setCell ?_ ?_ _); rotate_left; · (first | omega | exact Nat.le_refl _ | (simp <;> omega))) | (with_reducible refine Below.allocW ?_ _) | (with_reducible refine Below.drew ?_) | (with_reducible refine Below.extW ?_ _))) hb2
    have s2 : w.heap.size ≤ w2.heap.size := B2.size
    rw [HC2.out]
    go_wp2_with fail
    refine (HM1.out _).mono ?_
    rintro e w3 ⟨rfl, rfl⟩
    go_wp2_with fail
    refine (HM2.out _).mono ?_
    rintro e w4 ⟨rfl, rfl⟩
    go_wp2_with fail
    go_ret2
    exact ⟨rfl, (by repeat (first | with_reducible exact Below.refl _ _ | with_reducible assumption | ((with_reducible refine Below.setCell ?_ ?_ _); rotate_left; · (first | omega | exact Nat.le_refl _ | (simp <;> omega))) | (with_reducible refine Below.allocW ?_ _) | (with_reducible refine Below.drew ?_) | (with_reducible refine Below.extW ?_ _)))⟩
  · subst k
    rw [cmpV_less (by omega)]
    clear f1 f2 h1 h2
    go_enter Tryz.func307, Tryz.ntmps307
    go_wp2_with fail
    refine (reckon_counts _ a b).mono ?_
    rintro e w1 ⟨rfl, hb1⟩
    have B1 : Below w.heap.size w w1 := Below.then_ (by repeat (first | with_reducible exact Below.refl _ _ | with_reducible assumption | ((with_reducible refine Below.setCell ?_ ?_ _); rotate_left; · (first | omega | exact Nat.le_refl _ | (simp <;> omega))) | (with_reducible refine Below.allocW ?_ _) | (with_reducible refine Below.drew ?_) | (with_reducible refine Below.extW ?_ _))) hb1
    have s1 : w.heap.size ≤ w1.heap.size := B1.size
    rw [HC1.out]
    go_wp2_with fail
    refine (reckon_counts _ c d).mono ?_
    rintro e w2 ⟨rfl, hb2⟩
    have B2 : Below w.heap.size w w2 := Below.then_ (by repeat (first | with_reducible exact Below.refl _ _ | with_reducible assumption | ((with_reducible refine Below.setCell ?_ ?_ _); rotate_left; · (first | omega | exact Nat.le_refl _ | (simp <;> omega))) | (with_reducible refine Below.allocW ?_ _) | (with_reducible refine Below.drew ?_) | (with_reducible refine Below.extW ?_ _))) hb2
    have s2 : w.heap.size ≤ w2.heap.size := B2.size
    rw [HC2.out]
    go_wp2_with fail
    refine (HM1.out _).mono ?_
    rintro e w3 ⟨rfl, rfl⟩
    go_wp2_with fail
    refine (HM2.out _).mono ?_
    rintro e w4 ⟨rfl, rfl⟩
    go_wp2_with fail
    go_ret2
    exact ⟨rfl, (by repeat (first | with_reducible exact Below.refl _ _ | with_reducible assumption | ((with_reducible refine Below.setCell ?_ ?_ _); rotate_left; · (first | omega | exact Nat.le_refl _ | (simp <;> omega))) | (with_reducible refine Below.allocW ?_ _) | (with_reducible refine Below.drew ?_) | (with_reducible refine Below.extW ?_ _)))⟩
  · rw [cmpV_more (by omega)]
    have j1 : decide ((p : Int) < (r : Int)) = false := by simp; omega
    have j2 : ((p : Int) == (r : Int)) = false := by simp; omega
    clear f1 f2 h1 h2
    go_enter Tryz.func307, Tryz.ntmps307
    go_wp2_with fail
    refine (reckon_counts _ a b).mono ?_
    rintro e w1 ⟨rfl, hb1⟩
    have B1 : Below w.heap.size w w1 := Below.then_ (by repeat (first | with_reducible exact Below.refl _ _ | with_reducible assumption | ((with_reducible refine Below.setCell ?_ ?_ _); rotate_left; · (first | omega | exact Nat.le_refl _ | (simp <;> omega))) | (with_reducible refine Below.allocW ?_ _) | (with_reducible refine Below.drew ?_) | (with_reducible refine Below.extW ?_ _))) hb1
    have s1 : w.heap.size ≤ w1.heap.size := B1.size
    rw [HC1.out]
    go_wp2_with fail
    refine (reckon_counts _ c d).mono ?_
    rintro e w2 ⟨rfl, hb2⟩
    have B2 : Below w.heap.size w w2 := Below.then_ (by repeat (first | with_reducible exact Below.refl _ _ | with_reducible assumption | ((with_reducible refine Below.setCell ?_ ?_ _); rotate_left; · (first | omega | exact Nat.le_refl _ | (simp <;> omega))) | (with_reducible refine Below.allocW ?_ _) | (with_reducible refine Below.drew ?_) | (with_reducible refine Below.extW ?_ _))) hb2
    have s2 : w.heap.size ≤ w2.heap.size := B2.size
    rw [HC2.out]
    go_wp2_with fail
    refine (HM1.out _).mono ?_
    rintro e w3 ⟨rfl, rfl⟩
    go_wp2_with fail
    refine (HM2.out _).mono ?_
    rintro e w4 ⟨rfl, rfl⟩
    go_wp2_with fail
    go_ret2
    exact ⟨rfl, (by repeat (first | with_reducible exact Below.refl _ _ | with_reducible assumption | ((with_reducible refine Below.setCell ?_ ?_ _); rotate_left; · (first | omega | exact Nat.le_refl _ | (simp <;> omega))) | (with_reducible refine Below.allocW ?_ _) | (with_reducible refine Below.drew ?_) | (with_reducible refine Below.extW ?_ _)))⟩
  · subst k
    rw [cmpV_more (by omega)]
    have j1 : decide ((q : Int) < (s : Int)) = false := by simp; omega
    clear f1 f2 h1 h2
    go_enter Tryz.func307, Tryz.ntmps307
    go_wp2_with fail
    refine (reckon_counts _ a b).mono ?_
    rintro e w1 ⟨rfl, hb1⟩
    have B1 : Below w.heap.size w w1 := Below.then_ (by repeat (first | with_reducible exact Below.refl _ _ | with_reducible assumption | ((with_reducible refine Below.setCell ?_ ?_ _); rotate_left; · (first | omega | exact Nat.le_refl _ | (simp <;> omega))) | (with_reducible refine Below.allocW ?_ _) | (with_reducible refine Below.drew ?_) | (with_reducible refine Below.extW ?_ _))) hb1
    have s1 : w.heap.size ≤ w1.heap.size := B1.size
    rw [HC1.out]
    go_wp2_with fail
    refine (reckon_counts _ c d).mono ?_
    rintro e w2 ⟨rfl, hb2⟩
    have B2 : Below w.heap.size w w2 := Below.then_ (by repeat (first | with_reducible exact Below.refl _ _ | with_reducible assumption | ((with_reducible refine Below.setCell ?_ ?_ _); rotate_left; · (first | omega | exact Nat.le_refl _ | (simp <;> omega))) | (with_reducible refine Below.allocW ?_ _) | (with_reducible refine Below.drew ?_) | (with_reducible refine Below.extW ?_ _))) hb2
    have s2 : w.heap.size ≤ w2.heap.size := B2.size
    rw [HC2.out]
    go_wp2_with fail
    refine (HM1.out _).mono ?_
    rintro e w3 ⟨rfl, rfl⟩
    go_wp2_with fail
    refine (HM2.out _).mono ?_
    rintro e w4 ⟨rfl, rfl⟩
    go_wp2_with fail
    go_ret2
    exact ⟨rfl, (by repeat (first | with_reducible exact Below.refl _ _ | with_reducible assumption | ((with_reducible refine Below.setCell ?_ ?_ _); rotate_left; · (first | omega | exact Nat.le_refl _ | (simp <;> omega))) | (with_reducible refine Below.allocW ?_ _) | (with_reducible refine Below.drew ?_) | (with_reducible refine Below.extW ?_ _)))⟩
  · subst k k2
    rw [cmpV_eq (by omega)]
    clear f1 f2 h1 h2
    go_enter Tryz.func307, Tryz.ntmps307
    go_wp2_with fail
    refine (reckon_counts _ a b).mono ?_
    rintro e w1 ⟨rfl, hb1⟩
    have B1 : Below w.heap.size w w1 := Below.then_ (by repeat (first | with_reducible exact Below.refl _ _ | with_reducible assumption | ((with_reducible refine Below.setCell ?_ ?_ _); rotate_left; · (first | omega | exact Nat.le_refl _ | (simp <;> omega))) | (with_reducible refine Below.allocW ?_ _) | (with_reducible refine Below.drew ?_) | (with_reducible refine Below.extW ?_ _))) hb1
    have s1 : w.heap.size ≤ w1.heap.size := B1.size
    rw [HC1.out]
    go_wp2_with fail
    refine (reckon_counts _ c d).mono ?_
    rintro e w2 ⟨rfl, hb2⟩
    have B2 : Below w.heap.size w w2 := Below.then_ (by repeat (first | with_reducible exact Below.refl _ _ | with_reducible assumption | ((with_reducible refine Below.setCell ?_ ?_ _); rotate_left; · (first | omega | exact Nat.le_refl _ | (simp <;> omega))) | (with_reducible refine Below.allocW ?_ _) | (with_reducible refine Below.drew ?_) | (with_reducible refine Below.extW ?_ _))) hb2
    have s2 : w.heap.size ≤ w2.heap.size := B2.size
    rw [HC2.out]
    go_wp2_with fail
    refine (HM1.out _).mono ?_
    rintro e w3 ⟨rfl, rfl⟩
    go_wp2_with fail
    refine (HM2.out _).mono ?_
    rintro e w4 ⟨rfl, rfl⟩
    go_wp2_with fail
    go_ret2
    exact ⟨rfl, (by repeat (first | with_reducible exact Below.refl _ _ | with_reducible assumption | ((with_reducible refine Below.setCell ?_ ?_ _); rotate_left; · (first | omega | exact Nat.le_refl _ | (simp <;> omega))) | (with_reducible refine Below.allocW ?_ _) | (with_reducible refine Below.drew ?_) | (with_reducible refine Below.extW ?_ _)))⟩
theorem ref1_Order (w : World) (a b c d : Nat) (ha : a ≤ 9223372036854775807) (hb : b ≤ 9223372036854775807) (hc : c ≤ 9223372036854775807) (hd : d ≤ 9223372036854775807) :
    Calls Tryz.prog 74 #[.int .i64 a, .int .i64 b, .int .i64 c, .int .i64 d] w fun e w' => e = .returned (.tuple #[.int .i64 (ordV a b c d), .bool true]) ∧ Below w.heap.size w w' := by
  have i1 : decide ((0 : Int) ≤ (a : Int)) = true := by simp
  have i2 : decide ((0 : Int) ≤ (b : Int)) = true := by simp
  have i3 : decide ((0 : Int) ≤ (c : Int)) = true := by simp
  have i4 : decide ((0 : Int) ≤ (d : Int)) = true := by simp
  go_enter Tryz.func74, Tryz.ntmps74
  go_wp2_with fail
  refine (ref1_Is _ a).mono ?_
  rintro e w1 ⟨rfl, hb1⟩
  have B1 : Below w.heap.size w w1 := Below.then_ (by repeat (first | with_reducible exact Below.refl _ _ | with_reducible assumption | ((with_reducible refine Below.setCell ?_ ?_ _); rotate_left; · (first | omega | exact Nat.le_refl _ | (simp <;> omega))) | (with_reducible refine Below.allocW ?_ _) | (with_reducible refine Below.drew ?_) | (with_reducible refine Below.extW ?_ _))) hb1
  have s1 : w.heap.size ≤ w1.heap.size := B1.size
  rw [i1]
  go_wp2_with fail
  refine (ref1_Is _ b).mono ?_
  rintro e w2 ⟨rfl, hb2⟩
  have B2 : Below w.heap.size w w2 := Below.then_ (by repeat (first | with_reducible exact Below.refl _ _ | with_reducible assumption | ((with_reducible refine Below.setCell ?_ ?_ _); rotate_left; · (first | omega | exact Nat.le_refl _ | (simp <;> omega))) | (with_reducible refine Below.allocW ?_ _) | (with_reducible refine Below.drew ?_) | (with_reducible refine Below.extW ?_ _))) hb2
  have s2 : w.heap.size ≤ w2.heap.size := B2.size
  rw [i2]
  go_wp2_with fail
  refine (ref1_Is _ c).mono ?_
  rintro e w3 ⟨rfl, hb3⟩
  have B3 : Below w.heap.size w w3 := Below.then_ (by repeat (first | with_reducible exact Below.refl _ _ | with_reducible assumption | ((with_reducible refine Below.setCell ?_ ?_ _); rotate_left; · (first | omega | exact Nat.le_refl _ | (simp <;> omega))) | (with_reducible refine Below.allocW ?_ _) | (with_reducible refine Below.drew ?_) | (with_reducible refine Below.extW ?_ _))) hb3
  have s3 : w.heap.size ≤ w3.heap.size := B3.size
  rw [i3]
  go_wp2_with fail
  refine (ref1_Is _ d).mono ?_
  rintro e w4 ⟨rfl, hb4⟩
  have B4 : Below w.heap.size w w4 := Below.then_ (by repeat (first | with_reducible exact Below.refl _ _ | with_reducible assumption | ((with_reducible refine Below.setCell ?_ ?_ _); rotate_left; · (first | omega | exact Nat.le_refl _ | (simp <;> omega))) | (with_reducible refine Below.allocW ?_ _) | (with_reducible refine Below.drew ?_) | (with_reducible refine Below.extW ?_ _))) hb4
  have s4 : w.heap.size ≤ w4.heap.size := B4.size
  rw [i4]
  go_wp2_with fail
  refine (ref1_Digits _ a (by omega)).mono ?_
  rintro e w5 ⟨v5, L5, rfl, o5, k5, e5, l5, hb5⟩
  obtain ⟨A5, p5, rfl, _, _, S5, _⟩ := o5.form
  have B5 : Below w.heap.size w w5 := Below.then_ (by repeat (first | with_reducible exact Below.refl _ _ | with_reducible assumption | ((with_reducible refine Below.setCell ?_ ?_ _); rotate_left; · (first | omega | exact Nat.le_refl _ | (simp <;> omega))) | (with_reducible refine Below.allocW ?_ _) | (with_reducible refine Below.drew ?_) | (with_reducible refine Below.extW ?_ _))) hb5
  have s5 : w.heap.size ≤ w5.heap.size := B5.size
  have HS5 := Lib.hid S5
  have K5 := Lib.hid k5
  have E5 := Lib.hid e5
  clear o5 S5 k5 e5
  go_wp2_with fail
  refine (ref1_Digits _ b (by omega)).mono ?_
  rintro e w6 ⟨v6, L6, rfl, o6, k6, e6, l6, hb6⟩
  obtain ⟨A6, p6, rfl, _, _, S6, _⟩ := o6.form
  have B6 : Below w.heap.size w w6 := Below.then_ (by repeat (first | with_reducible exact Below.refl _ _ | with_reducible assumption | ((with_reducible refine Below.setCell ?_ ?_ _); rotate_left; · (first | omega | exact Nat.le_refl _ | (simp <;> omega))) | (with_reducible refine Below.allocW ?_ _) | (with_reducible refine Below.drew ?_) | (with_reducible refine Below.extW ?_ _))) hb6
  have s6 : w.heap.size ≤ w6.heap.size := B6.size
  have HS5' := Lib.hid (HS5.out.keep hb6.size fun p hp => hb6.cell hp)
  have HS6 := Lib.hid S6
  have K6 := Lib.hid k6
  have E6 := Lib.hid e6
  clear o6 S6 k6 e6
  go_wp2_with fail
  refine (ref1_Times _ A5 A6 p5 p6 L5 L6 HS5'.out HS6.out K5.out K6.out (by omega) (by omega)).mono ?_
  rintro e w7 ⟨v7, rfl, L7, o7, k7, e7, l7, hb7⟩
  obtain ⟨A7, p7, rfl, _, _, S7, _⟩ := o7.form
  have B7 : Below w.heap.size w w7 := Below.then_ (by repeat (first | with_reducible exact Below.refl _ _ | with_reducible assumption | ((with_reducible refine Below.setCell ?_ ?_ _); rotate_left; · (first | omega | exact Nat.le_refl _ | (simp <;> omega))) | (with_reducible refine Below.allocW ?_ _) | (with_reducible refine Below.drew ?_) | (with_reducible refine Below.extW ?_ _))) hb7
  have s7 : w.heap.size ≤ w7.heap.size := B7.size
  have HS7 := Lib.hid S7
  have K7 := Lib.hid k7
  have E7 := Lib.hid (show valD L7 = a * b by rw [e7, E5.out, E6.out])
  have l7' : L7.length ≤ 50 := by omega
  clear o7 S7 k7 e7 l7
  go_wp2_with fail
  refine (ref1_Digits _ c (by omega)).mono ?_
  rintro e w8 ⟨v8, L8, rfl, o8, k8, e8, l8, hb8⟩
  obtain ⟨A8, p8, rfl, _, _, S8, _⟩ := o8.form
  have B8 : Below w.heap.size w w8 := Below.then_ (by repeat (first | with_reducible exact Below.refl _ _ | with_reducible assumption | ((with_reducible refine Below.setCell ?_ ?_ _); rotate_left; · (first | omega | exact Nat.le_refl _ | (simp <;> omega))) | (with_reducible refine Below.allocW ?_ _) | (with_reducible refine Below.drew ?_) | (with_reducible refine Below.extW ?_ _))) hb8
  have s8 : w.heap.size ≤ w8.heap.size := B8.size
  have HS7' := Lib.hid (HS7.out.keep hb8.size fun p hp => hb8.cell hp)
  have HS8 := Lib.hid S8
  have K8 := Lib.hid k8
  have E8 := Lib.hid e8
  clear o8 S8 k8 e8
  go_wp2_with fail
  refine (ref1_Digits _ d (by omega)).mono ?_
  rintro e w9 ⟨v9, L9, rfl, o9, k9, e9, l9, hb9⟩
  obtain ⟨A9, p9, rfl, _, _, S9, _⟩ := o9.form
  have B9 : Below w.heap.size w w9 := Below.then_ (by repeat (first | with_reducible exact Below.refl _ _ | with_reducible assumption | ((with_reducible refine Below.setCell ?_ ?_ _); rotate_left; · (first | omega | exact Nat.le_refl _ | (simp <;> omega))) | (with_reducible refine Below.allocW ?_ _) | (with_reducible refine Below.drew ?_) | (with_reducible refine Below.extW ?_ _))) hb9
  have s9 : w.heap.size ≤ w9.heap.size := B9.size
  have HS7'' := Lib.hid (HS7'.out.keep hb9.size fun p hp => hb9.cell hp)
  have HS8' := Lib.hid (HS8.out.keep hb9.size fun p hp => hb9.cell hp)
  have HS9 := Lib.hid S9
  have K9 := Lib.hid k9
  have E9 := Lib.hid e9
  clear o9 S9 k9 e9
  go_wp2_with fail
  refine (ref1_Times _ A8 A9 p8 p9 L8 L9 HS8'.out HS9.out K8.out K9.out (by omega) (by omega)).mono ?_
  rintro e w10 ⟨v10, rfl, L10, o10, k10, e10, l10, hb10⟩
  obtain ⟨A10, p10, rfl, _, _, S10, _⟩ := o10.form
  have B10 : Below w.heap.size w w10 := Below.then_ (by repeat (first | with_reducible exact Below.refl _ _ | with_reducible assumption | ((with_reducible refine Below.setCell ?_ ?_ _); rotate_left; · (first | omega | exact Nat.le_refl _ | (simp <;> omega))) | (with_reducible refine Below.allocW ?_ _) | (with_reducible refine Below.drew ?_) | (with_reducible refine Below.extW ?_ _))) hb10
  have s10 : w.heap.size ≤ w10.heap.size := B10.size
  have HS7f := Lib.hid (HS7''.out.keep hb10.size fun p hp => hb10.cell hp)
  have HS10 := Lib.hid S10
  have K10 := Lib.hid k10
  have E10 := Lib.hid (show valD L10 = c * d by rw [e10, E8.out, E9.out])
  have l10' : L10.length ≤ 50 := by omega
  clear o10 S10 k10 e10 l10
  go_wp2_with fail
  refine (ref1_Less _ A7 A10 p7 p10 L7 L10 HS7f.out HS10.out K7.out K10.out (by omega) (by omega)).mono ?_
  rintro e w11 ⟨rfl, hb11⟩
  have B11 : Below w.heap.size w w11 := Below.then_ (by repeat (first | with_reducible exact Below.refl _ _ | with_reducible assumption | ((with_reducible refine Below.setCell ?_ ?_ _); rotate_left; · (first | omega | exact Nat.le_refl _ | (simp <;> omega))) | (with_reducible refine Below.allocW ?_ _) | (with_reducible refine Below.drew ?_) | (with_reducible refine Below.extW ?_ _))) hb11
  have s11 : w.heap.size ≤ w11.heap.size := B11.size
  rw [E7.out, E10.out]
  go_wp2_with fail
  go_ret2
  exact ⟨rfl, B11⟩
end Go.Proofs.YtcjnchjmpkapmaaGreat
