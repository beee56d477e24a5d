/- Contracts of package sample (chapter 4), of its reference, and of the chapter's example. Each call only lays new memory. -/
import Derived.Test.YtldgiclbhpmppaaBase
import Derived.Test.YtldgiclbhpmppaaFloat
import Derived.Lib.SmallJoins
namespace Go.Proofs.Ytldgiclbhpmppaa
open Go.ChangeShapes Go.WideShapes Go.ChangeAt Go.RowKit
set_option linter.unusedVariables false

/-- Is a reading right? -/
def rightB (v u : Int) : Bool := decide (0 ≤ v) && decide (v ≤ 281474976710655) && decide (1 ≤ u) && decide (u ≤ 72057594037927935)
theorem rightB_pos {v u : Int} (h : rightB v u = true) : (0 ≤ v ∧ v ≤ 281474976710655) ∧ 1 ≤ u ∧ u ≤ 72057594037927935 := by
  simpa [rightB, and_assoc] using h
/-- What is told of a reading that is right, or not: it, true; or nothing, false. -/
def ofV (v u : Int) : Value := if rightB v u then .tuple #[.agg #[.int .i64 v, .int .i64 u], .bool true] else .tuple #[.agg #[.int .i64 0, .int .i64 0], .bool false]

theorem sample_Right (v u : Int) (w : World) :
    Calls Try.prog 14 #[.agg #[.int .i64 v, .int .i64 u]] w fun e w' => e = .returned (.bool (rightB v u)) ∧ Below w.heap.size w w' := by
  go_enter Try.func14, Try.ntmps14
  go_wp2
  all_goals
    go_ret
    refine ⟨ret_bool ?_, (Below.refl _ _).alloc (Nat.le_refl _) _⟩
    rw [Bool.eq_iff_iff]
    simp [rightB]
    omega

theorem ref4_Right (v u : Int) (w : World) :
    Calls Try.prog 15 #[.agg #[.int .i64 v, .int .i64 u]] w fun e w' => e = .returned (.bool (rightB v u)) ∧ Below w.heap.size w w' := by
  go_enter Try.func15, Try.ntmps15
  go_wp2
  all_goals
    go_ret
    refine ⟨ret_bool ?_, (Below.refl _ _).alloc (Nat.le_refl _) _⟩
    rw [Bool.eq_iff_iff]
    simp [rightB]
    omega

attribute [local go_sem] Instr.typeAssert
theorem zvInt (w : World) : (zeroValue 3).run Try.prog w = .ok (.int .i64 0) w := by kernel_rfl
theorem zvPair (w : World) : (zeroValue 40).run Try.prog w = .ok (.agg #[.int .i64 0, .int .i64 0]) w := by kernel_rfl
theorem zvCplx (w : World) : (zeroValue 30).run Try.prog w = .ok (.complex .f64 0 0) w := by kernel_rfl
theorem zvRead (w : World) : (zeroValue 23).run Try.prog w = .ok (.agg #[.int .i64 0, .int .i64 0]) w := by kernel_rfl
attribute [local go_sem] zvInt zvPair zvCplx zvRead

/-- The facts on a float's bits by which it is the whole number n. -/
structure IsWhole (b : Nat) (n : Int) : Prop where
  ge : (FloatKind.f64.format.order b 0 == some .gt || FloatKind.f64.format.order b 0 == some .eq) = true
  le : (FloatKind.f64.format.order b 4859383997932765184 == some .lt || FloatKind.f64.format.order b 4859383997932765184 == some .eq) = true
  toInt : floatToIntVal .f64 b .i64 = some n
  eq : (FloatKind.f64.format.order (floatOfInt .f64 n) b == some .eq) = true

theorem isWhole_of (n : Nat) (h : n ≤ 9007199254740992) : IsWhole (floatOfInt .f64 (n : Int)) n := by
  have h' : n ≤ 2 ^ 53 := h
  refine ⟨f64_ge0 n h', f64_le56 n h', ?_, ?_⟩
  · unfold floatToIntVal
    show (match (FloatKind.f64.decode (FloatKind.f64.nearest (n : Int))).toInt .zero with | some n => _ | none => none) = _
    rw [f64_toInt n h']
    simp only [IntKind.min, IntKind.max, IntKind.signed, IntKind.bits]
    rw [if_pos]
    omega
  · show (FloatKind.f64.format.order (FloatKind.f64.nearest (n : Int)) (FloatKind.f64.nearest (n : Int)) == some .eq) = true
    rw [f64_self n h']
    rfl

theorem sample_part (b : Nat) (n : Int) (h : IsWhole b n) (w : World) :
    Calls Try.prog 19 #[.float .f64 b] w fun e w' => e = .returned (.int .i64 n) ∧ Below w.heap.size w w' := by
  have h1 := h.ge
  have h2 := h.le
  have h4 := h.eq
  have h3 := fun w : World => run_convert_float_int (P := Try.prog) w 33 3 .f64 .i64 b n (by kernel_rfl) Try.underlying3 h.toInt
  clear h
  go_enter Try.func19, Try.ntmps19
  go_wp2
  go_ret
  exact ⟨rfl, Below.refl _ _⟩

theorem read_int (n : Int) (w : World) :
    Calls Try.prog 18 #[.iface 3 (.int .i64 n)] w fun e w' => e = .returned (.agg #[.int .i64 n, .int .i64 1]) ∧ Below w.heap.size w w' := by
  go_enter Try.func18, Try.ntmps18
  go_wp2
  exact bodyPost_ret (v := .agg #[.int .i64 n, .int .i64 1]) (by simp only [results, Try.results18]; go_simp) rfl ⟨rfl, (by repeat (first | exact Below.refl _ _ | assumption | refine Below.setCell ?_ (by first | omega | exact Nat.le_refl _ | (simp <;> omega)) _ | refine Below.allocW ?_ _ | refine Below.drew ?_ | refine Below.extW ?_ _))⟩

theorem read_pair (n m : Int) (w : World) :
    Calls Try.prog 18 #[.iface 40 (.agg #[.int .i64 n, .int .i64 m])] w fun e w' => e = .returned (.agg #[.int .i64 n, .int .i64 m]) ∧ Below w.heap.size w w' := by
  go_enter Try.func18, Try.ntmps18
  go_wp2
  exact bodyPost_ret (v := .agg #[.int .i64 n, .int .i64 m]) (by simp only [results, Try.results18]; go_simp) rfl ⟨rfl, (by repeat (first | exact Below.refl _ _ | assumption | refine Below.setCell ?_ (by first | omega | exact Nat.le_refl _ | (simp <;> omega)) _ | refine Below.allocW ?_ _ | refine Below.drew ?_ | refine Below.extW ?_ _))⟩

theorem read_whole (n m : Int) (w : World) :
    Calls Try.prog 18 #[.iface 23 (.agg #[.int .i64 n, .int .i64 m])] w fun e w' => e = .returned (.agg #[.int .i64 n, .int .i64 m]) ∧ Below w.heap.size w w' := by
  go_enter Try.func18, Try.ntmps18
  go_wp2
  exact bodyPost_ret (v := .agg #[.int .i64 n, .int .i64 m]) (by simp only [results, Try.results18]; go_simp) rfl ⟨rfl, (by repeat (first | exact Below.refl _ _ | assumption | refine Below.setCell ?_ (by first | omega | exact Nat.le_refl _ | (simp <;> omega)) _ | refine Below.allocW ?_ _ | refine Below.drew ?_ | refine Below.extW ?_ _))⟩

theorem read_cplx (a b : Nat) (n m : Int) (ha : IsWhole a n) (hb : IsWhole b m) (w : World) :
    Calls Try.prog 18 #[.iface 30 (.complex .f64 a b)] w fun e w' => e = .returned (.agg #[.int .i64 n, .int .i64 m]) ∧ Below w.heap.size w w' := by
  go_enter Try.func18, Try.ntmps18
  go_wp2_with fail
  refine (sample_part a n ha _).mono ?_
  rintro e w1 ⟨rfl, hb1⟩
  have B1 : Below w.heap.size w w1 := Below.then_ (by repeat (first | exact Below.refl _ _ | assumption | refine Below.setCell ?_ (by first | omega | exact Nat.le_refl _ | (simp <;> omega)) _ | refine Below.allocW ?_ _ | refine Below.drew ?_ | refine Below.extW ?_ _)) hb1
  have s1 : w.heap.size ≤ w1.heap.size := B1.size
  have z1_0 : w.heap.size < w1.heap.size := by have := hb1.size; (try simp at this); omega
  have y1_0 : w.heap.size ≤ w1.heap.size := Nat.le_of_lt z1_0
  have c1_0 := fun o => hb1.cell (p := ⟨w.heap.size, o, none⟩) (by first | omega | (simp <;> omega))
  have f1_0 := fun o => hb1.frozen (p := ⟨w.heap.size, o, none⟩) (by first | omega | (simp <;> omega))
  have z1_1 : w.heap.size + 1 < w1.heap.size := by have := hb1.size; (try simp at this); omega
  have y1_1 : w.heap.size + 1 ≤ w1.heap.size := Nat.le_of_lt z1_1
  have c1_1 := fun o => hb1.cell (p := ⟨w.heap.size + 1, o, none⟩) (by first | omega | (simp <;> omega))
  have f1_1 := fun o => hb1.frozen (p := ⟨w.heap.size + 1, o, none⟩) (by first | omega | (simp <;> omega))
  go_wp2_with fail
  refine (sample_part b m hb _).mono ?_
  rintro e w2 ⟨rfl, hb2⟩
  have B2 : Below w.heap.size w w2 := Below.then_ (by repeat (first | exact Below.refl _ _ | assumption | refine Below.setCell ?_ (by first | omega | exact Nat.le_refl _ | (simp <;> omega)) _ | refine Below.allocW ?_ _ | refine Below.drew ?_ | refine Below.extW ?_ _)) hb2
  have s2 : w.heap.size ≤ w2.heap.size := B2.size
  have z2_0 : w.heap.size < w2.heap.size := by have := hb2.size; (try simp at this); omega
  have y2_0 : w.heap.size ≤ w2.heap.size := Nat.le_of_lt z2_0
  have c2_0 := fun o => hb2.cell (p := ⟨w.heap.size, o, none⟩) (by first | omega | (simp <;> omega))
  have f2_0 := fun o => hb2.frozen (p := ⟨w.heap.size, o, none⟩) (by first | omega | (simp <;> omega))
  go_wp2_with fail
  exact bodyPost_ret (v := .agg #[.int .i64 n, .int .i64 m]) (by simp only [results, Try.results18]; go_simp) rfl ⟨rfl, (by repeat (first | exact Below.refl _ _ | assumption | refine Below.setCell ?_ (by first | omega | exact Nat.le_refl _ | (simp <;> omega)) _ | refine Below.allocW ?_ _ | refine Below.drew ?_ | refine Below.extW ?_ _))⟩

theorem sample_Of (v : Value) (n m : Int)
    (hr : ∀ w : World, Calls Try.prog 18 #[v] w fun e w' => e = .returned (.agg #[.int .i64 n, .int .i64 m]) ∧ Below w.heap.size w w') (w : World) :
    Calls Try.prog 8 #[v] w fun e w' => e = .returned (ofV n m) ∧ Below w.heap.size w w' := by
  have Hr := Lib.hid hr
  clear hr
  cases hR : rightB n m
  all_goals
    go_enter Try.func8, Try.ntmps8
    go_wp2_with fail
    refine (Hr.out _).mono ?_
    rintro e w1 ⟨rfl, hb1⟩
    have B1 : Below w.heap.size w w1 := Below.then_ (by repeat (first | exact Below.refl _ _ | assumption | refine Below.setCell ?_ (by first | omega | exact Nat.le_refl _ | (simp <;> omega)) _ | refine Below.allocW ?_ _ | refine Below.drew ?_ | refine Below.extW ?_ _)) hb1
    have s1 : w.heap.size ≤ w1.heap.size := B1.size
    have z1_0 : w.heap.size < w1.heap.size := by have := hb1.size; (try simp at this); omega
    have y1_0 : w.heap.size ≤ w1.heap.size := Nat.le_of_lt z1_0
    have c1_0 := fun o => hb1.cell (p := ⟨w.heap.size, o, none⟩) (by first | omega | (simp <;> omega))
    have f1_0 := fun o => hb1.frozen (p := ⟨w.heap.size, o, none⟩) (by first | omega | (simp <;> omega))
    go_wp2_with fail
    refine (sample_Right _ _ _).mono ?_
    rintro e w2 ⟨rfl, hb2⟩
    have B2 : Below w.heap.size w w2 := Below.then_ (by repeat (first | exact Below.refl _ _ | assumption | refine Below.setCell ?_ (by first | omega | exact Nat.le_refl _ | (simp <;> omega)) _ | refine Below.allocW ?_ _ | refine Below.drew ?_ | refine Below.extW ?_ _)) hb2
    have s2 : w.heap.size ≤ w2.heap.size := B2.size
    have z2_0 : w.heap.size < w2.heap.size := by have := hb2.size; (try simp at this); omega
    have y2_0 : w.heap.size ≤ w2.heap.size := Nat.le_of_lt z2_0
    have c2_0 := fun o => hb2.cell (p := ⟨w.heap.size, o, none⟩) (by first | omega | (simp <;> omega))
    have f2_0 := fun o => hb2.frozen (p := ⟨w.heap.size, o, none⟩) (by first | omega | (simp <;> omega))
    have z2_1 : w1.heap.size < w2.heap.size := by have := hb2.size; (try simp at this); omega
    have y2_1 : w1.heap.size ≤ w2.heap.size := Nat.le_of_lt z2_1
    have c2_1 := fun o => hb2.cell (p := ⟨w1.heap.size, o, none⟩) (by first | omega | (simp <;> omega))
    have f2_1 := fun o => hb2.frozen (p := ⟨w1.heap.size, o, none⟩) (by first | omega | (simp <;> omega))
    go_wp2_with fail
  · exact bodyPost_ret (v := .tuple #[.agg #[.int .i64 0, .int .i64 0], .bool false]) (by simp only [results, Try.results8]; go_simp) rfl ⟨by simp [ofV, hR], (by repeat (first | exact Below.refl _ _ | assumption | refine Below.setCell ?_ (by first | omega | exact Nat.le_refl _ | (simp <;> omega)) _ | refine Below.allocW ?_ _ | refine Below.drew ?_ | refine Below.extW ?_ _))⟩
  · exact bodyPost_ret (v := .tuple #[.agg #[.int .i64 n, .int .i64 m], .bool true]) (by simp only [results, Try.results8]; go_simp) rfl ⟨by simp [ofV, hR], (by repeat (first | exact Below.refl _ _ | assumption | refine Below.setCell ?_ (by first | omega | exact Nat.le_refl _ | (simp <;> omega)) _ | refine Below.allocW ?_ _ | refine Below.drew ?_ | refine Below.extW ?_ _))⟩

theorem read_other (t : TypeId) (x : Value) (h1 : ¬ t = 3) (h2 : ¬ t = 40) (h3 : ¬ t = 30) (h4 : ¬ t = 23) (w : World) :
    Calls Try.prog 18 #[.iface t x] w fun e w' => e = .returned (.agg #[.int .i64 0, .int .i64 0]) ∧ Below w.heap.size w w' := by
  go_enter Try.func18, Try.ntmps18
  go_wp2
  exact bodyPost_ret (v := .agg #[.int .i64 0, .int .i64 0]) (by simp only [results, Try.results18]; go_simp) rfl ⟨rfl, (by repeat (first | exact Below.refl _ _ | assumption | refine Below.setCell ?_ (by first | omega | exact Nat.le_refl _ | (simp <;> omega)) _ | refine Below.allocW ?_ _ | refine Below.drew ?_ | refine Below.extW ?_ _))⟩

theorem read_nil (w : World) :
    Calls Try.prog 18 #[.nilIface] w fun e w' => e = .returned (.agg #[.int .i64 0, .int .i64 0]) ∧ Below w.heap.size w w' := by
  go_enter Try.func18, Try.ntmps18
  go_wp2
  exact bodyPost_ret (v := .agg #[.int .i64 0, .int .i64 0]) (by simp only [results, Try.results18]; go_simp) rfl ⟨rfl, (by repeat (first | exact Below.refl _ _ | assumption | refine Below.setCell ?_ (by first | omega | exact Nat.le_refl _ | (simp <;> omega)) _ | refine Below.allocW ?_ _ | refine Below.drew ?_ | refine Below.extW ?_ _))⟩

theorem ref4_Of (n m : Int) (w : World) :
    Calls Try.prog 10 #[.int .i64 n, .int .i64 m] w fun e w' => e = .returned (ofV n m) ∧ Below w.heap.size w w' := by
  cases hR : rightB n m
  all_goals
    go_enter Try.func10, Try.ntmps10
    go_wp2_with fail
    refine (ref4_Right _ _ _).mono ?_
    rintro e w1 ⟨rfl, hb1⟩
    have B1 : Below w.heap.size w w1 := Below.then_ (by repeat (first | exact Below.refl _ _ | assumption | refine Below.setCell ?_ (by first | omega | exact Nat.le_refl _ | (simp <;> omega)) _ | refine Below.allocW ?_ _ | refine Below.drew ?_ | refine Below.extW ?_ _)) hb1
    have s1 : w.heap.size ≤ w1.heap.size := B1.size
    have z1_0 : w.heap.size < w1.heap.size := by have := hb1.size; (try simp at this); omega
    have y1_0 : w.heap.size ≤ w1.heap.size := Nat.le_of_lt z1_0
    have c1_0 := fun o => hb1.cell (p := ⟨w.heap.size, o, none⟩) (by first | omega | (simp <;> omega))
    have f1_0 := fun o => hb1.frozen (p := ⟨w.heap.size, o, none⟩) (by first | omega | (simp <;> omega))
    have z1_1 : w.heap.size + 1 < w1.heap.size := by have := hb1.size; (try simp at this); omega
    have y1_1 : w.heap.size + 1 ≤ w1.heap.size := Nat.le_of_lt z1_1
    have c1_1 := fun o => hb1.cell (p := ⟨w.heap.size + 1, o, none⟩) (by first | omega | (simp <;> omega))
    have f1_1 := fun o => hb1.frozen (p := ⟨w.heap.size + 1, o, none⟩) (by first | omega | (simp <;> omega))
    go_wp2_with fail
  · exact bodyPost_ret (v := .tuple #[.agg #[.int .i64 0, .int .i64 0], .bool false]) (by simp only [results, Try.results10]; go_simp) rfl ⟨by simp [ofV, hR], (by repeat (first | exact Below.refl _ _ | assumption | refine Below.setCell ?_ (by first | omega | exact Nat.le_refl _ | (simp <;> omega)) _ | refine Below.allocW ?_ _ | refine Below.drew ?_ | refine Below.extW ?_ _))⟩
  · exact bodyPost_ret (v := .tuple #[.agg #[.int .i64 n, .int .i64 m], .bool true]) (by simp only [results, Try.results10]; go_simp) rfl ⟨by simp [ofV, hR], (by repeat (first | exact Below.refl _ _ | assumption | refine Below.setCell ?_ (by first | omega | exact Nat.le_refl _ | (simp <;> omega)) _ | refine Below.allocW ?_ _ | refine Below.drew ?_ | refine Below.extW ?_ _))⟩

theorem sample_Exact (n : Int) (w : World) :
    Calls Try.prog 9 #[.iface 3 (.int .i64 n)] w fun e w' => e = .returned (.int .i64 n) ∧ Below w.heap.size w w' := by
  go_enter Try.func9, Try.ntmps9
  go_wp2
  go_ret
  exact ⟨rfl, (by repeat (first | exact Below.refl _ _ | assumption | refine Below.setCell ?_ (by first | omega | exact Nat.le_refl _ | (simp <;> omega)) _ | refine Below.allocW ?_ _ | refine Below.drew ?_ | refine Below.extW ?_ _))⟩

theorem Of_int (n : Int) (w : World) : Calls Try.prog 8 #[.iface 3 (.int .i64 n)] w fun e w' => e = .returned (ofV n 1) ∧ Below w.heap.size w w' :=
  sample_Of _ n 1 (read_int n) w
theorem Of_pair (n m : Int) (w : World) : Calls Try.prog 8 #[.iface 40 (.agg #[.int .i64 n, .int .i64 m])] w fun e w' => e = .returned (ofV n m) ∧ Below w.heap.size w w' :=
  sample_Of _ n m (read_pair n m) w
theorem Of_whole (n m : Int) (w : World) : Calls Try.prog 8 #[.iface 23 (.agg #[.int .i64 n, .int .i64 m])] w fun e w' => e = .returned (ofV n m) ∧ Below w.heap.size w w' :=
  sample_Of _ n m (read_whole n m) w
theorem Of_cplx (a b : Nat) (n m : Int) (ha : IsWhole a n) (hb : IsWhole b m) (w : World) : Calls Try.prog 8 #[.iface 30 (.complex .f64 a b)] w fun e w' => e = .returned (ofV n m) ∧ Below w.heap.size w w' :=
  sample_Of _ n m (read_cplx a b n m ha hb) w
theorem ofV_zero : ofV 0 0 = .tuple #[.agg #[.int .i64 0, .int .i64 0], .bool false] := rfl
theorem Of_other (t : TypeId) (x : Value) (h1 : ¬ t = 3) (h2 : ¬ t = 40) (h3 : ¬ t = 30) (h4 : ¬ t = 23) (w : World) :
    Calls Try.prog 8 #[.iface t x] w fun e w' => e = .returned (.tuple #[.agg #[.int .i64 0, .int .i64 0], .bool false]) ∧ Below w.heap.size w w' :=
  sample_Of _ 0 0 (read_other t x h1 h2 h3 h4) w
theorem Of_nil (w : World) : Calls Try.prog 8 #[.nilIface] w fun e w' => e = .returned (.tuple #[.agg #[.int .i64 0, .int .i64 0], .bool false]) ∧ Below w.heap.size w w' :=
  sample_Of _ 0 0 read_nil w

theorem whole5 : IsWhole 4617315517961601024 5 := by
  have h := isWhole_of 5 (by omega)
  have e : floatOfInt .f64 ((5 : Nat) : Int) = 4617315517961601024 := by decide
  rwa [e] at h
theorem whole3 : IsWhole 4613937818241073152 3 := by
  have h := isWhole_of 3 (by omega)
  have e : floatOfInt .f64 ((3 : Nat) : Int) = 4613937818241073152 := by decide
  rwa [e] at h
theorem ofV_51 : ofV 5 1 = .tuple #[.agg #[.int .i64 5, .int .i64 1], .bool true] := rfl
theorem ofV_53 : ofV 5 3 = .tuple #[.agg #[.int .i64 5, .int .i64 3], .bool true] := rfl

theorem kind_int (n : Int) (w : World) : Calls Try.prog 17 #[.iface 3 (.int .i64 n)] w fun e w' => e = .returned (.int .i64 1) ∧ Below w.heap.size w w' := by
  go_enter Try.func17, Try.ntmps17
  go_wp2
  go_ret
  exact ⟨rfl, (by repeat (first | exact Below.refl _ _ | assumption | refine Below.setCell ?_ (by first | omega | exact Nat.le_refl _ | (simp <;> omega)) _ | refine Below.allocW ?_ _ | refine Below.drew ?_ | refine Below.extW ?_ _))⟩
theorem kind_pair (n m : Int) (w : World) : Calls Try.prog 17 #[.iface 40 (.agg #[.int .i64 n, .int .i64 m])] w fun e w' => e = .returned (.int .i64 2) ∧ Below w.heap.size w w' := by
  go_enter Try.func17, Try.ntmps17
  go_wp2
  go_ret
  exact ⟨rfl, (by repeat (first | exact Below.refl _ _ | assumption | refine Below.setCell ?_ (by first | omega | exact Nat.le_refl _ | (simp <;> omega)) _ | refine Below.allocW ?_ _ | refine Below.drew ?_ | refine Below.extW ?_ _))⟩
theorem kind_other (t : TypeId) (x : Value) (h1 : ¬ t = 3) (h2 : ¬ t = 40) (h3 : ¬ t = 30) (h4 : ¬ t = 23) (w : World) :
    Calls Try.prog 17 #[.iface t x] w fun e w' => e = .returned (.int .i64 0) ∧ Below w.heap.size w w' := by
  go_enter Try.func17, Try.ntmps17
  go_wp2
  go_ret
  exact ⟨rfl, (by repeat (first | exact Below.refl _ _ | assumption | refine Below.setCell ?_ (by first | omega | exact Nat.le_refl _ | (simp <;> omega)) _ | refine Below.allocW ?_ _ | refine Below.drew ?_ | refine Below.extW ?_ _))⟩
theorem kind_nil (w : World) : Calls Try.prog 17 #[.nilIface] w fun e w' => e = .returned (.int .i64 0) ∧ Below w.heap.size w w' := by
  go_enter Try.func17, Try.ntmps17
  go_wp2
  go_ret
  exact ⟨rfl, (by repeat (first | exact Below.refl _ _ | assumption | refine Below.setCell ?_ (by first | omega | exact Nat.le_refl _ | (simp <;> omega)) _ | refine Below.allocW ?_ _ | refine Below.drew ?_ | refine Below.extW ?_ _))⟩

def packV (v u : Int) : Value := if rightB v u = true ∧ u ≤ 9007199254740992 then .tuple #[.complex .f64 (floatOfInt .f64 v) (floatOfInt .f64 u), .bool true] else .tuple #[.complex .f64 0 0, .bool false]
def pack4V (v u : Int) : Value := if rightB v u = true ∧ u ≤ 9007199254740992 then .tuple #[.agg #[.float .f64 (floatOfInt .f64 v), .float .f64 (floatOfInt .f64 u)], .bool true] else .tuple #[.agg #[.float .f64 0, .float .f64 0], .bool false]

theorem sample_Pack (v u : Int) (w : World) : Calls Try.prog 12 #[.agg #[.int .i64 v, .int .i64 u]] w fun e w' =>
    e = .returned (packV v u) ∧ Below w.heap.size w w' := by
  by_cases h : rightB v u = true
  · by_cases hu : u ≤ 9007199254740992
    · have hu' : ¬ 9007199254740992 < u := by omega
      go_enter Try.func12, Try.ntmps12
      go_wp2_with fail
      refine (sample_Right _ _ _).mono ?_
      rintro e w1 ⟨rfl, hb1⟩
      have B1 : Below w.heap.size w w1 := Below.then_ (by repeat (first | exact Below.refl _ _ | assumption | refine Below.setCell ?_ (by first | omega | exact Nat.le_refl _ | (simp <;> omega)) _ | refine Below.allocW ?_ _ | refine Below.drew ?_ | refine Below.extW ?_ _)) hb1
      have s1 : w.heap.size ≤ w1.heap.size := B1.size
      have z1_0 : w.heap.size < w1.heap.size := by have := hb1.size; (try simp at this); omega
      have y1_0 : w.heap.size ≤ w1.heap.size := Nat.le_of_lt z1_0
      have c1_0 := fun o => hb1.cell (p := ⟨w.heap.size, o, none⟩) (by first | omega | (simp <;> omega))
      have f1_0 := fun o => hb1.frozen (p := ⟨w.heap.size, o, none⟩) (by first | omega | (simp <;> omega))
      rw [h]
      go_wp2_with fail
      go_ret2
      exact ⟨by simp [packV, h, hu], (by repeat (first | exact Below.refl _ _ | assumption | refine Below.setCell ?_ (by first | omega | exact Nat.le_refl _ | (simp <;> omega)) _ | refine Below.allocW ?_ _ | refine Below.drew ?_ | refine Below.extW ?_ _))⟩
    · have hu' : 9007199254740992 < u := by omega
      go_enter Try.func12, Try.ntmps12
      go_wp2_with fail
      refine (sample_Right _ _ _).mono ?_
      rintro e w1 ⟨rfl, hb1⟩
      have B1 : Below w.heap.size w w1 := Below.then_ (by repeat (first | exact Below.refl _ _ | assumption | refine Below.setCell ?_ (by first | omega | exact Nat.le_refl _ | (simp <;> omega)) _ | refine Below.allocW ?_ _ | refine Below.drew ?_ | refine Below.extW ?_ _)) hb1
      have s1 : w.heap.size ≤ w1.heap.size := B1.size
      have z1_0 : w.heap.size < w1.heap.size := by have := hb1.size; (try simp at this); omega
      have y1_0 : w.heap.size ≤ w1.heap.size := Nat.le_of_lt z1_0
      have c1_0 := fun o => hb1.cell (p := ⟨w.heap.size, o, none⟩) (by first | omega | (simp <;> omega))
      have f1_0 := fun o => hb1.frozen (p := ⟨w.heap.size, o, none⟩) (by first | omega | (simp <;> omega))
      rw [h]
      go_wp2_with fail
      go_ret2
      exact ⟨by simp [packV, hu], (by repeat (first | exact Below.refl _ _ | assumption | refine Below.setCell ?_ (by first | omega | exact Nat.le_refl _ | (simp <;> omega)) _ | refine Below.allocW ?_ _ | refine Below.drew ?_ | refine Below.extW ?_ _))⟩
  · have h' : rightB v u = false := by simpa using h
    go_enter Try.func12, Try.ntmps12
    go_wp2_with fail
    refine (sample_Right _ _ _).mono ?_
    rintro e w1 ⟨rfl, hb1⟩
    have B1 : Below w.heap.size w w1 := Below.then_ (by repeat (first | exact Below.refl _ _ | assumption | refine Below.setCell ?_ (by first | omega | exact Nat.le_refl _ | (simp <;> omega)) _ | refine Below.allocW ?_ _ | refine Below.drew ?_ | refine Below.extW ?_ _)) hb1
    have s1 : w.heap.size ≤ w1.heap.size := B1.size
    have z1_0 : w.heap.size < w1.heap.size := by have := hb1.size; (try simp at this); omega
    have y1_0 : w.heap.size ≤ w1.heap.size := Nat.le_of_lt z1_0
    have c1_0 := fun o => hb1.cell (p := ⟨w.heap.size, o, none⟩) (by first | omega | (simp <;> omega))
    have f1_0 := fun o => hb1.frozen (p := ⟨w.heap.size, o, none⟩) (by first | omega | (simp <;> omega))
    rw [h']
    go_wp2_with fail
    go_ret2
    exact ⟨by simp [packV, h'], (by repeat (first | exact Below.refl _ _ | assumption | refine Below.setCell ?_ (by first | omega | exact Nat.le_refl _ | (simp <;> omega)) _ | refine Below.allocW ?_ _ | refine Below.drew ?_ | refine Below.extW ?_ _))⟩

theorem ref4_Pack (v u : Int) (w : World) : Calls Try.prog 13 #[.agg #[.int .i64 v, .int .i64 u]] w fun e w' =>
    e = .returned (pack4V v u) ∧ Below w.heap.size w w' := by
  by_cases h : rightB v u = true
  · by_cases hu : u ≤ 9007199254740992
    · have hu' : ¬ 9007199254740992 < u := by omega
      go_enter Try.func13, Try.ntmps13
      go_wp2_with fail
      refine (ref4_Right _ _ _).mono ?_
      rintro e w1 ⟨rfl, hb1⟩
      have B1 : Below w.heap.size w w1 := Below.then_ (by repeat (first | exact Below.refl _ _ | assumption | refine Below.setCell ?_ (by first | omega | exact Nat.le_refl _ | (simp <;> omega)) _ | refine Below.allocW ?_ _ | refine Below.drew ?_ | refine Below.extW ?_ _)) hb1
      have s1 : w.heap.size ≤ w1.heap.size := B1.size
      have z1_0 : w.heap.size < w1.heap.size := by have := hb1.size; (try simp at this); omega
      have y1_0 : w.heap.size ≤ w1.heap.size := Nat.le_of_lt z1_0
      have c1_0 := fun o => hb1.cell (p := ⟨w.heap.size, o, none⟩) (by first | omega | (simp <;> omega))
      have f1_0 := fun o => hb1.frozen (p := ⟨w.heap.size, o, none⟩) (by first | omega | (simp <;> omega))
      have z1_1 : w.heap.size + 1 < w1.heap.size := by have := hb1.size; (try simp at this); omega
      have y1_1 : w.heap.size + 1 ≤ w1.heap.size := Nat.le_of_lt z1_1
      have c1_1 := fun o => hb1.cell (p := ⟨w.heap.size + 1, o, none⟩) (by first | omega | (simp <;> omega))
      have f1_1 := fun o => hb1.frozen (p := ⟨w.heap.size + 1, o, none⟩) (by first | omega | (simp <;> omega))
      rw [h]
      go_wp2_with fail
      exact bodyPost_ret (v := .tuple #[.agg #[.float .f64 (floatOfInt .f64 v), .float .f64 (floatOfInt .f64 u)], .bool true]) (by simp only [results, Try.results13]; go_simp) rfl ⟨by simp [pack4V, h, hu], (by repeat (first | exact Below.refl _ _ | assumption | refine Below.setCell ?_ (by first | omega | exact Nat.le_refl _ | (simp <;> omega)) _ | refine Below.allocW ?_ _ | refine Below.drew ?_ | refine Below.extW ?_ _))⟩
    · have hu' : 9007199254740992 < u := by omega
      go_enter Try.func13, Try.ntmps13
      go_wp2_with fail
      refine (ref4_Right _ _ _).mono ?_
      rintro e w1 ⟨rfl, hb1⟩
      have B1 : Below w.heap.size w w1 := Below.then_ (by repeat (first | exact Below.refl _ _ | assumption | refine Below.setCell ?_ (by first | omega | exact Nat.le_refl _ | (simp <;> omega)) _ | refine Below.allocW ?_ _ | refine Below.drew ?_ | refine Below.extW ?_ _)) hb1
      have s1 : w.heap.size ≤ w1.heap.size := B1.size
      have z1_0 : w.heap.size < w1.heap.size := by have := hb1.size; (try simp at this); omega
      have y1_0 : w.heap.size ≤ w1.heap.size := Nat.le_of_lt z1_0
      have c1_0 := fun o => hb1.cell (p := ⟨w.heap.size, o, none⟩) (by first | omega | (simp <;> omega))
      have f1_0 := fun o => hb1.frozen (p := ⟨w.heap.size, o, none⟩) (by first | omega | (simp <;> omega))
      have z1_1 : w.heap.size + 1 < w1.heap.size := by have := hb1.size; (try simp at this); omega
      have y1_1 : w.heap.size + 1 ≤ w1.heap.size := Nat.le_of_lt z1_1
      have c1_1 := fun o => hb1.cell (p := ⟨w.heap.size + 1, o, none⟩) (by first | omega | (simp <;> omega))
      have f1_1 := fun o => hb1.frozen (p := ⟨w.heap.size + 1, o, none⟩) (by first | omega | (simp <;> omega))
      rw [h]
      go_wp2_with fail
      exact bodyPost_ret (v := .tuple #[.agg #[.float .f64 0, .float .f64 0], .bool false]) (by simp only [results, Try.results13]; go_simp) rfl ⟨by simp [pack4V, hu], (by repeat (first | exact Below.refl _ _ | assumption | refine Below.setCell ?_ (by first | omega | exact Nat.le_refl _ | (simp <;> omega)) _ | refine Below.allocW ?_ _ | refine Below.drew ?_ | refine Below.extW ?_ _))⟩
  · have h' : rightB v u = false := by simpa using h
    go_enter Try.func13, Try.ntmps13
    go_wp2_with fail
    refine (ref4_Right _ _ _).mono ?_
    rintro e w1 ⟨rfl, hb1⟩
    have B1 : Below w.heap.size w w1 := Below.then_ (by repeat (first | exact Below.refl _ _ | assumption | refine Below.setCell ?_ (by first | omega | exact Nat.le_refl _ | (simp <;> omega)) _ | refine Below.allocW ?_ _ | refine Below.drew ?_ | refine Below.extW ?_ _)) hb1
    have s1 : w.heap.size ≤ w1.heap.size := B1.size
    have z1_0 : w.heap.size < w1.heap.size := by have := hb1.size; (try simp at this); omega
    have y1_0 : w.heap.size ≤ w1.heap.size := Nat.le_of_lt z1_0
    have c1_0 := fun o => hb1.cell (p := ⟨w.heap.size, o, none⟩) (by first | omega | (simp <;> omega))
    have f1_0 := fun o => hb1.frozen (p := ⟨w.heap.size, o, none⟩) (by first | omega | (simp <;> omega))
    have z1_1 : w.heap.size + 1 < w1.heap.size := by have := hb1.size; (try simp at this); omega
    have y1_1 : w.heap.size + 1 ≤ w1.heap.size := Nat.le_of_lt z1_1
    have c1_1 := fun o => hb1.cell (p := ⟨w.heap.size + 1, o, none⟩) (by first | omega | (simp <;> omega))
    have f1_1 := fun o => hb1.frozen (p := ⟨w.heap.size + 1, o, none⟩) (by first | omega | (simp <;> omega))
    rw [h']
    go_wp2_with fail
    exact bodyPost_ret (v := .tuple #[.agg #[.float .f64 0, .float .f64 0], .bool false]) (by simp only [results, Try.results13]; go_simp) rfl ⟨by simp [pack4V, h'], (by repeat (first | exact Below.refl _ _ | assumption | refine Below.setCell ?_ (by first | omega | exact Nat.le_refl _ | (simp <;> omega)) _ | refine Below.allocW ?_ _ | refine Below.drew ?_ | refine Below.extW ?_ _))⟩

theorem open_Reading {H : Type} {enc : TypeId × Value → H} {w : World} {base : Nat} {spare : Nat → Bool} {held : Bool} {r : Reach} {b0 : Nat} {v : Value} {d : DataW H} {p : List MemPlace}
    (hv : Value.okWide Try.prog w r b0 23 v) (h : DataW.Trod enc Try.prog w base spare held 23 v d p) :
    ∃ x u, v = .agg #[.int .i64 x, .int .i64 u] ∧ (Lit.int .i64 x).wf = true ∧ (Lit.int .i64 u).wf = true := by
  obtain ⟨c0, c1, y0, y1, n, rfl, _, _, hy0, hy1⟩ := Joins.open_agg2 Try.underlying23 (by kernel_rfl) (by kernel_rfl) hv h
  obtain ⟨a, e0, _, wa⟩ := DataW.trod_int Try.underlying3 hy0
  obtain ⟨b, e1, _, wb⟩ := DataW.trod_int Try.underlying3 hy1
  simp at e0 e1
  subst e0 e1
  exact ⟨a, b, rfl, wa, wb⟩

/-- A float64 becomes a float32, with a draw or without. -/
theorem conv_f32 (P : Program) (f : Nat) : (∃ A, ∀ w, (Conv.floatToFloat .f64 f .f32).run P w = .ok (.float .f32 A) w) ∨ (∃ A : World → Nat, ∀ w, (Conv.floatToFloat .f64 f .f32).run P w = .ok (.float .f32 (A w)) w.drew) := by
  have hne : (FloatKind.f64 = FloatKind.f32) = False := by simp
  unfold Conv.floatToFloat
  simp only [hne, if_false]
  cases FloatKind.f64.decode f with
  | nan a b => right; exact ⟨_, fun w => rfl⟩
  | infinity s => left; exact ⟨_, fun w => rfl⟩
  | number s m e =>
    simp only
    split
    · right; exact ⟨_, fun w => rfl⟩
    · left; exact ⟨_, fun w => rfl⟩

theorem conv_c64 (f : Nat) : (∃ A, ∀ w, (convert 30 49 (.complex .f64 f f)).run Try.prog w = .ok (.complex .f32 A A) w) ∨
    (∃ A B : World → Nat, ∀ w, (convert 30 49 (.complex .f64 f f)).run Try.prog w = .ok (.complex .f32 (A w) (B w)) w.drew.drew) := by
  have e : ∀ w, (convert 30 49 (.complex .f64 f f)).run Try.prog w = (Conv.complexToComplex .f64 f f .f32).run Try.prog w := by
    intro w
    simp [convert, run_underlying Try.underlying30, run_underlying Try.underlying49]
  rcases conv_f32 Try.prog f with ⟨A, h⟩ | ⟨A, h⟩
  · left
    refine ⟨A, fun w => ?_⟩
    rw [e, Conv.complexToComplex]
    simp [h]
  · right
    refine ⟨A, fun w => A w.drew, fun w => ?_⟩
    rw [e, Conv.complexToComplex]
    simp [h]

/-- A thing that comes as no reading. -/
def Strange (v : Value) : Prop := v = .nilIface ∨ ∃ t x, v = .iface t x ∧ ¬ t = 3 ∧ ¬ t = 40 ∧ ¬ t = 30 ∧ ¬ t = 23
theorem Of_strange (v : Value) (h : Strange v) (w : World) :
    Calls Try.prog 8 #[v] w fun e w' => e = .returned (.tuple #[.agg #[.int .i64 0, .int .i64 0], .bool false]) ∧ Below w.heap.size w w' := by
  rcases h with rfl | ⟨t, x, rfl, h1, h2, h3, h4⟩
  · exact Of_nil w
  · exact Of_other t x h1 h2 h3 h4 w
theorem kind_strange (v : Value) (h : Strange v) (w : World) :
    Calls Try.prog 17 #[v] w fun e w' => e = .returned (.int .i64 0) ∧ Below w.heap.size w w' := by
  rcases h with rfl | ⟨t, x, rfl, h1, h2, h3, h4⟩
  · exact kind_nil w
  · exact kind_other t x h1 h2 h3 h4 w

theorem strange_cells (W0 W : World) (L : List Value) (t : TypeId) (b : Nat) (hb : b = W0.heap.size) (hW : W.heap = (W0.alloc (.cells L.toArray t)).heap) (h : ∀ v ∈ L, Strange v) (k : Nat) (hk : k < L.length) :
    ∃ v, W.cell? ⟨b, k, none⟩ = some v ∧ Strange v := by
  refine ⟨L[k], ?_, h _ (List.getElem_mem hk)⟩
  subst hb
  rw [cell_of_row _ _ _ _ _ (0, 0) (by rw [hW]; exact heap_alloc_new W0 _)]
  simp [hk]
theorem strange_of (t : TypeId) (x : Value) (h : (decide (t = 3) || decide (t = 40) || decide (t = 30) || decide (t = 23)) = false) : Strange (.iface t x) := by
  simp at h
  exact .inr ⟨t, x, rfl, h.1.1.1, h.1.1.2, h.1.2, h.2⟩
end Go.Proofs.Ytldgiclbhpmppaa
