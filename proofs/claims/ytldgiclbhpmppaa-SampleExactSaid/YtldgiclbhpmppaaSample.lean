/- Contracts of package sample (chapter 4), of its reference, and of the chapter's example. Each call only lays new memory. -/
import Derived.Test.YtldgiclbhpmppaaBase
import Derived.Test.YtldgiclbhpmppaaFloat
namespace Go.Proofs.Ytldgiclbhpmppaa
open Go.ChangeShapes Go.WideShapes Go.ChangeAt Go.RowKit
set_option linter.unusedVariables false

/-- Is a reading right? -/
def rightB (v u : Int) : Bool := decide (0 ≤ v) && decide (v ≤ 281474976710655) && decide (1 ≤ u) && decide (u ≤ 72057594037927935)
theorem rightB_pos {v u : Int} (h : rightB v u = true) : (0 ≤ v ∧ v ≤ 281474976710655) ∧ 1 ≤ u ∧ u ≤ 72057594037927935 := by
  simpa [rightB, and_assoc] using h
/-- What is told of a reading that is right, or not: it, true; or nothing, false. -/
def ofV (v u : Int) : Value := if rightB v u then .tuple #[.agg #[.int .i64 v, .int .i64 u], .bool true] else .tuple #[.agg #[.int .i64 0, .int .i64 0], .bool false]

theorem sample_Right (v u : Int) (w : World) :
    Calls Try.prog 14 #[.agg #[.int .i64 v, .int .i64 u]] w fun e w' => e = .returned (.bool (rightB v u)) ∧ Below w.heap.size w w' := by
  go_enter Try.func14, Try.ntmps14
  go_wp2
  all_goals
    go_ret
    refine ⟨ret_bool ?_, (Below.refl _ _).alloc (Nat.le_refl _) _⟩
    rw [Bool.eq_iff_iff]
    simp [rightB]
    omega

theorem ref4_Right (v u : Int) (w : World) :
    Calls Try.prog 15 #[.agg #[.int .i64 v, .int .i64 u]] w fun e w' => e = .returned (.bool (rightB v u)) ∧ Below w.heap.size w w' := by
  go_enter Try.func15, Try.ntmps15
  go_wp2
  all_goals
    go_ret
    refine ⟨ret_bool ?_, (Below.refl _ _).alloc (Nat.le_refl _) _⟩
    rw [Bool.eq_iff_iff]
    simp [rightB]
    omega

attribute [local go_sem] Instr.typeAssert
theorem zvInt (w : World) : (zeroValue 3).run Try.prog w = .ok (.int .i64 0) w := by kernel_rfl
theorem zvPair (w : World) : (zeroValue 40).run Try.prog w = .ok (.agg #[.int .i64 0, .int .i64 0]) w := by kernel_rfl
theorem zvCplx (w : World) : (zeroValue 30).run Try.prog w = .ok (.complex .f64 0 0) w := by kernel_rfl
theorem zvRead (w : World) : (zeroValue 23).run Try.prog w = .ok (.agg #[.int .i64 0, .int .i64 0]) w := by kernel_rfl
attribute [local go_sem] zvInt zvPair zvCplx zvRead

/-- The facts on a float's bits by which it is the whole number n. -/
structure IsWhole (b : Nat) (n : Int) : Prop where
  ge : (FloatKind.f64.format.order b 0 == some .gt || FloatKind.f64.format.order b 0 == some .eq) = true
  le : (FloatKind.f64.format.order b 4859383997932765184 == some .lt || FloatKind.f64.format.order b 4859383997932765184 == some .eq) = true
  toInt : floatToIntVal .f64 b .i64 = some n
  eq : (FloatKind.f64.format.order (floatOfInt .f64 n) b == some .eq) = true

theorem isWhole_of (n : Nat) (h : n ≤ 9007199254740992) : IsWhole (floatOfInt .f64 (n : Int)) n := by
  have h' : n ≤ 2 ^ 53 := h
  refine ⟨f64_ge0 n h', f64_le56 n h', ?_, ?_⟩
  · unfold floatToIntVal
    show (match (FloatKind.f64.decode (FloatKind.f64.nearest (n : Int))).toInt .zero with | some n => _ | none => none) = _
    rw [f64_toInt n h']
    simp only [IntKind.min, IntKind.max, IntKind.signed, IntKind.bits]
    rw [if_pos]
    omega
  · show (FloatKind.f64.format.order (FloatKind.f64.nearest (n : Int)) (FloatKind.f64.nearest (n : Int)) == some .eq) = true
    rw [f64_self n h']
    rfl

theorem sample_part (b : Nat) (n : Int) (h : IsWhole b n) (w : World) :
    Calls Try.prog 19 #[.float .f64 b] w fun e w' => e = .returned (.int .i64 n) ∧ Below w.heap.size w w' := by
  have h1 := h.ge
  have h2 := h.le
  have h4 := h.eq
  have h3 := fun w : World => run_convert_float_int (P := Try.prog) w 33 3 .f64 .i64 b n (by kernel_rfl) Try.underlying3 h.toInt
  clear h
  go_enter Try.func19, Try.ntmps19
  go_wp2
  go_ret
  exact ⟨rfl, Below.refl _ _⟩

theorem read_int (n : Int) (w : World) :
    Calls Try.prog 18 #[.iface 3 (.int .i64 n)] w fun e w' => e = .returned (.agg #[.int .i64 n, .int .i64 1]) ∧ Below w.heap.size w w' := by
  go_enter Try.func18, Try.ntmps18
  go_wp2
  exact bodyPost_ret (v := .agg #[.int .i64 n, .int .i64 1]) (by simp only [results, Try.results18]; go_simp) rfl ⟨rfl, (by repeat (first | exact Below.refl _ _ | assumption | refine Below.setCell ?_ (by first | omega | exact Nat.le_refl _ | (simp <;> omega)) _ | refine Below.allocW ?_ _ | refine Below.drew ?_))⟩

theorem read_pair (n m : Int) (w : World) :
    Calls Try.prog 18 #[.iface 40 (.agg #[.int .i64 n, .int .i64 m])] w fun e w' => e = .returned (.agg #[.int .i64 n, .int .i64 m]) ∧ Below w.heap.size w w' := by
  go_enter Try.func18, Try.ntmps18
  go_wp2
  exact bodyPost_ret (v := .agg #[.int .i64 n, .int .i64 m]) (by simp only [results, Try.results18]; go_simp) rfl ⟨rfl, (by repeat (first | exact Below.refl _ _ | assumption | refine Below.setCell ?_ (by first | omega | exact Nat.le_refl _ | (simp <;> omega)) _ | refine Below.allocW ?_ _ | refine Below.drew ?_))⟩

theorem read_whole (n m : Int) (w : World) :
    Calls Try.prog 18 #[.iface 23 (.agg #[.int .i64 n, .int .i64 m])] w fun e w' => e = .returned (.agg #[.int .i64 n, .int .i64 m]) ∧ Below w.heap.size w w' := by
  go_enter Try.func18, Try.ntmps18
  go_wp2
  exact bodyPost_ret (v := .agg #[.int .i64 n, .int .i64 m]) (by simp only [results, Try.results18]; go_simp) rfl ⟨rfl, (by repeat (first | exact Below.refl _ _ | assumption | refine Below.setCell ?_ (by first | omega | exact Nat.le_refl _ | (simp <;> omega)) _ | refine Below.allocW ?_ _ | refine Below.drew ?_))⟩

theorem read_cplx (a b : Nat) (n m : Int) (ha : IsWhole a n) (hb : IsWhole b m) (w : World) :
    Calls Try.prog 18 #[.iface 30 (.complex .f64 a b)] w fun e w' => e = .returned (.agg #[.int .i64 n, .int .i64 m]) ∧ Below w.heap.size w w' := by
  go_enter Try.func18, Try.ntmps18
  go_wp2_with fail
  refine (sample_part a n ha _).mono ?_
  rintro e w1 ⟨rfl, hb1⟩
  have B1 : Below w.heap.size w w1 := Below.then_ (by repeat (first | exact Below.refl _ _ | assumption | refine Below.setCell ?_ (by first | omega | exact Nat.le_refl _ | (simp <;> omega)) _ | refine Below.allocW ?_ _ | refine Below.drew ?_)) hb1
  have s1 : w.heap.size ≤ w1.heap.size := B1.size
  have z1_0 : w.heap.size < w1.heap.size := by have := hb1.size; (try simp at this); omega
  have y1_0 : w.heap.size ≤ w1.heap.size := Nat.le_of_lt z1_0
  have c1_0 := fun o => hb1.cell (p := ⟨w.heap.size, o, none⟩) (by first | omega | (simp <;> omega))
  have f1_0 := fun o => hb1.frozen (p := ⟨w.heap.size, o, none⟩) (by first | omega | (simp <;> omega))
  have z1_1 : w.heap.size + 1 < w1.heap.size := by have := hb1.size; (try simp at this); omega
  have y1_1 : w.heap.size + 1 ≤ w1.heap.size := Nat.le_of_lt z1_1
  have c1_1 := fun o => hb1.cell (p := ⟨w.heap.size + 1, o, none⟩) (by first | omega | (simp <;> omega))
  have f1_1 := fun o => hb1.frozen (p := ⟨w.heap.size + 1, o, none⟩) (by first | omega | (simp <;> omega))
  go_wp2_with fail
  refine (sample_part b m hb _).mono ?_
  rintro e w2 ⟨rfl, hb2⟩
  have B2 : Below w.heap.size w w2 := Below.then_ (by repeat (first | exact Below.refl _ _ | assumption | refine Below.setCell ?_ (by first | omega | exact Nat.le_refl _ | (simp <;> omega)) _ | refine Below.allocW ?_ _ | refine Below.drew ?_)) hb2
  have s2 : w.heap.size ≤ w2.heap.size := B2.size
  have z2_0 : w.heap.size < w2.heap.size := by have := hb2.size; (try simp at this); omega
  have y2_0 : w.heap.size ≤ w2.heap.size := Nat.le_of_lt z2_0
  have c2_0 := fun o => hb2.cell (p := ⟨w.heap.size, o, none⟩) (by first | omega | (simp <;> omega))
  have f2_0 := fun o => hb2.frozen (p := ⟨w.heap.size, o, none⟩) (by first | omega | (simp <;> omega))
  go_wp2_with fail
  exact bodyPost_ret (v := .agg #[.int .i64 n, .int .i64 m]) (by simp only [results, Try.results18]; go_simp) rfl ⟨rfl, (by repeat (first | exact Below.refl _ _ | assumption | refine Below.setCell ?_ (by first | omega | exact Nat.le_refl _ | (simp <;> omega)) _ | refine Below.allocW ?_ _ | refine Below.drew ?_))⟩

theorem sample_Of (v : Value) (n m : Int)
    (hr : ∀ w : World, Calls Try.prog 18 #[v] w fun e w' => e = .returned (.agg #[.int .i64 n, .int .i64 m]) ∧ Below w.heap.size w w') (w : World) :
    Calls Try.prog 8 #[v] w fun e w' => e = .returned (ofV n m) ∧ Below w.heap.size w w' := by
  have Hr := Lib.hid hr
  clear hr
  cases hR : rightB n m
  all_goals
    go_enter Try.func8, Try.ntmps8
    go_wp2_with fail
    refine (Hr.out _).mono ?_
    rintro e w1 ⟨rfl, hb1⟩
    have B1 : Below w.heap.size w w1 := Below.then_ (by repeat (first | exact Below.refl _ _ | assumption | refine Below.setCell ?_ (by first | omega | exact Nat.le_refl _ | (simp <;> omega)) _ | refine Below.allocW ?_ _ | refine Below.drew ?_)) hb1
    have s1 : w.heap.size ≤ w1.heap.size := B1.size
    have z1_0 : w.heap.size < w1.heap.size := by have := hb1.size; (try simp at this); omega
    have y1_0 : w.heap.size ≤ w1.heap.size := Nat.le_of_lt z1_0
    have c1_0 := fun o => hb1.cell (p := ⟨w.heap.size, o, none⟩) (by first | omega | (simp <;> omega))
    have f1_0 := fun o => hb1.frozen (p := ⟨w.heap.size, o, none⟩) (by first | omega | (simp <;> omega))
    go_wp2_with fail
    refine (sample_Right _ _ _).mono ?_
    rintro e w2 ⟨rfl, hb2⟩
    have B2 : Below w.heap.size w w2 := Below.then_ (by repeat (first | exact Below.refl _ _ | assumption | refine Below.setCell ?_ (by first | omega | exact Nat.le_refl _ | (simp <;> omega)) _ | refine Below.allocW ?_ _ | refine Below.drew ?_)) hb2
    have s2 : w.heap.size ≤ w2.heap.size := B2.size
    have z2_0 : w.heap.size < w2.heap.size := by have := hb2.size; (try simp at this); omega
    have y2_0 : w.heap.size ≤ w2.heap.size := Nat.le_of_lt z2_0
    have c2_0 := fun o => hb2.cell (p := ⟨w.heap.size, o, none⟩) (by first | omega | (simp <;> omega))
    have f2_0 := fun o => hb2.frozen (p := ⟨w.heap.size, o, none⟩) (by first | omega | (simp <;> omega))
    have z2_1 : w1.heap.size < w2.heap.size := by have := hb2.size; (try simp at this); omega
    have y2_1 : w1.heap.size ≤ w2.heap.size := Nat.le_of_lt z2_1
    have c2_1 := fun o => hb2.cell (p := ⟨w1.heap.size, o, none⟩) (by first | omega | (simp <;> omega))
    have f2_1 := fun o => hb2.frozen (p := ⟨w1.heap.size, o, none⟩) (by first | omega | (simp <;> omega))
    go_wp2_with fail
  · exact bodyPost_ret (v := .tuple #[.agg #[.int .i64 0, .int .i64 0], .bool false]) (by simp only [results, Try.results8]; go_simp) rfl ⟨by simp [ofV, hR], (by repeat (first | exact Below.refl _ _ | assumption | refine Below.setCell ?_ (by first | omega | exact Nat.le_refl _ | (simp <;> omega)) _ | refine Below.allocW ?_ _ | refine Below.drew ?_))⟩
  · exact bodyPost_ret (v := .tuple #[.agg #[.int .i64 n, .int .i64 m], .bool true]) (by simp only [results, Try.results8]; go_simp) rfl ⟨by simp [ofV, hR], (by repeat (first | exact Below.refl _ _ | assumption | refine Below.setCell ?_ (by first | omega | exact Nat.le_refl _ | (simp <;> omega)) _ | refine Below.allocW ?_ _ | refine Below.drew ?_))⟩

theorem read_other (t : TypeId) (x : Value) (h1 : ¬ t = 3) (h2 : ¬ t = 40) (h3 : ¬ t = 30) (h4 : ¬ t = 23) (w : World) :
    Calls Try.prog 18 #[.iface t x] w fun e w' => e = .returned (.agg #[.int .i64 0, .int .i64 0]) ∧ Below w.heap.size w w' := by
  go_enter Try.func18, Try.ntmps18
  go_wp2
  exact bodyPost_ret (v := .agg #[.int .i64 0, .int .i64 0]) (by simp only [results, Try.results18]; go_simp) rfl ⟨rfl, (by repeat (first | exact Below.refl _ _ | assumption | refine Below.setCell ?_ (by first | omega | exact Nat.le_refl _ | (simp <;> omega)) _ | refine Below.allocW ?_ _ | refine Below.drew ?_))⟩

theorem read_nil (w : World) :
    Calls Try.prog 18 #[.nilIface] w fun e w' => e = .returned (.agg #[.int .i64 0, .int .i64 0]) ∧ Below w.heap.size w w' := by
  go_enter Try.func18, Try.ntmps18
  go_wp2
  exact bodyPost_ret (v := .agg #[.int .i64 0, .int .i64 0]) (by simp only [results, Try.results18]; go_simp) rfl ⟨rfl, (by repeat (first | exact Below.refl _ _ | assumption | refine Below.setCell ?_ (by first | omega | exact Nat.le_refl _ | (simp <;> omega)) _ | refine Below.allocW ?_ _ | refine Below.drew ?_))⟩

theorem ref4_Of (n m : Int) (w : World) :
    Calls Try.prog 10 #[.int .i64 n, .int .i64 m] w fun e w' => e = .returned (ofV n m) ∧ Below w.heap.size w w' := by
  cases hR : rightB n m
  all_goals
    go_enter Try.func10, Try.ntmps10
    go_wp2_with fail
    refine (ref4_Right _ _ _).mono ?_
    rintro e w1 ⟨rfl, hb1⟩
    have B1 : Below w.heap.size w w1 := Below.then_ (by repeat (first | exact Below.refl _ _ | assumption | refine Below.setCell ?_ (by first | omega | exact Nat.le_refl _ | (simp <;> omega)) _ | refine Below.allocW ?_ _ | refine Below.drew ?_)) hb1
    have s1 : w.heap.size ≤ w1.heap.size := B1.size
    have z1_0 : w.heap.size < w1.heap.size := by have := hb1.size; (try simp at this); omega
    have y1_0 : w.heap.size ≤ w1.heap.size := Nat.le_of_lt z1_0
    have c1_0 := fun o => hb1.cell (p := ⟨w.heap.size, o, none⟩) (by first | omega | (simp <;> omega))
    have f1_0 := fun o => hb1.frozen (p := ⟨w.heap.size, o, none⟩) (by first | omega | (simp <;> omega))
    have z1_1 : w.heap.size + 1 < w1.heap.size := by have := hb1.size; (try simp at this); omega
    have y1_1 : w.heap.size + 1 ≤ w1.heap.size := Nat.le_of_lt z1_1
    have c1_1 := fun o => hb1.cell (p := ⟨w.heap.size + 1, o, none⟩) (by first | omega | (simp <;> omega))
    have f1_1 := fun o => hb1.frozen (p := ⟨w.heap.size + 1, o, none⟩) (by first | omega | (simp <;> omega))
    go_wp2_with fail
  · exact bodyPost_ret (v := .tuple #[.agg #[.int .i64 0, .int .i64 0], .bool false]) (by simp only [results, Try.results10]; go_simp) rfl ⟨by simp [ofV, hR], (by repeat (first | exact Below.refl _ _ | assumption | refine Below.setCell ?_ (by first | omega | exact Nat.le_refl _ | (simp <;> omega)) _ | refine Below.allocW ?_ _ | refine Below.drew ?_))⟩
  · exact bodyPost_ret (v := .tuple #[.agg #[.int .i64 n, .int .i64 m], .bool true]) (by simp only [results, Try.results10]; go_simp) rfl ⟨by simp [ofV, hR], (by repeat (first | exact Below.refl _ _ | assumption | refine Below.setCell ?_ (by first | omega | exact Nat.le_refl _ | (simp <;> omega)) _ | refine Below.allocW ?_ _ | refine Below.drew ?_))⟩

theorem sample_Exact (n : Int) (w : World) :
    Calls Try.prog 9 #[.iface 3 (.int .i64 n)] w fun e w' => e = .returned (.int .i64 n) ∧ Below w.heap.size w w' := by
  go_enter Try.func9, Try.ntmps9
  go_wp2
  go_ret
  exact ⟨rfl, (by repeat (first | exact Below.refl _ _ | assumption | refine Below.setCell ?_ (by first | omega | exact Nat.le_refl _ | (simp <;> omega)) _ | refine Below.allocW ?_ _ | refine Below.drew ?_))⟩

theorem Of_int (n : Int) (w : World) : Calls Try.prog 8 #[.iface 3 (.int .i64 n)] w fun e w' => e = .returned (ofV n 1) ∧ Below w.heap.size w w' :=
  sample_Of _ n 1 (read_int n) w
theorem Of_pair (n m : Int) (w : World) : Calls Try.prog 8 #[.iface 40 (.agg #[.int .i64 n, .int .i64 m])] w fun e w' => e = .returned (ofV n m) ∧ Below w.heap.size w w' :=
  sample_Of _ n m (read_pair n m) w
theorem Of_whole (n m : Int) (w : World) : Calls Try.prog 8 #[.iface 23 (.agg #[.int .i64 n, .int .i64 m])] w fun e w' => e = .returned (ofV n m) ∧ Below w.heap.size w w' :=
  sample_Of _ n m (read_whole n m) w
theorem Of_cplx (a b : Nat) (n m : Int) (ha : IsWhole a n) (hb : IsWhole b m) (w : World) : Calls Try.prog 8 #[.iface 30 (.complex .f64 a b)] w fun e w' => e = .returned (ofV n m) ∧ Below w.heap.size w w' :=
  sample_Of _ n m (read_cplx a b n m ha hb) w
theorem ofV_zero : ofV 0 0 = .tuple #[.agg #[.int .i64 0, .int .i64 0], .bool false] := rfl
theorem Of_other (t : TypeId) (x : Value) (h1 : ¬ t = 3) (h2 : ¬ t = 40) (h3 : ¬ t = 30) (h4 : ¬ t = 23) (w : World) :
    Calls Try.prog 8 #[.iface t x] w fun e w' => e = .returned (.tuple #[.agg #[.int .i64 0, .int .i64 0], .bool false]) ∧ Below w.heap.size w w' :=
  sample_Of _ 0 0 (read_other t x h1 h2 h3 h4) w
theorem Of_nil (w : World) : Calls Try.prog 8 #[.nilIface] w fun e w' => e = .returned (.tuple #[.agg #[.int .i64 0, .int .i64 0], .bool false]) ∧ Below w.heap.size w w' :=
  sample_Of _ 0 0 read_nil w

theorem whole5 : IsWhole 4617315517961601024 5 := by
  have h := isWhole_of 5 (by omega)
  have e : floatOfInt .f64 ((5 : Nat) : Int) = 4617315517961601024 := by decide
  rwa [e] at h
theorem whole3 : IsWhole 4613937818241073152 3 := by
  have h := isWhole_of 3 (by omega)
  have e : floatOfInt .f64 ((3 : Nat) : Int) = 4613937818241073152 := by decide
  rwa [e] at h
theorem ofV_51 : ofV 5 1 = .tuple #[.agg #[.int .i64 5, .int .i64 1], .bool true] := rfl
theorem ofV_53 : ofV 5 3 = .tuple #[.agg #[.int .i64 5, .int .i64 3], .bool true] := rfl
end Go.Proofs.Ytldgiclbhpmppaa
