/- The laws of chapter 30: the example; calls on nil; the law's own call. -/
import Derived.Test.YtclkcbhghbdffaaWaveSpoil
namespace Go.Proofs.Ytclkcbhghbdffaa
open Go.ChangeShapes Go.WideShapes Go.ChangeAt Go.RowKit
set_option linter.unusedVariables false
attribute [local go_sem ↓] Go.wp_at_zero Go.wp_at_succ

abbrev textA : ByteArray := ⟨#[97]⟩
abbrev textB : ByteArray := ⟨#[98]⟩
set_option maxRecDepth 100000 in
theorem alive30 (w : World) : Calls Try.prog 7 #[] w fun e w' => e = .returned (.bool true) ∧ Below w.heap.size w w' := by
  go_enter Try.func7, Try.ntmps7
  go_wp2_with fail
  refine (wave_New w).mono ?_
  rintro e w1 ⟨rfl, hb1, ha⟩
  have hr1 := WaveRel.refl ha
  have z1 := hb1.size
  clear ha
  go_wp2_with fail
  refine (wave_Send _ _ _ _ (4, textA) hr1.at_ (by simp [WS.small]) (by simp) z1).mono ?_
  intro e w2 hp
  obtain ⟨rfl, hr0⟩ := (show WavePost w1 w.heap.size w.heap.size ⟨1, 0, 0, 0, 0, [(4, textA)]⟩ (.int .i64 0) e w2 from hp).rel
  have hr2 := hr1.then_ hr0
  have z2 := Nat.le_trans z1 hr2.below.size
  clear hp hr0 hr1
  go_wp2_with fail
  refine (wave_Send _ _ _ _ (5, textB) hr2.at_ (by simp [WS.small]) (by simp) z2).mono ?_
  intro e w3 hp
  obtain ⟨rfl, hr0⟩ := (show WavePost w2 w.heap.size w.heap.size ⟨2, 0, 0, 0, 0, [(4, textA), (5, textB)]⟩ (.int .i64 0) e w3 from hp).rel
  have hr3 := hr2.then_ hr0
  have z3 := Nat.le_trans z1 hr3.below.size
  clear hp hr0 hr2
  go_wp2_with fail
  refine (wave_Copy _ _ _ _ 0 hr3.at_ (by simp [WS.small]) (by simp) z3).mono ?_
  intro e w4 hp
  obtain ⟨rfl, hr0⟩ := (show WavePost w3 w.heap.size w.heap.size ⟨2, 0, 0, 1, 0, [(4, textA), (5, textB), (4, textA)]⟩ (.int .i64 0) e w4 from hp).rel
  have hr4 := hr3.then_ hr0
  have z4 := Nat.le_trans z1 hr4.below.size
  clear hp hr0 hr3
  go_wp2_with fail
  refine (wave_Take _ _ _ _ 1 hr4.at_ (by simp [WS.small]) (by simp) z4).mono ?_
  intro e w5 hp
  obtain ⟨rfl, hr0⟩ := (show WavePost w4 w.heap.size w.heap.size ⟨2, 1, 0, 1, 0, [(4, textA), (4, textA)]⟩ (.tuple #[.int .i64 5, .string textB, .bool true]) e w5 from hp).rel
  have hr5 := hr4.then_ hr0
  have z5 := Nat.le_trans z1 hr5.below.size
  clear hp hr0 hr4
  go_wp2_with fail
  refine (wave_At _ _ _ _ 1 hr5.at_).mono ?_
  rintro e w6 ⟨he, hb6⟩
  obtain rfl : e = .returned (.tuple #[.int .i64 4, .string textA, .bool true]) := he
  have hr6 := hr5.more z1 hb6
  clear hr5
  go_wp2_with fail
  refine (wave_Len _ _ _ _ hr6.at_).mono ?_
  rintro e w7 ⟨he, hb7⟩
  obtain rfl : e = .returned (.int .i64 2) := he
  have hr7 := hr6.more z1 hb7
  clear hr6
  go_wp2_with fail
  go_ret
  exact ⟨rfl, hb1.trans hr7.below⟩

theorem nil_Send (w : World) (x : It) : Calls Try.prog 9 #[.pointer none, .int .i64 x.1, .string x.2] w fun e w' => e = .returned (.int .i64 1) ∧ Below w.heap.size w w' := by
  go_enter Try.func9, Try.ntmps9
  go_wp2_with fail
  go_ret
  exact ⟨rfl, (by repeat (first | with_reducible exact Below.refl _ _ | with_reducible assumption | ((with_reducible refine Below.setCell ?_ ?_ _); rotate_left; · (first | omega | exact Nat.le_refl _ | (simp <;> omega))) | (with_reducible refine Below.allocW ?_ _) | (with_reducible refine Below.drew ?_) | (with_reducible refine Below.extW ?_ _)))⟩
theorem nil_Len (w : World) : Calls Try.prog 11 #[.pointer none] w fun e w' => e = .returned (.int .i64 0) ∧ Below w.heap.size w w' := by
  go_enter Try.func11, Try.ntmps11
  go_wp2_with fail
  go_ret
  exact ⟨rfl, (by repeat (first | with_reducible exact Below.refl _ _ | with_reducible assumption | ((with_reducible refine Below.setCell ?_ ?_ _); rotate_left; · (first | omega | exact Nat.le_refl _ | (simp <;> omega))) | (with_reducible refine Below.allocW ?_ _) | (with_reducible refine Below.drew ?_) | (with_reducible refine Below.extW ?_ _)))⟩
theorem nil_has (w : World) (i : Int) : Calls Try.prog 33 #[.pointer none, .int .i64 i] w fun e w' => e = .returned (.bool false) ∧ Below w.heap.size w w' := by
  by_cases h0 : 0 ≤ i
  · go_enter Try.func33, Try.ntmps33
    go_wp2_with fail
    refine (nil_Len _).mono ?_
    rintro e w1 ⟨rfl, hb1⟩
    have B1 : Below w.heap.size w w1 := Below.then_ (by repeat (first | with_reducible exact Below.refl _ _ | with_reducible assumption | ((with_reducible refine Below.setCell ?_ ?_ _); rotate_left; · (first | omega | exact Nat.le_refl _ | (simp <;> omega))) | (with_reducible refine Below.allocW ?_ _) | (with_reducible refine Below.drew ?_) | (with_reducible refine Below.extW ?_ _))) hb1
    have s1 : w.heap.size ≤ w1.heap.size := B1.size
    go_wp2_with fail
    go_ret
    exact ⟨ret_bool (by simp; omega), (by repeat (first | with_reducible exact Below.refl _ _ | with_reducible assumption | ((with_reducible refine Below.setCell ?_ ?_ _); rotate_left; · (first | omega | exact Nat.le_refl _ | (simp <;> omega))) | (with_reducible refine Below.allocW ?_ _) | (with_reducible refine Below.drew ?_) | (with_reducible refine Below.extW ?_ _)))⟩
  · go_enter Try.func33, Try.ntmps33
    go_wp2_with fail
    go_ret
    exact ⟨rfl, (by repeat (first | with_reducible exact Below.refl _ _ | with_reducible assumption | ((with_reducible refine Below.setCell ?_ ?_ _); rotate_left; · (first | omega | exact Nat.le_refl _ | (simp <;> omega))) | (with_reducible refine Below.allocW ?_ _) | (with_reducible refine Below.drew ?_) | (with_reducible refine Below.extW ?_ _)))⟩
theorem nil_wrong (w : World) (i : Int) : Calls Try.prog 24 #[.pointer none, .int .i64 i] w fun e w' => e = .returned (.int .i64 1) ∧ Below w.heap.size w w' := by
  go_enter Try.func24, Try.ntmps24
  go_wp2_with fail
  go_ret
  exact ⟨rfl, (by repeat (first | with_reducible exact Below.refl _ _ | with_reducible assumption | ((with_reducible refine Below.setCell ?_ ?_ _); rotate_left; · (first | omega | exact Nat.le_refl _ | (simp <;> omega))) | (with_reducible refine Below.allocW ?_ _) | (with_reducible refine Below.drew ?_) | (with_reducible refine Below.extW ?_ _)))⟩
theorem nil_At (w : World) (i : Int) : Calls Try.prog 19 #[.pointer none, .int .i64 i] w fun e w' => e = .returned (.tuple #[.int .i64 0, .string ⟨#[]⟩, .bool false]) ∧ Below w.heap.size w w' := by
  go_enter Try.func19, Try.ntmps19
  go_wp2_with fail
  refine (nil_has _ i).mono ?_
  rintro e w1 ⟨rfl, hb1⟩
  have B1 : Below w.heap.size w w1 := Below.then_ (by repeat (first | with_reducible exact Below.refl _ _ | with_reducible assumption | ((with_reducible refine Below.setCell ?_ ?_ _); rotate_left; · (first | omega | exact Nat.le_refl _ | (simp <;> omega))) | (with_reducible refine Below.allocW ?_ _) | (with_reducible refine Below.drew ?_) | (with_reducible refine Below.extW ?_ _))) hb1
  have s1 : w.heap.size ≤ w1.heap.size := B1.size
  go_wp2_with fail
  go_ret3
  exact ⟨rfl, (by repeat (first | with_reducible exact Below.refl _ _ | with_reducible assumption | ((with_reducible refine Below.setCell ?_ ?_ _); rotate_left; · (first | omega | exact Nat.le_refl _ | (simp <;> omega))) | (with_reducible refine Below.allocW ?_ _) | (with_reducible refine Below.drew ?_) | (with_reducible refine Below.extW ?_ _)))⟩
theorem nil_Take (w : World) (i : Int) : Calls Try.prog 20 #[.pointer none, .int .i64 i] w fun e w' => e = .returned (.tuple #[.int .i64 0, .string ⟨#[]⟩, .bool false]) ∧ Below w.heap.size w w' := by
  go_enter Try.func20, Try.ntmps20
  go_wp2_with fail
  refine (nil_At _ i).mono ?_
  rintro e w1 ⟨rfl, hb1⟩
  have B1 : Below w.heap.size w w1 := Below.then_ (by repeat (first | with_reducible exact Below.refl _ _ | with_reducible assumption | ((with_reducible refine Below.setCell ?_ ?_ _); rotate_left; · (first | omega | exact Nat.le_refl _ | (simp <;> omega))) | (with_reducible refine Below.allocW ?_ _) | (with_reducible refine Below.drew ?_) | (with_reducible refine Below.extW ?_ _))) hb1
  have s1 : w.heap.size ≤ w1.heap.size := B1.size
  go_wp2_with fail
  go_ret3
  exact ⟨rfl, (by repeat (first | with_reducible exact Below.refl _ _ | with_reducible assumption | ((with_reducible refine Below.setCell ?_ ?_ _); rotate_left; · (first | omega | exact Nat.le_refl _ | (simp <;> omega))) | (with_reducible refine Below.allocW ?_ _) | (with_reducible refine Below.drew ?_) | (with_reducible refine Below.extW ?_ _)))⟩
theorem nil_Lose (w : World) (i : Int) : Calls Try.prog 10 #[.pointer none, .int .i64 i] w fun e w' => e = .returned (.int .i64 1) ∧ Below w.heap.size w w' := by
  go_enter Try.func10, Try.ntmps10
  go_wp2_with fail
  refine (nil_wrong _ i).mono ?_
  rintro e w1 ⟨rfl, hb1⟩
  have B1 : Below w.heap.size w w1 := Below.then_ (by repeat (first | with_reducible exact Below.refl _ _ | with_reducible assumption | ((with_reducible refine Below.setCell ?_ ?_ _); rotate_left; · (first | omega | exact Nat.le_refl _ | (simp <;> omega))) | (with_reducible refine Below.allocW ?_ _) | (with_reducible refine Below.drew ?_) | (with_reducible refine Below.extW ?_ _))) hb1
  have s1 : w.heap.size ≤ w1.heap.size := B1.size
  go_wp2_with fail
  go_ret
  exact ⟨rfl, (by repeat (first | with_reducible exact Below.refl _ _ | with_reducible assumption | ((with_reducible refine Below.setCell ?_ ?_ _); rotate_left; · (first | omega | exact Nat.le_refl _ | (simp <;> omega))) | (with_reducible refine Below.allocW ?_ _) | (with_reducible refine Below.drew ?_) | (with_reducible refine Below.extW ?_ _)))⟩
theorem nil_Copy (w : World) (i : Int) : Calls Try.prog 12 #[.pointer none, .int .i64 i] w fun e w' => e = .returned (.int .i64 1) ∧ Below w.heap.size w w' := by
  go_enter Try.func12, Try.ntmps12
  go_wp2_with fail
  refine (nil_wrong _ i).mono ?_
  rintro e w1 ⟨rfl, hb1⟩
  have B1 : Below w.heap.size w w1 := Below.then_ (by repeat (first | with_reducible exact Below.refl _ _ | with_reducible assumption | ((with_reducible refine Below.setCell ?_ ?_ _); rotate_left; · (first | omega | exact Nat.le_refl _ | (simp <;> omega))) | (with_reducible refine Below.allocW ?_ _) | (with_reducible refine Below.drew ?_) | (with_reducible refine Below.extW ?_ _))) hb1
  have s1 : w.heap.size ≤ w1.heap.size := B1.size
  go_wp2_with fail
  go_ret
  exact ⟨rfl, (by repeat (first | with_reducible exact Below.refl _ _ | with_reducible assumption | ((with_reducible refine Below.setCell ?_ ?_ _); rotate_left; · (first | omega | exact Nat.le_refl _ | (simp <;> omega))) | (with_reducible refine Below.allocW ?_ _) | (with_reducible refine Below.drew ?_) | (with_reducible refine Below.extW ?_ _)))⟩
theorem nil_Spoil (w : World) (i a b : Int) : Calls Try.prog 32 #[.pointer none, .int .i64 i, .int .i64 a, .int .u8 b] w fun e w' => e = .returned (.int .i64 1) ∧ Below w.heap.size w w' := by
  go_enter Try.func32, Try.ntmps32
  go_wp2_with fail
  refine (nil_wrong _ i).mono ?_
  rintro e w1 ⟨rfl, hb1⟩
  have B1 : Below w.heap.size w w1 := Below.then_ (by repeat (first | with_reducible exact Below.refl _ _ | with_reducible assumption | ((with_reducible refine Below.setCell ?_ ?_ _); rotate_left; · (first | omega | exact Nat.le_refl _ | (simp <;> omega))) | (with_reducible refine Below.allocW ?_ _) | (with_reducible refine Below.drew ?_) | (with_reducible refine Below.extW ?_ _))) hb1
  have s1 : w.heap.size ≤ w1.heap.size := B1.size
  go_wp2_with fail
  go_ret
  exact ⟨rfl, (by repeat (first | with_reducible exact Below.refl _ _ | with_reducible assumption | ((with_reducible refine Below.setCell ?_ ?_ _); rotate_left; · (first | omega | exact Nat.le_refl _ | (simp <;> omega))) | (with_reducible refine Below.allocW ?_ _) | (with_reducible refine Below.drew ?_) | (with_reducible refine Below.extW ?_ _)))⟩
theorem nil_Count (w : World) : Calls Try.prog 18 #[.pointer none] w fun e w' => e = .returned (.agg #[.int .i64 0, .int .i64 0, .int .i64 0, .int .i64 0, .int .i64 0]) ∧ Below w.heap.size w w' := by
  go_enter Try.func18, Try.ntmps18
  go_wp2_with fail
  exact bodyPost_ret (v := .agg #[.int .i64 0, .int .i64 0, .int .i64 0, .int .i64 0, .int .i64 0]) (by simp only [results, Try.results18]; go_simp) rfl ⟨rfl, (by repeat (first | with_reducible exact Below.refl _ _ | with_reducible assumption | ((with_reducible refine Below.setCell ?_ ?_ _); rotate_left; · (first | omega | exact Nat.le_refl _ | (simp <;> omega))) | (with_reducible refine Below.allocW ?_ _) | (with_reducible refine Below.drew ?_) | (with_reducible refine Below.extW ?_ _)))⟩

/-- A call, as the document lists it. -/
structure OpS where
  kind : Int
  i : Int
  to_ : Int
  at_ : Int
  text : ByteArray
  by_ : Int
/-- A call's numbers are within its types. -/
def OpS.ok (o : OpS) : Prop := 0 ≤ o.by_ ∧ o.by_ ≤ 255 ∧ o.text.size ≤ maxLen
abbrev opV (o : OpS) : Value := .agg #[.int .i64 o.kind, .int .i64 o.i, .int .i64 o.to_, .int .i64 o.at_, .string o.text, .int .u8 o.by_]
abbrev itV (x : It) : Value := .agg #[.int .i64 x.1, .string x.2]
def it0 : It := (0, ⟨#[]⟩)
/-- What a call does. -/
def WS.do_ (s : WS) (o : OpS) : WS × It × Nat :=
  if o.kind = 0 then ((s.send (o.to_, o.text)).1, it0, (s.send (o.to_, o.text)).2)
  else if o.kind = 1 then (s.take o.i, ((s.at_ o.i).1, (s.at_ o.i).2.1), if (s.at_ o.i).2.2 = true then 1 else 0)
  else if o.kind = 2 then ((s.lose o.i).1, it0, (s.lose o.i).2)
  else if o.kind = 4 then ((s.spoil o.i o.at_ o.by_).1, it0, (s.spoil o.i o.at_ o.by_).2)
  else ((s.copy o.i).1, it0, (s.copy o.i).2)


set_option maxRecDepth 100000 in
theorem nil_do (w : World) (o : OpS) : Calls Try.prog 15 #[.pointer none, opV o] w fun e w' => e = .returned (.tuple #[itV it0, .int .i64 (if o.kind = 1 then 0 else 1)]) ∧ Below w.heap.size w w' := by
  obtain ⟨K, I, TO, AT, TX, BY⟩ := o
  by_cases h1 : K = 1
  · subst h1
    go_enter Try.func15, Try.ntmps15
    go_wp2_with fail
    refine (nil_Take _ I).mono ?_
    rintro e w1 ⟨rfl, hb1⟩
    have B1 : Below w.heap.size w w1 := Below.then_ (by repeat (first | with_reducible exact Below.refl _ _ | with_reducible assumption | ((with_reducible refine Below.setCell ?_ ?_ _); rotate_left; · (first | omega | exact Nat.le_refl _ | (simp <;> omega))) | (with_reducible refine Below.allocW ?_ _) | (with_reducible refine Below.drew ?_) | (with_reducible refine Below.extW ?_ _))) hb1
    have s1 : w.heap.size ≤ w1.heap.size := B1.size
    have z1_0 : w.heap.size < w1.heap.size := by have := hb1.size; (try simp at this); omega
    have y1_0 : w.heap.size ≤ w1.heap.size := Nat.le_of_lt z1_0
    have c1_0 := fun o => hb1.cell (p := ⟨w.heap.size, o, none⟩) (by first | omega | (simp <;> omega))
    have f1_0 := fun o => hb1.frozen (p := ⟨w.heap.size, o, none⟩) (by first | omega | (simp <;> omega))
    have z1_1 : w.heap.size + 1 < w1.heap.size := by have := hb1.size; (try simp at this); omega
    have y1_1 : w.heap.size + 1 ≤ w1.heap.size := Nat.le_of_lt z1_1
    have c1_1 := fun o => hb1.cell (p := ⟨w.heap.size + 1, o, none⟩) (by first | omega | (simp <;> omega))
    have f1_1 := fun o => hb1.frozen (p := ⟨w.heap.size + 1, o, none⟩) (by first | omega | (simp <;> omega))
    go_wp2_with fail
    exact bodyPost_ret (v := .tuple #[.agg #[.int .i64 0, .string ⟨#[]⟩], .int .i64 0]) (by simp only [results, Try.results15]; go_simp) rfl ⟨rfl, (by repeat (first | with_reducible exact Below.refl _ _ | with_reducible assumption | ((with_reducible refine Below.setCell ?_ ?_ _); rotate_left; · (first | omega | exact Nat.le_refl _ | (simp <;> omega))) | (with_reducible refine Below.allocW ?_ _) | (with_reducible refine Below.drew ?_) | (with_reducible refine Below.extW ?_ _)))⟩
  · have hE : (Ending.returned (.tuple #[itV it0, .int .i64 1])) = .returned (.tuple #[itV it0, .int .i64 (if K = 1 then 0 else 1)]) := by rw [if_neg h1]
    have HE := Lib.hid hE
    clear hE
    by_cases h0 : K = 0
    · subst h0
      go_enter Try.func15, Try.ntmps15
      go_wp2_with fail
      refine (nil_Send _ (TO, TX)).mono ?_
      rintro e w1 ⟨rfl, hb1⟩
      have B1 : Below w.heap.size w w1 := Below.then_ (by repeat (first | with_reducible exact Below.refl _ _ | with_reducible assumption | ((with_reducible refine Below.setCell ?_ ?_ _); rotate_left; · (first | omega | exact Nat.le_refl _ | (simp <;> omega))) | (with_reducible refine Below.allocW ?_ _) | (with_reducible refine Below.drew ?_) | (with_reducible refine Below.extW ?_ _))) hb1
      have s1 : w.heap.size ≤ w1.heap.size := B1.size
      have z1_0 : w.heap.size < w1.heap.size := by have := hb1.size; (try simp at this); omega
      have y1_0 : w.heap.size ≤ w1.heap.size := Nat.le_of_lt z1_0
      have c1_0 := fun o => hb1.cell (p := ⟨w.heap.size, o, none⟩) (by first | omega | (simp <;> omega))
      have f1_0 := fun o => hb1.frozen (p := ⟨w.heap.size, o, none⟩) (by first | omega | (simp <;> omega))
      have z1_1 : w.heap.size + 1 < w1.heap.size := by have := hb1.size; (try simp at this); omega
      have y1_1 : w.heap.size + 1 ≤ w1.heap.size := Nat.le_of_lt z1_1
      have c1_1 := fun o => hb1.cell (p := ⟨w.heap.size + 1, o, none⟩) (by first | omega | (simp <;> omega))
      have f1_1 := fun o => hb1.frozen (p := ⟨w.heap.size + 1, o, none⟩) (by first | omega | (simp <;> omega))
      go_wp2_with fail
      exact bodyPost_ret (v := .tuple #[.agg #[.int .i64 0, .string ⟨#[]⟩], .int .i64 1]) (by simp only [results, Try.results15]; go_simp) rfl ⟨by first | exact HE.out | rfl, (by repeat (first | with_reducible exact Below.refl _ _ | with_reducible assumption | ((with_reducible refine Below.setCell ?_ ?_ _); rotate_left; · (first | omega | exact Nat.le_refl _ | (simp <;> omega))) | (with_reducible refine Below.allocW ?_ _) | (with_reducible refine Below.drew ?_) | (with_reducible refine Below.extW ?_ _)))⟩
    · by_cases h2 : K = 2
      · subst h2
        go_enter Try.func15, Try.ntmps15
        go_wp2_with fail
        refine (nil_Lose _ I).mono ?_
        rintro e w1 ⟨rfl, hb1⟩
        have B1 : Below w.heap.size w w1 := Below.then_ (by repeat (first | with_reducible exact Below.refl _ _ | with_reducible assumption | ((with_reducible refine Below.setCell ?_ ?_ _); rotate_left; · (first | omega | exact Nat.le_refl _ | (simp <;> omega))) | (with_reducible refine Below.allocW ?_ _) | (with_reducible refine Below.drew ?_) | (with_reducible refine Below.extW ?_ _))) hb1
        have s1 : w.heap.size ≤ w1.heap.size := B1.size
        have z1_0 : w.heap.size < w1.heap.size := by have := hb1.size; (try simp at this); omega
        have y1_0 : w.heap.size ≤ w1.heap.size := Nat.le_of_lt z1_0
        have c1_0 := fun o => hb1.cell (p := ⟨w.heap.size, o, none⟩) (by first | omega | (simp <;> omega))
        have f1_0 := fun o => hb1.frozen (p := ⟨w.heap.size, o, none⟩) (by first | omega | (simp <;> omega))
        have z1_1 : w.heap.size + 1 < w1.heap.size := by have := hb1.size; (try simp at this); omega
        have y1_1 : w.heap.size + 1 ≤ w1.heap.size := Nat.le_of_lt z1_1
        have c1_1 := fun o => hb1.cell (p := ⟨w.heap.size + 1, o, none⟩) (by first | omega | (simp <;> omega))
        have f1_1 := fun o => hb1.frozen (p := ⟨w.heap.size + 1, o, none⟩) (by first | omega | (simp <;> omega))
        go_wp2_with fail
        exact bodyPost_ret (v := .tuple #[.agg #[.int .i64 0, .string ⟨#[]⟩], .int .i64 1]) (by simp only [results, Try.results15]; go_simp) rfl ⟨by first | exact HE.out | rfl, (by repeat (first | with_reducible exact Below.refl _ _ | with_reducible assumption | ((with_reducible refine Below.setCell ?_ ?_ _); rotate_left; · (first | omega | exact Nat.le_refl _ | (simp <;> omega))) | (with_reducible refine Below.allocW ?_ _) | (with_reducible refine Below.drew ?_) | (with_reducible refine Below.extW ?_ _)))⟩
      · by_cases h4 : K = 4
        · subst h4
          go_enter Try.func15, Try.ntmps15
          go_wp2_with fail
          refine (nil_Spoil _ I AT BY).mono ?_
          rintro e w1 ⟨rfl, hb1⟩
          have B1 : Below w.heap.size w w1 := Below.then_ (by repeat (first | with_reducible exact Below.refl _ _ | with_reducible assumption | ((with_reducible refine Below.setCell ?_ ?_ _); rotate_left; · (first | omega | exact Nat.le_refl _ | (simp <;> omega))) | (with_reducible refine Below.allocW ?_ _) | (with_reducible refine Below.drew ?_) | (with_reducible refine Below.extW ?_ _))) hb1
          have s1 : w.heap.size ≤ w1.heap.size := B1.size
          have z1_0 : w.heap.size < w1.heap.size := by have := hb1.size; (try simp at this); omega
          have y1_0 : w.heap.size ≤ w1.heap.size := Nat.le_of_lt z1_0
          have c1_0 := fun o => hb1.cell (p := ⟨w.heap.size, o, none⟩) (by first | omega | (simp <;> omega))
          have f1_0 := fun o => hb1.frozen (p := ⟨w.heap.size, o, none⟩) (by first | omega | (simp <;> omega))
          have z1_1 : w.heap.size + 1 < w1.heap.size := by have := hb1.size; (try simp at this); omega
          have y1_1 : w.heap.size + 1 ≤ w1.heap.size := Nat.le_of_lt z1_1
          have c1_1 := fun o => hb1.cell (p := ⟨w.heap.size + 1, o, none⟩) (by first | omega | (simp <;> omega))
          have f1_1 := fun o => hb1.frozen (p := ⟨w.heap.size + 1, o, none⟩) (by first | omega | (simp <;> omega))
          go_wp2_with fail
          exact bodyPost_ret (v := .tuple #[.agg #[.int .i64 0, .string ⟨#[]⟩], .int .i64 1]) (by simp only [results, Try.results15]; go_simp) rfl ⟨by first | exact HE.out | rfl, (by repeat (first | with_reducible exact Below.refl _ _ | with_reducible assumption | ((with_reducible refine Below.setCell ?_ ?_ _); rotate_left; · (first | omega | exact Nat.le_refl _ | (simp <;> omega))) | (with_reducible refine Below.allocW ?_ _) | (with_reducible refine Below.drew ?_) | (with_reducible refine Below.extW ?_ _)))⟩
        · go_enter Try.func15, Try.ntmps15
          go_wp2_with fail
          refine (nil_Copy _ I).mono ?_
          rintro e w1 ⟨rfl, hb1⟩
          have B1 : Below w.heap.size w w1 := Below.then_ (by repeat (first | with_reducible exact Below.refl _ _ | with_reducible assumption | ((with_reducible refine Below.setCell ?_ ?_ _); rotate_left; · (first | omega | exact Nat.le_refl _ | (simp <;> omega))) | (with_reducible refine Below.allocW ?_ _) | (with_reducible refine Below.drew ?_) | (with_reducible refine Below.extW ?_ _))) hb1
          have s1 : w.heap.size ≤ w1.heap.size := B1.size
          have z1_0 : w.heap.size < w1.heap.size := by have := hb1.size; (try simp at this); omega
          have y1_0 : w.heap.size ≤ w1.heap.size := Nat.le_of_lt z1_0
          have c1_0 := fun o => hb1.cell (p := ⟨w.heap.size, o, none⟩) (by first | omega | (simp <;> omega))
          have f1_0 := fun o => hb1.frozen (p := ⟨w.heap.size, o, none⟩) (by first | omega | (simp <;> omega))
          have z1_1 : w.heap.size + 1 < w1.heap.size := by have := hb1.size; (try simp at this); omega
          have y1_1 : w.heap.size + 1 ≤ w1.heap.size := Nat.le_of_lt z1_1
          have c1_1 := fun o => hb1.cell (p := ⟨w.heap.size + 1, o, none⟩) (by first | omega | (simp <;> omega))
          have f1_1 := fun o => hb1.frozen (p := ⟨w.heap.size + 1, o, none⟩) (by first | omega | (simp <;> omega))
          go_wp2_with fail
          exact bodyPost_ret (v := .tuple #[.agg #[.int .i64 0, .string ⟨#[]⟩], .int .i64 1]) (by simp only [results, Try.results15]; go_simp) rfl ⟨by first | exact HE.out | rfl, (by repeat (first | with_reducible exact Below.refl _ _ | with_reducible assumption | ((with_reducible refine Below.setCell ?_ ?_ _); rotate_left; · (first | omega | exact Nat.le_refl _ | (simp <;> omega))) | (with_reducible refine Below.allocW ?_ _) | (with_reducible refine Below.drew ?_) | (with_reducible refine Below.extW ?_ _)))⟩

set_option maxRecDepth 100000 in
theorem law_WaveNobody (o : OpS) (w : World) : Calls Try.prog 6 #[opV o] w fun e w' => e = .returned (.bool true) ∧ Below w.heap.size w w' := by
  obtain ⟨K, I, TO, AT, TX, BY⟩ := o
  by_cases h1 : K = 1
  · subst h1
    go_enter Try.func6, Try.ntmps6
    go_wp2_with fail
    refine (nil_do _ ⟨1, I, TO, AT, TX, BY⟩).mono ?_
    rintro e w1 ⟨rfl, hb1⟩
    have B1 : Below w.heap.size w w1 := Below.then_ (by repeat (first | with_reducible exact Below.refl _ _ | with_reducible assumption | ((with_reducible refine Below.setCell ?_ ?_ _); rotate_left; · (first | omega | exact Nat.le_refl _ | (simp <;> omega))) | (with_reducible refine Below.allocW ?_ _) | (with_reducible refine Below.drew ?_) | (with_reducible refine Below.extW ?_ _))) hb1
    have s1 : w.heap.size ≤ w1.heap.size := B1.size
    have z1_0 : w.heap.size < w1.heap.size := by have := hb1.size; (try simp at this); omega
    have y1_0 : w.heap.size ≤ w1.heap.size := Nat.le_of_lt z1_0
    have c1_0 := fun o => hb1.cell (p := ⟨w.heap.size, o, none⟩) (by first | omega | (simp <;> omega))
    have f1_0 := fun o => hb1.frozen (p := ⟨w.heap.size, o, none⟩) (by first | omega | (simp <;> omega))
    rw [if_pos rfl]
    unfold itV it0
    go_wp2_with fail
    refine (nil_At _ I).mono ?_
    rintro e w2 ⟨rfl, hb2⟩
    have B2 : Below w.heap.size w w2 := Below.then_ (by repeat (first | with_reducible exact Below.refl _ _ | with_reducible assumption | ((with_reducible refine Below.setCell ?_ ?_ _); rotate_left; · (first | omega | exact Nat.le_refl _ | (simp <;> omega))) | (with_reducible refine Below.allocW ?_ _) | (with_reducible refine Below.drew ?_) | (with_reducible refine Below.extW ?_ _))) hb2
    have s2 : w.heap.size ≤ w2.heap.size := B2.size
    have z2_0 : w.heap.size < w2.heap.size := by have := hb2.size; (try simp at this); omega
    have y2_0 : w.heap.size ≤ w2.heap.size := Nat.le_of_lt z2_0
    have c2_0 := fun o => hb2.cell (p := ⟨w.heap.size, o, none⟩) (by first | omega | (simp <;> omega))
    have f2_0 := fun o => hb2.frozen (p := ⟨w.heap.size, o, none⟩) (by first | omega | (simp <;> omega))
    have z2_1 : w1.heap.size < w2.heap.size := by have := hb2.size; (try simp at this); omega
    have y2_1 : w1.heap.size ≤ w2.heap.size := Nat.le_of_lt z2_1
    have c2_1 := fun o => hb2.cell (p := ⟨w1.heap.size, o, none⟩) (by first | omega | (simp <;> omega))
    have f2_1 := fun o => hb2.frozen (p := ⟨w1.heap.size, o, none⟩) (by first | omega | (simp <;> omega))
    go_wp2_with fail
    refine (nil_Len _).mono ?_
    rintro e w3 ⟨rfl, hb3⟩
    have B3 : Below w.heap.size w w3 := Below.then_ (by repeat (first | with_reducible exact Below.refl _ _ | with_reducible assumption | ((with_reducible refine Below.setCell ?_ ?_ _); rotate_left; · (first | omega | exact Nat.le_refl _ | (simp <;> omega))) | (with_reducible refine Below.allocW ?_ _) | (with_reducible refine Below.drew ?_) | (with_reducible refine Below.extW ?_ _))) hb3
    have s3 : w.heap.size ≤ w3.heap.size := B3.size
    have z3_0 : w.heap.size < w3.heap.size := by have := hb3.size; (try simp at this); omega
    have y3_0 : w.heap.size ≤ w3.heap.size := Nat.le_of_lt z3_0
    have c3_0 := fun o => hb3.cell (p := ⟨w.heap.size, o, none⟩) (by first | omega | (simp <;> omega))
    have f3_0 := fun o => hb3.frozen (p := ⟨w.heap.size, o, none⟩) (by first | omega | (simp <;> omega))
    go_wp2_with fail
    refine (nil_Count _).mono ?_
    rintro e w4 ⟨rfl, hb4⟩
    have B4 : Below w.heap.size w w4 := Below.then_ (by repeat (first | with_reducible exact Below.refl _ _ | with_reducible assumption | ((with_reducible refine Below.setCell ?_ ?_ _); rotate_left; · (first | omega | exact Nat.le_refl _ | (simp <;> omega))) | (with_reducible refine Below.allocW ?_ _) | (with_reducible refine Below.drew ?_) | (with_reducible refine Below.extW ?_ _))) hb4
    have s4 : w.heap.size ≤ w4.heap.size := B4.size
    have z4_0 : w.heap.size < w4.heap.size := by have := hb4.size; (try simp at this); omega
    have y4_0 : w.heap.size ≤ w4.heap.size := Nat.le_of_lt z4_0
    have c4_0 := fun o => hb4.cell (p := ⟨w.heap.size, o, none⟩) (by first | omega | (simp <;> omega))
    have f4_0 := fun o => hb4.frozen (p := ⟨w.heap.size, o, none⟩) (by first | omega | (simp <;> omega))
    go_wp2_with fail
    refine (alive30 _).mono ?_
    rintro e w5 ⟨rfl, hb5⟩
    have B5 : Below w.heap.size w w5 := Below.then_ (by repeat (first | with_reducible exact Below.refl _ _ | with_reducible assumption | ((with_reducible refine Below.setCell ?_ ?_ _); rotate_left; · (first | omega | exact Nat.le_refl _ | (simp <;> omega))) | (with_reducible refine Below.allocW ?_ _) | (with_reducible refine Below.drew ?_) | (with_reducible refine Below.extW ?_ _))) hb5
    have s5 : w.heap.size ≤ w5.heap.size := B5.size
    have z5_0 : w.heap.size < w5.heap.size := by have := hb5.size; (try simp at this); omega
    have y5_0 : w.heap.size ≤ w5.heap.size := Nat.le_of_lt z5_0
    have c5_0 := fun o => hb5.cell (p := ⟨w.heap.size, o, none⟩) (by first | omega | (simp <;> omega))
    have f5_0 := fun o => hb5.frozen (p := ⟨w.heap.size, o, none⟩) (by first | omega | (simp <;> omega))
    go_wp2_with fail
    go_ret
    exact ⟨rfl, (by repeat (first | with_reducible exact Below.refl _ _ | with_reducible assumption | ((with_reducible refine Below.setCell ?_ ?_ _); rotate_left; · (first | omega | exact Nat.le_refl _ | (simp <;> omega))) | (with_reducible refine Below.allocW ?_ _) | (with_reducible refine Below.drew ?_) | (with_reducible refine Below.extW ?_ _)))⟩
  · go_enter Try.func6, Try.ntmps6
    go_wp2_with fail
    refine (nil_do _ ⟨K, I, TO, AT, TX, BY⟩).mono ?_
    rintro e w1 ⟨rfl, hb1⟩
    have B1 : Below w.heap.size w w1 := Below.then_ (by repeat (first | with_reducible exact Below.refl _ _ | with_reducible assumption | ((with_reducible refine Below.setCell ?_ ?_ _); rotate_left; · (first | omega | exact Nat.le_refl _ | (simp <;> omega))) | (with_reducible refine Below.allocW ?_ _) | (with_reducible refine Below.drew ?_) | (with_reducible refine Below.extW ?_ _))) hb1
    have s1 : w.heap.size ≤ w1.heap.size := B1.size
    have z1_0 : w.heap.size < w1.heap.size := by have := hb1.size; (try simp at this); omega
    have y1_0 : w.heap.size ≤ w1.heap.size := Nat.le_of_lt z1_0
    have c1_0 := fun o => hb1.cell (p := ⟨w.heap.size, o, none⟩) (by first | omega | (simp <;> omega))
    have f1_0 := fun o => hb1.frozen (p := ⟨w.heap.size, o, none⟩) (by first | omega | (simp <;> omega))
    rw [if_neg h1]
    unfold itV it0
    go_wp2_with fail
    refine (nil_At _ I).mono ?_
    rintro e w2 ⟨rfl, hb2⟩
    have B2 : Below w.heap.size w w2 := Below.then_ (by repeat (first | with_reducible exact Below.refl _ _ | with_reducible assumption | ((with_reducible refine Below.setCell ?_ ?_ _); rotate_left; · (first | omega | exact Nat.le_refl _ | (simp <;> omega))) | (with_reducible refine Below.allocW ?_ _) | (with_reducible refine Below.drew ?_) | (with_reducible refine Below.extW ?_ _))) hb2
    have s2 : w.heap.size ≤ w2.heap.size := B2.size
    have z2_0 : w.heap.size < w2.heap.size := by have := hb2.size; (try simp at this); omega
    have y2_0 : w.heap.size ≤ w2.heap.size := Nat.le_of_lt z2_0
    have c2_0 := fun o => hb2.cell (p := ⟨w.heap.size, o, none⟩) (by first | omega | (simp <;> omega))
    have f2_0 := fun o => hb2.frozen (p := ⟨w.heap.size, o, none⟩) (by first | omega | (simp <;> omega))
    have z2_1 : w1.heap.size < w2.heap.size := by have := hb2.size; (try simp at this); omega
    have y2_1 : w1.heap.size ≤ w2.heap.size := Nat.le_of_lt z2_1
    have c2_1 := fun o => hb2.cell (p := ⟨w1.heap.size, o, none⟩) (by first | omega | (simp <;> omega))
    have f2_1 := fun o => hb2.frozen (p := ⟨w1.heap.size, o, none⟩) (by first | omega | (simp <;> omega))
    go_wp2_with fail
    refine (nil_Len _).mono ?_
    rintro e w3 ⟨rfl, hb3⟩
    have B3 : Below w.heap.size w w3 := Below.then_ (by repeat (first | with_reducible exact Below.refl _ _ | with_reducible assumption | ((with_reducible refine Below.setCell ?_ ?_ _); rotate_left; · (first | omega | exact Nat.le_refl _ | (simp <;> omega))) | (with_reducible refine Below.allocW ?_ _) | (with_reducible refine Below.drew ?_) | (with_reducible refine Below.extW ?_ _))) hb3
    have s3 : w.heap.size ≤ w3.heap.size := B3.size
    have z3_0 : w.heap.size < w3.heap.size := by have := hb3.size; (try simp at this); omega
    have y3_0 : w.heap.size ≤ w3.heap.size := Nat.le_of_lt z3_0
    have c3_0 := fun o => hb3.cell (p := ⟨w.heap.size, o, none⟩) (by first | omega | (simp <;> omega))
    have f3_0 := fun o => hb3.frozen (p := ⟨w.heap.size, o, none⟩) (by first | omega | (simp <;> omega))
    go_wp2_with fail
    refine (nil_Count _).mono ?_
    rintro e w4 ⟨rfl, hb4⟩
    have B4 : Below w.heap.size w w4 := Below.then_ (by repeat (first | with_reducible exact Below.refl _ _ | with_reducible assumption | ((with_reducible refine Below.setCell ?_ ?_ _); rotate_left; · (first | omega | exact Nat.le_refl _ | (simp <;> omega))) | (with_reducible refine Below.allocW ?_ _) | (with_reducible refine Below.drew ?_) | (with_reducible refine Below.extW ?_ _))) hb4
    have s4 : w.heap.size ≤ w4.heap.size := B4.size
    have z4_0 : w.heap.size < w4.heap.size := by have := hb4.size; (try simp at this); omega
    have y4_0 : w.heap.size ≤ w4.heap.size := Nat.le_of_lt z4_0
    have c4_0 := fun o => hb4.cell (p := ⟨w.heap.size, o, none⟩) (by first | omega | (simp <;> omega))
    have f4_0 := fun o => hb4.frozen (p := ⟨w.heap.size, o, none⟩) (by first | omega | (simp <;> omega))
    go_wp2_with fail
    refine (alive30 _).mono ?_
    rintro e w5 ⟨rfl, hb5⟩
    have B5 : Below w.heap.size w w5 := Below.then_ (by repeat (first | with_reducible exact Below.refl _ _ | with_reducible assumption | ((with_reducible refine Below.setCell ?_ ?_ _); rotate_left; · (first | omega | exact Nat.le_refl _ | (simp <;> omega))) | (with_reducible refine Below.allocW ?_ _) | (with_reducible refine Below.drew ?_) | (with_reducible refine Below.extW ?_ _))) hb5
    have s5 : w.heap.size ≤ w5.heap.size := B5.size
    have z5_0 : w.heap.size < w5.heap.size := by have := hb5.size; (try simp at this); omega
    have y5_0 : w.heap.size ≤ w5.heap.size := Nat.le_of_lt z5_0
    have c5_0 := fun o => hb5.cell (p := ⟨w.heap.size, o, none⟩) (by first | omega | (simp <;> omega))
    have f5_0 := fun o => hb5.frozen (p := ⟨w.heap.size, o, none⟩) (by first | omega | (simp <;> omega))
    go_wp2_with fail
    go_ret
    exact ⟨rfl, (by repeat (first | with_reducible exact Below.refl _ _ | with_reducible assumption | ((with_reducible refine Below.setCell ?_ ?_ _); rotate_left; · (first | omega | exact Nat.le_refl _ | (simp <;> omega))) | (with_reducible refine Below.allocW ?_ _) | (with_reducible refine Below.drew ?_) | (with_reducible refine Below.extW ?_ _)))⟩
end Go.Proofs.Ytclkcbhghbdffaa
