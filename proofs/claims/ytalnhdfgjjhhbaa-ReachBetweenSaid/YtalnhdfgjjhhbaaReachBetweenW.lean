/- Chapter 18: what weighs between two numbers: the law. -/
import Derived.Test.YtalnhdfgjjhhbaaReachRef2
import Derived.Laws.IdiomArrays
import Derived.Test.YtalnhdfgjjhhbaaRankTellsW
namespace Go.Proofs.Ytalnhdfgjjhhbaa
open Go.ChangeShapes Go.WideShapes Go.ChangeAt Go.RowKit
set_option linter.unusedVariables false
set_option maxRecDepth 100000

theorem open_Ask3 {H : Type} {enc : TypeId × Value → H} {w : World} {base : Nat} {spare : Nat → Bool} {held : Bool} {r : Reach} {b0 : Nat} {v : Value} {d : DataW H} {p : List MemPlace}
    (hv : Value.okWide Try.prog w r b0 43 v) (h : DataW.Trod enc Try.prog w base spare held 43 v d p) :
    ∃ (a b c : Int), v = .agg #[.int .i64 a, .int .i64 b, .int .i64 c] ∧ i64 a ∧ i64 b ∧ i64 c := by
  obtain ⟨cs, rfl, hsz, _⟩ : ∃ cs, v = .agg cs ∧ cs.size = (Try.prog).cellsOf 43 ∧ Row.okWide Try.prog w r b0 43 cs := by
    simpa [Value.okWide, Try.underlying43] using hv
  have hC : (Try.prog).cellsOf 43 = 3 := by kernel_rfl
  have hCi : (Try.prog).cellsOf 3 = 1 := by kernel_rfl
  rw [hC] at hsz
  obtain ⟨cs⟩ := cs
  match cs, hsz with
  | [c0, c1, c2], _ =>
    obtain ⟨fuel, hf⟩ := h
    obtain ⟨y0, y1, y2, m, _, g0, g1, g2⟩ := trod_array3 Try.underlying43 hCi hf
    obtain ⟨k, e0, _, k0⟩ := DataW.trod_int Try.underlying3 g0
    obtain ⟨i, e1, _, k1⟩ := DataW.trod_int Try.underlying3 g1
    obtain ⟨j, e2, _, k2⟩ := DataW.trod_int Try.underlying3 g2
    simp at e0 e1 e2
    subst e0 e1 e2
    exact ⟨k, i, j, rfl, i64_of_wf k0, i64_of_wf k1, i64_of_wf k2⟩

theorem betw18_a : betw ((2 : Nat) : Int) nodes16 0 2 = (2, 3, 0) := by decide +kernel
theorem betw18_b : betw ((2 : Nat) : Int) nodes16 1 2 = (0, 1, 0) := by decide +kernel
theorem betw18_c : betw ((2 : Nat) : Int) nodes16 3 3 = (3, 4, 0) := by decide +kernel
theorem alive18 (w : World) : Calls Try.prog 17 #[] w fun e w' => e = .returned (.bool true) ∧ Below w.heap.size w w' := by
  have HS := Lib.hid (sl_lit w encN nodes16 59 _ rfl)
  have HC := Lib.hid (digest_Load · 2 2 4 (some ⟨w.heap.size, 0, none⟩) 3 nodes16 load16 · nodes16_ints (by decide))
  go_enter Try.func17, Try.ntmps17
  go_wp2_with fail
  refine (HC.out _ (HS.out.keep (by simp) fun p hp => rfl)).mono ?_
  rintro e w1 ⟨g, F, rfl, hD, _, hb1⟩
  have B1 : Below w.heap.size w w1 := Below.then_ (by repeat (first | with_reducible exact Below.refl _ _ | with_reducible assumption | ((with_reducible refine Below.setCell ?_ ?_ _); rotate_left; · (first | omega | exact Nat.le_refl _ | (simp <;> omega))) | (with_reducible refine Below.allocW ?_ _) | (with_reducible refine Below.drew ?_) | (with_reducible refine Below.extW ?_ _))) hb1
  have s1 : w.heap.size ≤ w1.heap.size := B1.size
  have KD := Lib.hid hD
  have HB := Lib.hid (fun (a b : Int) (w : World) h => reach_Between w g 2 2 4 nodes16 F a b h (by decide))
  clear hD
  go_wp2_with fail
  refine (HB.out 0 2 _ KD.out).mono ?_
  rintro e w2 ⟨rfl, hb2⟩
  have B2 : Below w.heap.size w w2 := Below.then_ (by repeat (first | with_reducible exact Below.refl _ _ | with_reducible assumption | ((with_reducible refine Below.setCell ?_ ?_ _); rotate_left; · (first | omega | exact Nat.le_refl _ | (simp <;> omega))) | (with_reducible refine Below.allocW ?_ _) | (with_reducible refine Below.drew ?_) | (with_reducible refine Below.extW ?_ _))) hb2
  have s2 : w.heap.size ≤ w2.heap.size := B2.size
  rw [betw18_a]
  unfold bothV
  have KD2 := Lib.hid ((KD.out.below hb2).alloc (.cells #[.int .i64 2, .int .i64 3] 45))
  go_wp2_with fail
  refine (HB.out 1 2 _ KD2.out).mono ?_
  rintro e w3 ⟨rfl, hb3⟩
  have B3 : Below w.heap.size w w3 := Below.then_ (by repeat (first | with_reducible exact Below.refl _ _ | with_reducible assumption | ((with_reducible refine Below.setCell ?_ ?_ _); rotate_left; · (first | omega | exact Nat.le_refl _ | (simp <;> omega))) | (with_reducible refine Below.allocW ?_ _) | (with_reducible refine Below.drew ?_) | (with_reducible refine Below.extW ?_ _))) hb3
  have s3 : w.heap.size ≤ w3.heap.size := B3.size
  have z3_0 : w2.heap.size < w3.heap.size := by have := hb3.size; (try simp at this); omega
  have y3_0 : w2.heap.size ≤ w3.heap.size := Nat.le_of_lt z3_0
  have c3_0 := fun o => hb3.cell (p := ⟨w2.heap.size, o, none⟩) (by first | omega | (simp <;> omega))
  have f3_0 := fun o => hb3.frozen (p := ⟨w2.heap.size, o, none⟩) (by first | omega | (simp <;> omega))
  rw [betw18_b]
  unfold bothV
  have KD3 := Lib.hid ((KD2.out.below hb3).alloc (.cells #[.int .i64 0, .int .i64 1] 45))
  go_wp2_with fail
  refine (HB.out 3 3 _ KD3.out).mono ?_
  rintro e w4 ⟨rfl, hb4⟩
  have B4 : Below w.heap.size w w4 := Below.then_ (by repeat (first | with_reducible exact Below.refl _ _ | with_reducible assumption | ((with_reducible refine Below.setCell ?_ ?_ _); rotate_left; · (first | omega | exact Nat.le_refl _ | (simp <;> omega))) | (with_reducible refine Below.allocW ?_ _) | (with_reducible refine Below.drew ?_) | (with_reducible refine Below.extW ?_ _))) hb4
  have s4 : w.heap.size ≤ w4.heap.size := B4.size
  have z4_0 : w2.heap.size < w4.heap.size := by have := hb4.size; (try simp at this); omega
  have y4_0 : w2.heap.size ≤ w4.heap.size := Nat.le_of_lt z4_0
  have c4_0 := fun o => hb4.cell (p := ⟨w2.heap.size, o, none⟩) (by first | omega | (simp <;> omega))
  have f4_0 := fun o => hb4.frozen (p := ⟨w2.heap.size, o, none⟩) (by first | omega | (simp <;> omega))
  have z4_1 : w3.heap.size < w4.heap.size := by have := hb4.size; (try simp at this); omega
  have y4_1 : w3.heap.size ≤ w4.heap.size := Nat.le_of_lt z4_1
  have c4_1 := fun o => hb4.cell (p := ⟨w3.heap.size, o, none⟩) (by first | omega | (simp <;> omega))
  have f4_1 := fun o => hb4.frozen (p := ⟨w3.heap.size, o, none⟩) (by first | omega | (simp <;> omega))
  rw [betw18_c]
  unfold bothV
  go_wp2_with fail
  go_ret
  exact ⟨rfl, (by repeat (first | with_reducible exact Below.refl _ _ | with_reducible assumption | ((with_reducible refine Below.setCell ?_ ?_ _); rotate_left; · (first | omega | exact Nat.le_refl _ | (simp <;> omega))) | (with_reducible refine Below.allocW ?_ _) | (with_reducible refine Below.drew ?_) | (with_reducible refine Below.extW ?_ _)))⟩

theorem law_ReachBetween_no (l k K : Int) (r : List Nd) (A : Option Addr) (cap : Nat) (a b c : Int) (w : World) (h : ¬ goodL l k K r) (hS : Sl w w.heap.size encN A r) (hI : ints r) (hm : r.length ≤ maxLen) :
    Calls Try.prog 5 #[loadedV l k K A r.length cap, .agg #[.int .i64 a, .int .i64 b, .int .i64 c]] w fun e w' => e = .returned (.bool true) ∧ Below w.heap.size w w' := by
  have HC := Lib.hid (law16_Load_no · l k K A cap r h · hI hm)
  have HS := Lib.hid hS
  clear h hS
  unfold loadedV refDig at HC
  unfold loadedV
  go_enter Try.func5, Try.ntmps5
  go_wp2_with fail
  refine (reach_Between_nil _ a b).mono ?_
  rintro e w1 ⟨rfl, hb1⟩
  have B1 : Below w.heap.size w w1 := Below.then_ (by repeat (first | with_reducible exact Below.refl _ _ | with_reducible assumption | ((with_reducible refine Below.setCell ?_ ?_ _); rotate_left; · (first | omega | exact Nat.le_refl _ | (simp <;> omega))) | (with_reducible refine Below.allocW ?_ _) | (with_reducible refine Below.drew ?_) | (with_reducible refine Below.extW ?_ _))) hb1
  have s1 : w.heap.size ≤ w1.heap.size := B1.size
  have z1_0 : w.heap.size < w1.heap.size := by have := hb1.size; (try simp at this); omega
  have y1_0 : w.heap.size ≤ w1.heap.size := Nat.le_of_lt z1_0
  have c1_0 := fun o => hb1.cell (p := ⟨w.heap.size, o, none⟩) (by first | omega | (simp <;> omega))
  have f1_0 := fun o => hb1.frozen (p := ⟨w.heap.size, o, none⟩) (by first | omega | (simp <;> omega))
  have z1_1 : w.heap.size + 1 < w1.heap.size := by have := hb1.size; (try simp at this); omega
  have y1_1 : w.heap.size + 1 ≤ w1.heap.size := Nat.le_of_lt z1_1
  have c1_1 := fun o => hb1.cell (p := ⟨w.heap.size + 1, o, none⟩) (by first | omega | (simp <;> omega))
  have f1_1 := fun o => hb1.frozen (p := ⟨w.heap.size + 1, o, none⟩) (by first | omega | (simp <;> omega))
  unfold bothV
  go_wp2_with fail
  refine (reach_Share_nil _ a b c).mono ?_
  rintro e w2 ⟨rfl, hb2⟩
  have B2 : Below w.heap.size w w2 := Below.then_ (by repeat (first | with_reducible exact Below.refl _ _ | with_reducible assumption | ((with_reducible refine Below.setCell ?_ ?_ _); rotate_left; · (first | omega | exact Nat.le_refl _ | (simp <;> omega))) | (with_reducible refine Below.allocW ?_ _) | (with_reducible refine Below.drew ?_) | (with_reducible refine Below.extW ?_ _))) hb2
  have s2 : w.heap.size ≤ w2.heap.size := B2.size
  have z2_0 : w.heap.size < w2.heap.size := by have := hb2.size; (try simp at this); omega
  have y2_0 : w.heap.size ≤ w2.heap.size := Nat.le_of_lt z2_0
  have c2_0 := fun o => hb2.cell (p := ⟨w.heap.size, o, none⟩) (by first | omega | (simp <;> omega))
  have f2_0 := fun o => hb2.frozen (p := ⟨w.heap.size, o, none⟩) (by first | omega | (simp <;> omega))
  have z2_1 : w.heap.size + 1 < w2.heap.size := by have := hb2.size; (try simp at this); omega
  have y2_1 : w.heap.size + 1 ≤ w2.heap.size := Nat.le_of_lt z2_1
  have c2_1 := fun o => hb2.cell (p := ⟨w.heap.size + 1, o, none⟩) (by first | omega | (simp <;> omega))
  have f2_1 := fun o => hb2.frozen (p := ⟨w.heap.size + 1, o, none⟩) (by first | omega | (simp <;> omega))
  unfold bothV
  have BA : Below w.heap.size w (w2.alloc (.cells #[.int .i64 0, .int .i64 0] 45)) := (by repeat (first | with_reducible exact Below.refl _ _ | with_reducible assumption | ((with_reducible refine Below.setCell ?_ ?_ _); rotate_left; · (first | omega | exact Nat.le_refl _ | (simp <;> omega))) | (with_reducible refine Below.allocW ?_ _) | (with_reducible refine Below.drew ?_) | (with_reducible refine Below.extW ?_ _)))
  have S2 := Lib.hid (HS.out.keep BA.size fun p hp => BA.cell hp)
  clear BA
  go_wp2_with fail
  refine (HC.out _ S2.out).mono ?_
  rintro e w3 ⟨rfl, hb3⟩
  have B3 : Below w.heap.size w w3 := Below.then_ (by repeat (first | with_reducible exact Below.refl _ _ | with_reducible assumption | ((with_reducible refine Below.setCell ?_ ?_ _); rotate_left; · (first | omega | exact Nat.le_refl _ | (simp <;> omega))) | (with_reducible refine Below.allocW ?_ _) | (with_reducible refine Below.drew ?_) | (with_reducible refine Below.extW ?_ _))) hb3
  have s3 : w.heap.size ≤ w3.heap.size := B3.size
  have z3_0 : w.heap.size < w3.heap.size := by have := hb3.size; (try simp at this); omega
  have y3_0 : w.heap.size ≤ w3.heap.size := Nat.le_of_lt z3_0
  have c3_0 := fun o => hb3.cell (p := ⟨w.heap.size, o, none⟩) (by first | omega | (simp <;> omega))
  have f3_0 := fun o => hb3.frozen (p := ⟨w.heap.size, o, none⟩) (by first | omega | (simp <;> omega))
  have z3_1 : w.heap.size + 1 < w3.heap.size := by have := hb3.size; (try simp at this); omega
  have y3_1 : w.heap.size + 1 ≤ w3.heap.size := Nat.le_of_lt z3_1
  have c3_1 := fun o => hb3.cell (p := ⟨w.heap.size + 1, o, none⟩) (by first | omega | (simp <;> omega))
  have f3_1 := fun o => hb3.frozen (p := ⟨w.heap.size + 1, o, none⟩) (by first | omega | (simp <;> omega))
  go_wp2_with fail
  refine (alive18 _).mono ?_
  rintro e w4 ⟨rfl, hb4⟩
  have B4 : Below w.heap.size w w4 := Below.then_ (by repeat (first | with_reducible exact Below.refl _ _ | with_reducible assumption | ((with_reducible refine Below.setCell ?_ ?_ _); rotate_left; · (first | omega | exact Nat.le_refl _ | (simp <;> omega))) | (with_reducible refine Below.allocW ?_ _) | (with_reducible refine Below.drew ?_) | (with_reducible refine Below.extW ?_ _))) hb4
  have s4 : w.heap.size ≤ w4.heap.size := B4.size
  go_wp2_with fail
  go_ret
  exact ⟨rfl, (by repeat (first | with_reducible exact Below.refl _ _ | with_reducible assumption | ((with_reducible refine Below.setCell ?_ ?_ _); rotate_left; · (first | omega | exact Nat.le_refl _ | (simp <;> omega))) | (with_reducible refine Below.allocW ?_ _) | (with_reducible refine Below.drew ?_) | (with_reducible refine Below.extW ?_ _)))⟩
set_option maxHeartbeats 4000000 in
theorem law_ReachBetween_yes (l K : Nat) (k : Int) (r : List Nd) (A : Option Addr) (cap : Nat) (a b c : Int) (w : World) (h : goodL l k K r) (hS : Sl w w.heap.size encN A r) (hI : ints r) (hc : c ≤ 9223372036854775807) :
    Calls Try.prog 5 #[loadedV l k K A r.length cap, .agg #[.int .i64 a, .int .i64 b, .int .i64 c]] w fun e w' => e = .returned (.bool true) ∧ Below w.heap.size w w' := by
  have hn : r.length ≤ 67108864 := by have := h.1; omega
  have hr := (goodL_parts h.2.2).1
  have hf := right_fits hr
  have HC := Lib.hid (law16_Load · l K k A cap r h · hI)
  have HS := Lib.hid hS
  have HB := Lib.hid (fun g F (w : World) h => reach_Between w g K l k r F a b h hn)
  have HSh := Lib.hid (fun g F (w : World) h => reach_Share w g K l k r F a b c h hn hc)
  have RB := Lib.hid (ref18_Between · k l A cap r a b · hI hn hf.1.roll hf.1.sum)
  have RS := Lib.hid (ref18_Share · k l A cap r a b c · hI hn hf.1.roll hf.1.sum hf.2 hc)
  generalize betw (l : Int) r a b = t at HB RB
  generalize share (l : Int) r a b c = s at HSh RS
  obtain ⟨t1, t2, t3⟩ := t
  obtain ⟨q1, q2, q3⟩ := s
  unfold bothV at HB HSh RB RS
  clear h hS hr hf
  unfold loadedV refDig at HC
  unfold loadedV
  go_enter Try.func5, Try.ntmps5
  go_wp2_with fail
  refine (reach_Between_nil _ a b).mono ?_
  rintro e w1 ⟨rfl, hb1⟩
  have B1 : Below w.heap.size w w1 := Below.then_ (by repeat (first | with_reducible exact Below.refl _ _ | with_reducible assumption | ((with_reducible refine Below.setCell ?_ ?_ _); rotate_left; · (first | omega | exact Nat.le_refl _ | (simp <;> omega))) | (with_reducible refine Below.allocW ?_ _) | (with_reducible refine Below.drew ?_) | (with_reducible refine Below.extW ?_ _))) hb1
  have s1 : w.heap.size ≤ w1.heap.size := B1.size
  have z1_0 : w.heap.size < w1.heap.size := by have := hb1.size; (try simp at this); omega
  have y1_0 : w.heap.size ≤ w1.heap.size := Nat.le_of_lt z1_0
  have c1_0 := fun o => hb1.cell (p := ⟨w.heap.size, o, none⟩) (by first | omega | (simp <;> omega))
  have f1_0 := fun o => hb1.frozen (p := ⟨w.heap.size, o, none⟩) (by first | omega | (simp <;> omega))
  have z1_1 : w.heap.size + 1 < w1.heap.size := by have := hb1.size; (try simp at this); omega
  have y1_1 : w.heap.size + 1 ≤ w1.heap.size := Nat.le_of_lt z1_1
  have c1_1 := fun o => hb1.cell (p := ⟨w.heap.size + 1, o, none⟩) (by first | omega | (simp <;> omega))
  have f1_1 := fun o => hb1.frozen (p := ⟨w.heap.size + 1, o, none⟩) (by first | omega | (simp <;> omega))
  unfold bothV
  go_wp2_with fail
  refine (reach_Share_nil _ a b c).mono ?_
  rintro e w2 ⟨rfl, hb2⟩
  have B2 : Below w.heap.size w w2 := Below.then_ (by repeat (first | with_reducible exact Below.refl _ _ | with_reducible assumption | ((with_reducible refine Below.setCell ?_ ?_ _); rotate_left; · (first | omega | exact Nat.le_refl _ | (simp <;> omega))) | (with_reducible refine Below.allocW ?_ _) | (with_reducible refine Below.drew ?_) | (with_reducible refine Below.extW ?_ _))) hb2
  have s2 : w.heap.size ≤ w2.heap.size := B2.size
  have z2_0 : w.heap.size < w2.heap.size := by have := hb2.size; (try simp at this); omega
  have y2_0 : w.heap.size ≤ w2.heap.size := Nat.le_of_lt z2_0
  have c2_0 := fun o => hb2.cell (p := ⟨w.heap.size, o, none⟩) (by first | omega | (simp <;> omega))
  have f2_0 := fun o => hb2.frozen (p := ⟨w.heap.size, o, none⟩) (by first | omega | (simp <;> omega))
  have z2_1 : w.heap.size + 1 < w2.heap.size := by have := hb2.size; (try simp at this); omega
  have y2_1 : w.heap.size + 1 ≤ w2.heap.size := Nat.le_of_lt z2_1
  have c2_1 := fun o => hb2.cell (p := ⟨w.heap.size + 1, o, none⟩) (by first | omega | (simp <;> omega))
  have f2_1 := fun o => hb2.frozen (p := ⟨w.heap.size + 1, o, none⟩) (by first | omega | (simp <;> omega))
  unfold bothV
  have BA : Below w.heap.size w (w2.alloc (.cells #[.int .i64 0, .int .i64 0] 45)) := (by repeat (first | with_reducible exact Below.refl _ _ | with_reducible assumption | ((with_reducible refine Below.setCell ?_ ?_ _); rotate_left; · (first | omega | exact Nat.le_refl _ | (simp <;> omega))) | (with_reducible refine Below.allocW ?_ _) | (with_reducible refine Below.drew ?_) | (with_reducible refine Below.extW ?_ _)))
  have S2 := Lib.hid (HS.out.keep BA.size fun p hp => BA.cell hp)
  clear BA
  go_wp2_with fail
  refine (HC.out _ S2.out).mono ?_
  rintro e w3 ⟨g, F, rfl, hD, _, hb3⟩
  have B3 : Below w.heap.size w w3 := Below.then_ (by repeat (first | with_reducible exact Below.refl _ _ | with_reducible assumption | ((with_reducible refine Below.setCell ?_ ?_ _); rotate_left; · (first | omega | exact Nat.le_refl _ | (simp <;> omega))) | (with_reducible refine Below.allocW ?_ _) | (with_reducible refine Below.drew ?_) | (with_reducible refine Below.extW ?_ _))) hb3
  have s3 : w.heap.size ≤ w3.heap.size := B3.size
  have z3_0 : w.heap.size < w3.heap.size := by have := hb3.size; (try simp at this); omega
  have y3_0 : w.heap.size ≤ w3.heap.size := Nat.le_of_lt z3_0
  have c3_0 := fun o => hb3.cell (p := ⟨w.heap.size, o, none⟩) (by first | omega | (simp <;> omega))
  have f3_0 := fun o => hb3.frozen (p := ⟨w.heap.size, o, none⟩) (by first | omega | (simp <;> omega))
  have z3_1 : w.heap.size + 1 < w3.heap.size := by have := hb3.size; (try simp at this); omega
  have y3_1 : w.heap.size + 1 ≤ w3.heap.size := Nat.le_of_lt z3_1
  have c3_1 := fun o => hb3.cell (p := ⟨w.heap.size + 1, o, none⟩) (by first | omega | (simp <;> omega))
  have f3_1 := fun o => hb3.frozen (p := ⟨w.heap.size + 1, o, none⟩) (by first | omega | (simp <;> omega))
  have KD := Lib.hid (hD.alloc (.cells #[.int .i64 k, .int .i64 l, .slice A r.length cap] 31))
  clear hD
  go_wp2_with fail
  refine (HB.out g F _ KD.out).mono ?_
  rintro e w4 ⟨rfl, hb4⟩
  have B4 : Below w.heap.size w w4 := Below.then_ (by repeat (first | with_reducible exact Below.refl _ _ | with_reducible assumption | ((with_reducible refine Below.setCell ?_ ?_ _); rotate_left; · (first | omega | exact Nat.le_refl _ | (simp <;> omega))) | (with_reducible refine Below.allocW ?_ _) | (with_reducible refine Below.drew ?_) | (with_reducible refine Below.extW ?_ _))) hb4
  have s4 : w.heap.size ≤ w4.heap.size := B4.size
  have z4_0 : w.heap.size < w4.heap.size := by have := hb4.size; (try simp at this); omega
  have y4_0 : w.heap.size ≤ w4.heap.size := Nat.le_of_lt z4_0
  have c4_0 := fun o => hb4.cell (p := ⟨w.heap.size, o, none⟩) (by first | omega | (simp <;> omega))
  have f4_0 := fun o => hb4.frozen (p := ⟨w.heap.size, o, none⟩) (by first | omega | (simp <;> omega))
  have z4_1 : w.heap.size + 1 < w4.heap.size := by have := hb4.size; (try simp at this); omega
  have y4_1 : w.heap.size + 1 ≤ w4.heap.size := Nat.le_of_lt z4_1
  have c4_1 := fun o => hb4.cell (p := ⟨w.heap.size + 1, o, none⟩) (by first | omega | (simp <;> omega))
  have f4_1 := fun o => hb4.frozen (p := ⟨w.heap.size + 1, o, none⟩) (by first | omega | (simp <;> omega))
  have z4_2 : w3.heap.size < w4.heap.size := by have := hb4.size; (try simp at this); omega
  have y4_2 : w3.heap.size ≤ w4.heap.size := Nat.le_of_lt z4_2
  have c4_2 := fun o => hb4.cell (p := ⟨w3.heap.size, o, none⟩) (by first | omega | (simp <;> omega))
  have f4_2 := fun o => hb4.frozen (p := ⟨w3.heap.size, o, none⟩) (by first | omega | (simp <;> omega))
  have KD4 := Lib.hid ((KD.out.below hb4).alloc (.cells #[.int .i64 t1, .int .i64 t2] 45))
  have BA : Below w.heap.size w (w4.alloc (.cells #[.int .i64 t1, .int .i64 t2] 45)) := (by repeat (first | with_reducible exact Below.refl _ _ | with_reducible assumption | ((with_reducible refine Below.setCell ?_ ?_ _); rotate_left; · (first | omega | exact Nat.le_refl _ | (simp <;> omega))) | (with_reducible refine Below.allocW ?_ _) | (with_reducible refine Below.drew ?_) | (with_reducible refine Below.extW ?_ _)))
  have S4 := Lib.hid (HS.out.keep BA.size fun p hp => BA.cell hp)
  clear BA
  go_wp2_with fail
  refine (RB.out _ S4.out).mono ?_
  rintro e w5 ⟨rfl, hb5⟩
  have B5 : Below w.heap.size w w5 := Below.then_ (by repeat (first | with_reducible exact Below.refl _ _ | with_reducible assumption | ((with_reducible refine Below.setCell ?_ ?_ _); rotate_left; · (first | omega | exact Nat.le_refl _ | (simp <;> omega))) | (with_reducible refine Below.allocW ?_ _) | (with_reducible refine Below.drew ?_) | (with_reducible refine Below.extW ?_ _))) hb5
  have s5 : w.heap.size ≤ w5.heap.size := B5.size
  have z5_0 : w.heap.size < w5.heap.size := by have := hb5.size; (try simp at this); omega
  have y5_0 : w.heap.size ≤ w5.heap.size := Nat.le_of_lt z5_0
  have c5_0 := fun o => hb5.cell (p := ⟨w.heap.size, o, none⟩) (by first | omega | (simp <;> omega))
  have f5_0 := fun o => hb5.frozen (p := ⟨w.heap.size, o, none⟩) (by first | omega | (simp <;> omega))
  have z5_1 : w.heap.size + 1 < w5.heap.size := by have := hb5.size; (try simp at this); omega
  have y5_1 : w.heap.size + 1 ≤ w5.heap.size := Nat.le_of_lt z5_1
  have c5_1 := fun o => hb5.cell (p := ⟨w.heap.size + 1, o, none⟩) (by first | omega | (simp <;> omega))
  have f5_1 := fun o => hb5.frozen (p := ⟨w.heap.size + 1, o, none⟩) (by first | omega | (simp <;> omega))
  have z5_2 : w3.heap.size < w5.heap.size := by have := hb5.size; (try simp at this); omega
  have y5_2 : w3.heap.size ≤ w5.heap.size := Nat.le_of_lt z5_2
  have c5_2 := fun o => hb5.cell (p := ⟨w3.heap.size, o, none⟩) (by first | omega | (simp <;> omega))
  have f5_2 := fun o => hb5.frozen (p := ⟨w3.heap.size, o, none⟩) (by first | omega | (simp <;> omega))
  have z5_3 : w4.heap.size < w5.heap.size := by have := hb5.size; (try simp at this); omega
  have y5_3 : w4.heap.size ≤ w5.heap.size := Nat.le_of_lt z5_3
  have c5_3 := fun o => hb5.cell (p := ⟨w4.heap.size, o, none⟩) (by first | omega | (simp <;> omega))
  have f5_3 := fun o => hb5.frozen (p := ⟨w4.heap.size, o, none⟩) (by first | omega | (simp <;> omega))
  have KD5 := Lib.hid ((KD4.out.below hb5).alloc (.cells #[.int .i64 t1, .int .i64 t2] 45))
  go_wp2_with fail
  refine (HSh.out g F _ KD5.out).mono ?_
  rintro e w6 ⟨rfl, hb6⟩
  have B6 : Below w.heap.size w w6 := Below.then_ (by repeat (first | with_reducible exact Below.refl _ _ | with_reducible assumption | ((with_reducible refine Below.setCell ?_ ?_ _); rotate_left; · (first | omega | exact Nat.le_refl _ | (simp <;> omega))) | (with_reducible refine Below.allocW ?_ _) | (with_reducible refine Below.drew ?_) | (with_reducible refine Below.extW ?_ _))) hb6
  have s6 : w.heap.size ≤ w6.heap.size := B6.size
  have z6_0 : w.heap.size < w6.heap.size := by have := hb6.size; (try simp at this); omega
  have y6_0 : w.heap.size ≤ w6.heap.size := Nat.le_of_lt z6_0
  have c6_0 := fun o => hb6.cell (p := ⟨w.heap.size, o, none⟩) (by first | omega | (simp <;> omega))
  have f6_0 := fun o => hb6.frozen (p := ⟨w.heap.size, o, none⟩) (by first | omega | (simp <;> omega))
  have z6_1 : w.heap.size + 1 < w6.heap.size := by have := hb6.size; (try simp at this); omega
  have y6_1 : w.heap.size + 1 ≤ w6.heap.size := Nat.le_of_lt z6_1
  have c6_1 := fun o => hb6.cell (p := ⟨w.heap.size + 1, o, none⟩) (by first | omega | (simp <;> omega))
  have f6_1 := fun o => hb6.frozen (p := ⟨w.heap.size + 1, o, none⟩) (by first | omega | (simp <;> omega))
  have z6_2 : w3.heap.size < w6.heap.size := by have := hb6.size; (try simp at this); omega
  have y6_2 : w3.heap.size ≤ w6.heap.size := Nat.le_of_lt z6_2
  have c6_2 := fun o => hb6.cell (p := ⟨w3.heap.size, o, none⟩) (by first | omega | (simp <;> omega))
  have f6_2 := fun o => hb6.frozen (p := ⟨w3.heap.size, o, none⟩) (by first | omega | (simp <;> omega))
  have z6_3 : w4.heap.size < w6.heap.size := by have := hb6.size; (try simp at this); omega
  have y6_3 : w4.heap.size ≤ w6.heap.size := Nat.le_of_lt z6_3
  have c6_3 := fun o => hb6.cell (p := ⟨w4.heap.size, o, none⟩) (by first | omega | (simp <;> omega))
  have f6_3 := fun o => hb6.frozen (p := ⟨w4.heap.size, o, none⟩) (by first | omega | (simp <;> omega))
  have z6_4 : w5.heap.size < w6.heap.size := by have := hb6.size; (try simp at this); omega
  have y6_4 : w5.heap.size ≤ w6.heap.size := Nat.le_of_lt z6_4
  have c6_4 := fun o => hb6.cell (p := ⟨w5.heap.size, o, none⟩) (by first | omega | (simp <;> omega))
  have f6_4 := fun o => hb6.frozen (p := ⟨w5.heap.size, o, none⟩) (by first | omega | (simp <;> omega))
  have BA : Below w.heap.size w (w6.alloc (.cells #[.int .i64 q1, .int .i64 q2] 45)) := (by repeat (first | with_reducible exact Below.refl _ _ | with_reducible assumption | ((with_reducible refine Below.setCell ?_ ?_ _); rotate_left; · (first | omega | exact Nat.le_refl _ | (simp <;> omega))) | (with_reducible refine Below.allocW ?_ _) | (with_reducible refine Below.drew ?_) | (with_reducible refine Below.extW ?_ _)))
  have S6 := Lib.hid (HS.out.keep BA.size fun p hp => BA.cell hp)
  clear BA
  go_wp2_with fail
  refine (RS.out _ S6.out).mono ?_
  rintro e w7 ⟨rfl, hb7⟩
  have B7 : Below w.heap.size w w7 := Below.then_ (by repeat (first | with_reducible exact Below.refl _ _ | with_reducible assumption | ((with_reducible refine Below.setCell ?_ ?_ _); rotate_left; · (first | omega | exact Nat.le_refl _ | (simp <;> omega))) | (with_reducible refine Below.allocW ?_ _) | (with_reducible refine Below.drew ?_) | (with_reducible refine Below.extW ?_ _))) hb7
  have s7 : w.heap.size ≤ w7.heap.size := B7.size
  have z7_0 : w.heap.size < w7.heap.size := by have := hb7.size; (try simp at this); omega
  have y7_0 : w.heap.size ≤ w7.heap.size := Nat.le_of_lt z7_0
  have c7_0 := fun o => hb7.cell (p := ⟨w.heap.size, o, none⟩) (by first | omega | (simp <;> omega))
  have f7_0 := fun o => hb7.frozen (p := ⟨w.heap.size, o, none⟩) (by first | omega | (simp <;> omega))
  have z7_1 : w.heap.size + 1 < w7.heap.size := by have := hb7.size; (try simp at this); omega
  have y7_1 : w.heap.size + 1 ≤ w7.heap.size := Nat.le_of_lt z7_1
  have c7_1 := fun o => hb7.cell (p := ⟨w.heap.size + 1, o, none⟩) (by first | omega | (simp <;> omega))
  have f7_1 := fun o => hb7.frozen (p := ⟨w.heap.size + 1, o, none⟩) (by first | omega | (simp <;> omega))
  have z7_2 : w3.heap.size < w7.heap.size := by have := hb7.size; (try simp at this); omega
  have y7_2 : w3.heap.size ≤ w7.heap.size := Nat.le_of_lt z7_2
  have c7_2 := fun o => hb7.cell (p := ⟨w3.heap.size, o, none⟩) (by first | omega | (simp <;> omega))
  have f7_2 := fun o => hb7.frozen (p := ⟨w3.heap.size, o, none⟩) (by first | omega | (simp <;> omega))
  have z7_3 : w4.heap.size < w7.heap.size := by have := hb7.size; (try simp at this); omega
  have y7_3 : w4.heap.size ≤ w7.heap.size := Nat.le_of_lt z7_3
  have c7_3 := fun o => hb7.cell (p := ⟨w4.heap.size, o, none⟩) (by first | omega | (simp <;> omega))
  have f7_3 := fun o => hb7.frozen (p := ⟨w4.heap.size, o, none⟩) (by first | omega | (simp <;> omega))
  have z7_4 : w5.heap.size < w7.heap.size := by have := hb7.size; (try simp at this); omega
  have y7_4 : w5.heap.size ≤ w7.heap.size := Nat.le_of_lt z7_4
  have c7_4 := fun o => hb7.cell (p := ⟨w5.heap.size, o, none⟩) (by first | omega | (simp <;> omega))
  have f7_4 := fun o => hb7.frozen (p := ⟨w5.heap.size, o, none⟩) (by first | omega | (simp <;> omega))
  have z7_5 : w6.heap.size < w7.heap.size := by have := hb7.size; (try simp at this); omega
  have y7_5 : w6.heap.size ≤ w7.heap.size := Nat.le_of_lt z7_5
  have c7_5 := fun o => hb7.cell (p := ⟨w6.heap.size, o, none⟩) (by first | omega | (simp <;> omega))
  have f7_5 := fun o => hb7.frozen (p := ⟨w6.heap.size, o, none⟩) (by first | omega | (simp <;> omega))
  go_wp2_with fail
  refine (alive18 _).mono ?_
  rintro e w8 ⟨rfl, hb8⟩
  have B8 : Below w.heap.size w w8 := Below.then_ (by repeat (first | with_reducible exact Below.refl _ _ | with_reducible assumption | ((with_reducible refine Below.setCell ?_ ?_ _); rotate_left; · (first | omega | exact Nat.le_refl _ | (simp <;> omega))) | (with_reducible refine Below.allocW ?_ _) | (with_reducible refine Below.drew ?_) | (with_reducible refine Below.extW ?_ _))) hb8
  have s8 : w.heap.size ≤ w8.heap.size := B8.size
  go_wp2_with fail
  go_ret
  exact ⟨rfl, (by repeat (first | with_reducible exact Below.refl _ _ | with_reducible assumption | ((with_reducible refine Below.setCell ?_ ?_ _); rotate_left; · (first | omega | exact Nat.le_refl _ | (simp <;> omega))) | (with_reducible refine Below.allocW ?_ _) | (with_reducible refine Below.drew ?_) | (with_reducible refine Below.extW ?_ _)))⟩
theorem law_ReachBetween (l k K : Int) (r : List Nd) (A : Option Addr) (cap : Nat) (a b c : Int) (W : World) (hS : Sl W W.heap.size encN A r) (hI : ints r) (_ : i64 l) (_ : i64 k) (_ : i64 K) (hm : r.length ≤ maxLen) (_ : i64 a) (_ : i64 b) (hc : i64 c) :
    Calls Try.prog 5 #[loadedV l k K A r.length cap, .agg #[.int .i64 a, .int .i64 b, .int .i64 c]] W fun e W' => e = .returned (.bool true) ∧ Below W.heap.size W W' := by
  by_cases h : goodL l k K r
  · obtain ⟨n, m, rfl, rfl⟩ := goodL_nat h.2.2
    exact law_ReachBetween_yes n m k r A cap a b c W h hS hI hc.2
  · exact law_ReachBetween_no l k K r A cap a b c W h hS hI hm
end Go.Proofs.Ytalnhdfgjjhhbaa
