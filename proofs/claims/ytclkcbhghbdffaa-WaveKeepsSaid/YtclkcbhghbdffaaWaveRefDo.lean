/- The reference of chapter 30: Do. -/
import Derived.Test.YtclkcbhghbdffaaWaveRef3
import Derived.Test.YtclkcbhghbdffaaWaveDo
namespace Go.Proofs.Ytclkcbhghbdffaa
open Go.ChangeShapes Go.WideShapes Go.ChangeAt Go.RowKit
set_option linter.unusedVariables false
attribute [local go_sem ↓] Go.wp_at_zero Go.wp_at_succ

theorem RV.alloc {w : World} {A : Option Addr} {n cap : Nat} {s : WS} (h : RV w A n cap s) (o : Obj) : RV (w.alloc o) A n cap s := ⟨h.1, h.2.1.alloc o, h.2.2⟩
theorem RV.setT {w : World} {A : Option Addr} {n cap : Nat} {s : WS} {p : Addr} {u : Value} {t : TypeId} (h : RV w A n cap s) (hp : TypeAt w p.block t) (hne : 40 ≠ t) : RV (w.setCell p u) A n cap s := ⟨h.1, h.2.1.setCellT hp hne, h.2.2⟩
/-- A store of what is there already. -/
theorem RV.same {w : World} {A : Option Addr} {n cap : Nat} {s : WS} {p : Addr} {u : Value} (h : RV w A n cap s) (hc : w.cell? p = some u) : RV (w.setCell p u) A n cap s := by
  refine ⟨h.1, ?_, h.2.2⟩
  rcases h.2.1 with h | ⟨b, off, hA, hT, hx⟩
  · exact .inl h
  · refine .inr ⟨b, off, hA, hT.setCell, fun i x hi j v hj => ?_⟩
    by_cases hp : p = ⟨b, off + i * 2 + j, none⟩
    · subst hp
      have h1 := hx i x hi j v hj
      rw [hc] at h1
      injection h1 with h1
      subst h1
      rw [World.cell?_setCell_same _ _ _ (by rw [hc])]
    · rw [World.cell?_setCell_other _ _ _ _ hp]
      exact hx i x hi j v hj
/-- A store in another block. -/
theorem RV.setN {w : World} {A : Option Addr} {n cap b0 : Nat} {s : WS} {p : Addr} {u : Value} (h : RV w A n cap s) (hF : Fresh b0 A) (hp : p.block < b0) : RV (w.setCell p u) A n cap s := by
  refine ⟨h.1, ?_, h.2.2⟩
  rcases h.2.1 with h | ⟨b, off, hA, hT, hx⟩
  · exact .inl h
  · refine .inr ⟨b, off, hA, hT.setCell, fun i x hi j v hj => ?_⟩
    have hb : b0 ≤ b := by
      rcases hF with hF | ⟨g, off', hF, hg⟩
      · rw [hF] at hA; cases hA
      · rw [hF] at hA; cases hA; exact hg
    rw [World.cell?_setCell_other _ _ _ _ (by rintro rfl; simp only at hp; omega)]
    exact hx i x hi j v hj
theorem RV.lt {w : World} {b off n cap : Nat} {s : WS} (h : RV w (some ⟨b, off, none⟩) n cap s) : s.items = [] ∨ b < w.heap.size := by
  rcases h.2.1 with h | ⟨b', off', hA, hT, hx⟩
  · exact .inl h
  · cases hA; exact .inr hT.lt

/-- What a call answers. -/
def RDoPost (w : World) (s' : WS) (x : It) (n : Int) (e : Ending) (w' : World) : Prop := (∃ A m cap, e = .returned (.tuple #[rvV A m cap s', itV x, .int .i64 n]) ∧ RV w' A m cap s') ∧ Below w.heap.size w w'

set_option maxRecDepth 100000 in
set_option maxHeartbeats 400000 in
theorem ref_Do_0 (w : World) (A : Option Addr) (n cap : Nat) (s : WS) (I TO AT : Int) (TX : ByteArray) (BY : Int) (h : RV w A n cap s) (hs : s.small) (hlen : s.items.length ≤ 256) (hsz : ∀ x ∈ s.items, x.2.size ≤ maxLen) (hBy : 0 ≤ BY ∧ BY ≤ 255) :
    Calls Try.prog 14 #[rvV A n cap s, .agg #[.int .i64 0, .int .i64 I, .int .i64 TO, .int .i64 AT, .string TX, .int .u8 BY]] w (RDoPost w (s.send (TO, TX)).1 it0 ((s.send (TO, TX)).2 : Nat)) := by
  have HV := Lib.hid ((((h.alloc (.cells #[.slice A n cap, .int .i64 s.sent, .int .i64 s.taken, .int .i64 s.lost, .int .i64 s.copied, .int .i64 s.spoilt] 36)).alloc (.cells #[.int .i64 0, .int .i64 I, .int .i64 TO, .int .i64 AT, .string TX, .int .u8 BY] 38)).alloc (.cells #[.slice none 0 0, .int .i64 0, .int .i64 0, .int .i64 0, .int .i64 0, .int .i64 0] 36)).alloc (.cells #[.int .i64 0, .string ⟨#[]⟩] 40))
  have K0 := Lib.hid ((heap_new_lt (((w.alloc (.cells #[.slice A n cap, .int .i64 s.sent, .int .i64 s.taken, .int .i64 s.lost, .int .i64 s.copied, .int .i64 s.spoilt] 36)).alloc (.cells #[.int .i64 0, .int .i64 I, .int .i64 TO, .int .i64 AT, .string TX, .int .u8 BY] 38)).alloc (.cells #[.slice none 0 0, .int .i64 0, .int .i64 0, .int .i64 0, .int .i64 0, .int .i64 0] 36)) (.cells #[.int .i64 0, .string ⟨#[]⟩] 40) w.heap.size (by simp <;> omega)).trans ((heap_new_lt ((w.alloc (.cells #[.slice A n cap, .int .i64 s.sent, .int .i64 s.taken, .int .i64 s.lost, .int .i64 s.copied, .int .i64 s.spoilt] 36)).alloc (.cells #[.int .i64 0, .int .i64 I, .int .i64 TO, .int .i64 AT, .string TX, .int .u8 BY] 38)) (.cells #[.slice none 0 0, .int .i64 0, .int .i64 0, .int .i64 0, .int .i64 0, .int .i64 0] 36) w.heap.size (by simp <;> omega)).trans ((heap_new_lt (w.alloc (.cells #[.slice A n cap, .int .i64 s.sent, .int .i64 s.taken, .int .i64 s.lost, .int .i64 s.copied, .int .i64 s.spoilt] 36)) (.cells #[.int .i64 0, .int .i64 I, .int .i64 TO, .int .i64 AT, .string TX, .int .u8 BY] 38) w.heap.size (by simp)).trans (heap_new_at w (.cells #[.slice A n cap, .int .i64 s.sent, .int .i64 s.taken, .int .i64 s.lost, .int .i64 s.copied, .int .i64 s.spoilt] 36) _ rfl))))
  have K1 := Lib.hid ((heap_new_lt (((w.alloc (.cells #[.slice A n cap, .int .i64 s.sent, .int .i64 s.taken, .int .i64 s.lost, .int .i64 s.copied, .int .i64 s.spoilt] 36)).alloc (.cells #[.int .i64 0, .int .i64 I, .int .i64 TO, .int .i64 AT, .string TX, .int .u8 BY] 38)).alloc (.cells #[.slice none 0 0, .int .i64 0, .int .i64 0, .int .i64 0, .int .i64 0, .int .i64 0] 36)) (.cells #[.int .i64 0, .string ⟨#[]⟩] 40) (w.heap.size + 1) (by simp <;> omega)).trans ((heap_new_lt ((w.alloc (.cells #[.slice A n cap, .int .i64 s.sent, .int .i64 s.taken, .int .i64 s.lost, .int .i64 s.copied, .int .i64 s.spoilt] 36)).alloc (.cells #[.int .i64 0, .int .i64 I, .int .i64 TO, .int .i64 AT, .string TX, .int .u8 BY] 38)) (.cells #[.slice none 0 0, .int .i64 0, .int .i64 0, .int .i64 0, .int .i64 0, .int .i64 0] 36) (w.heap.size + 1) (by simp)).trans (heap_new_at (w.alloc (.cells #[.slice A n cap, .int .i64 s.sent, .int .i64 s.taken, .int .i64 s.lost, .int .i64 s.copied, .int .i64 s.spoilt] 36)) (.cells #[.int .i64 0, .int .i64 I, .int .i64 TO, .int .i64 AT, .string TX, .int .u8 BY] 38) (w.heap.size + 1) (by simp))))
  have K2 := Lib.hid ((heap_new_lt (((w.alloc (.cells #[.slice A n cap, .int .i64 s.sent, .int .i64 s.taken, .int .i64 s.lost, .int .i64 s.copied, .int .i64 s.spoilt] 36)).alloc (.cells #[.int .i64 0, .int .i64 I, .int .i64 TO, .int .i64 AT, .string TX, .int .u8 BY] 38)).alloc (.cells #[.slice none 0 0, .int .i64 0, .int .i64 0, .int .i64 0, .int .i64 0, .int .i64 0] 36)) (.cells #[.int .i64 0, .string ⟨#[]⟩] 40) (w.heap.size + 1 + 1) (by simp)).trans (heap_new_at ((w.alloc (.cells #[.slice A n cap, .int .i64 s.sent, .int .i64 s.taken, .int .i64 s.lost, .int .i64 s.copied, .int .i64 s.spoilt] 36)).alloc (.cells #[.int .i64 0, .int .i64 I, .int .i64 TO, .int .i64 AT, .string TX, .int .u8 BY] 38)) (.cells #[.slice none 0 0, .int .i64 0, .int .i64 0, .int .i64 0, .int .i64 0, .int .i64 0] 36) (w.heap.size + 1 + 1) (by simp)))
  have K3 := Lib.hid (heap_new_at (((w.alloc (.cells #[.slice A n cap, .int .i64 s.sent, .int .i64 s.taken, .int .i64 s.lost, .int .i64 s.copied, .int .i64 s.spoilt] 36)).alloc (.cells #[.int .i64 0, .int .i64 I, .int .i64 TO, .int .i64 AT, .string TX, .int .u8 BY] 38)).alloc (.cells #[.slice none 0 0, .int .i64 0, .int .i64 0, .int .i64 0, .int .i64 0, .int .i64 0] 36)) (.cells #[.int .i64 0, .string ⟨#[]⟩] 40) (w.heap.size + 1 + 1 + 1) (by simp))
  have HT := fun W (hW : RV W A n cap s) => ref_Send W A n cap s (TO, TX) hW hs hlen
  generalize s.send (TO, TX) = r at HT ⊢
  obtain ⟨s2, N⟩ := r
  have HC := Lib.hid HT
  clear h HT
  unfold rvV
  go_enter Try.func14, Try.ntmps14
  go_wp2_with fail
  refine (HC.out _ HV.out).mono ?_
  rintro e w1 ⟨⟨A2, m2, c2, rfl, hR⟩, hb1⟩
  have HR := Lib.hid hR
  have B1 : Below w.heap.size w w1 := Below.then_ (by repeat (first | with_reducible exact Below.refl _ _ | with_reducible assumption | ((with_reducible refine Below.setCell ?_ ?_ _); rotate_left; · (first | omega | exact Nat.le_refl _ | (simp <;> omega))) | (with_reducible refine Below.allocW ?_ _) | (with_reducible refine Below.drew ?_) | (with_reducible refine Below.extW ?_ _))) hb1
  have e0 := blk_below K0.out hb1
  have e1 := blk_below K1.out hb1
  have e2 := blk_below K2.out hb1
  have e3 := blk_below K3.out hb1
  have cc0 := blk_cell e0
  have cc1 := blk_cell e1
  have cc2 := blk_cell e2
  have cc3 := blk_cell e3
  have cf0 := blk_frozen e0
  have cf2 := blk_frozen e2
  have cf3 := blk_frozen e3
  have z0 := lt_of_block e0
  have z1 := lt_of_block e1
  have z2 := lt_of_block e2
  have z3 := lt_of_block e3
  have T0b := TypeAt.of e0
  have T2b := TypeAt.of e2
  clear hR e0 e1 e2 e3 hb1
  go_wp2_with fail
  have HR0 := HR.out
  refine bodyPost_ret (v := .tuple #[rvV A2 m2 c2 s2, .agg #[.int .i64 0, .string ⟨#[]⟩], .int .i64 N]) (by simp only [results, Try.results14]; go_simp) rfl ⟨⟨A2, m2, c2, rfl, ?_⟩, (by repeat (first | with_reducible exact Below.refl _ _ | with_reducible assumption | ((with_reducible refine Below.setCell ?_ ?_ _); rotate_left; · (first | omega | exact Nat.le_refl _ | (simp <;> omega))) | (with_reducible refine Below.allocW ?_ _) | (with_reducible refine Below.drew ?_) | (with_reducible refine Below.extW ?_ _)))⟩
  refine RV.same (RV.same ?_ ?_) ?_
  · (repeat (first | with_reducible assumption | ((with_reducible refine RV.setT (t := 36) ?_ ?_ (by decide)); rotate_left; · (repeat (first | with_reducible assumption | with_reducible refine TypeAt.setCell ?_ | with_reducible refine TypeAt.alloc ?_ _ | with_reducible refine TypeAt.drew ?_))) | with_reducible refine RV.alloc ?_ _ | with_reducible refine RV.drew ?_))
  all_goals go_simp

set_option maxRecDepth 100000 in
set_option maxHeartbeats 400000 in
theorem ref_Do_2 (w : World) (A : Option Addr) (n cap : Nat) (s : WS) (I TO AT : Int) (TX : ByteArray) (BY : Int) (h : RV w A n cap s) (hs : s.small) (hlen : s.items.length ≤ 256) (hsz : ∀ x ∈ s.items, x.2.size ≤ maxLen) (hBy : 0 ≤ BY ∧ BY ≤ 255) :
    Calls Try.prog 14 #[rvV A n cap s, .agg #[.int .i64 2, .int .i64 I, .int .i64 TO, .int .i64 AT, .string TX, .int .u8 BY]] w (RDoPost w (s.lose I).1 it0 ((s.lose I).2 : Nat)) := by
  have HV := Lib.hid ((((h.alloc (.cells #[.slice A n cap, .int .i64 s.sent, .int .i64 s.taken, .int .i64 s.lost, .int .i64 s.copied, .int .i64 s.spoilt] 36)).alloc (.cells #[.int .i64 2, .int .i64 I, .int .i64 TO, .int .i64 AT, .string TX, .int .u8 BY] 38)).alloc (.cells #[.slice none 0 0, .int .i64 0, .int .i64 0, .int .i64 0, .int .i64 0, .int .i64 0] 36)).alloc (.cells #[.int .i64 0, .string ⟨#[]⟩] 40))
  have K0 := Lib.hid ((heap_new_lt (((w.alloc (.cells #[.slice A n cap, .int .i64 s.sent, .int .i64 s.taken, .int .i64 s.lost, .int .i64 s.copied, .int .i64 s.spoilt] 36)).alloc (.cells #[.int .i64 2, .int .i64 I, .int .i64 TO, .int .i64 AT, .string TX, .int .u8 BY] 38)).alloc (.cells #[.slice none 0 0, .int .i64 0, .int .i64 0, .int .i64 0, .int .i64 0, .int .i64 0] 36)) (.cells #[.int .i64 0, .string ⟨#[]⟩] 40) w.heap.size (by simp <;> omega)).trans ((heap_new_lt ((w.alloc (.cells #[.slice A n cap, .int .i64 s.sent, .int .i64 s.taken, .int .i64 s.lost, .int .i64 s.copied, .int .i64 s.spoilt] 36)).alloc (.cells #[.int .i64 2, .int .i64 I, .int .i64 TO, .int .i64 AT, .string TX, .int .u8 BY] 38)) (.cells #[.slice none 0 0, .int .i64 0, .int .i64 0, .int .i64 0, .int .i64 0, .int .i64 0] 36) w.heap.size (by simp <;> omega)).trans ((heap_new_lt (w.alloc (.cells #[.slice A n cap, .int .i64 s.sent, .int .i64 s.taken, .int .i64 s.lost, .int .i64 s.copied, .int .i64 s.spoilt] 36)) (.cells #[.int .i64 2, .int .i64 I, .int .i64 TO, .int .i64 AT, .string TX, .int .u8 BY] 38) w.heap.size (by simp)).trans (heap_new_at w (.cells #[.slice A n cap, .int .i64 s.sent, .int .i64 s.taken, .int .i64 s.lost, .int .i64 s.copied, .int .i64 s.spoilt] 36) _ rfl))))
  have K1 := Lib.hid ((heap_new_lt (((w.alloc (.cells #[.slice A n cap, .int .i64 s.sent, .int .i64 s.taken, .int .i64 s.lost, .int .i64 s.copied, .int .i64 s.spoilt] 36)).alloc (.cells #[.int .i64 2, .int .i64 I, .int .i64 TO, .int .i64 AT, .string TX, .int .u8 BY] 38)).alloc (.cells #[.slice none 0 0, .int .i64 0, .int .i64 0, .int .i64 0, .int .i64 0, .int .i64 0] 36)) (.cells #[.int .i64 0, .string ⟨#[]⟩] 40) (w.heap.size + 1) (by simp <;> omega)).trans ((heap_new_lt ((w.alloc (.cells #[.slice A n cap, .int .i64 s.sent, .int .i64 s.taken, .int .i64 s.lost, .int .i64 s.copied, .int .i64 s.spoilt] 36)).alloc (.cells #[.int .i64 2, .int .i64 I, .int .i64 TO, .int .i64 AT, .string TX, .int .u8 BY] 38)) (.cells #[.slice none 0 0, .int .i64 0, .int .i64 0, .int .i64 0, .int .i64 0, .int .i64 0] 36) (w.heap.size + 1) (by simp)).trans (heap_new_at (w.alloc (.cells #[.slice A n cap, .int .i64 s.sent, .int .i64 s.taken, .int .i64 s.lost, .int .i64 s.copied, .int .i64 s.spoilt] 36)) (.cells #[.int .i64 2, .int .i64 I, .int .i64 TO, .int .i64 AT, .string TX, .int .u8 BY] 38) (w.heap.size + 1) (by simp))))
  have K2 := Lib.hid ((heap_new_lt (((w.alloc (.cells #[.slice A n cap, .int .i64 s.sent, .int .i64 s.taken, .int .i64 s.lost, .int .i64 s.copied, .int .i64 s.spoilt] 36)).alloc (.cells #[.int .i64 2, .int .i64 I, .int .i64 TO, .int .i64 AT, .string TX, .int .u8 BY] 38)).alloc (.cells #[.slice none 0 0, .int .i64 0, .int .i64 0, .int .i64 0, .int .i64 0, .int .i64 0] 36)) (.cells #[.int .i64 0, .string ⟨#[]⟩] 40) (w.heap.size + 1 + 1) (by simp)).trans (heap_new_at ((w.alloc (.cells #[.slice A n cap, .int .i64 s.sent, .int .i64 s.taken, .int .i64 s.lost, .int .i64 s.copied, .int .i64 s.spoilt] 36)).alloc (.cells #[.int .i64 2, .int .i64 I, .int .i64 TO, .int .i64 AT, .string TX, .int .u8 BY] 38)) (.cells #[.slice none 0 0, .int .i64 0, .int .i64 0, .int .i64 0, .int .i64 0, .int .i64 0] 36) (w.heap.size + 1 + 1) (by simp)))
  have K3 := Lib.hid (heap_new_at (((w.alloc (.cells #[.slice A n cap, .int .i64 s.sent, .int .i64 s.taken, .int .i64 s.lost, .int .i64 s.copied, .int .i64 s.spoilt] 36)).alloc (.cells #[.int .i64 2, .int .i64 I, .int .i64 TO, .int .i64 AT, .string TX, .int .u8 BY] 38)).alloc (.cells #[.slice none 0 0, .int .i64 0, .int .i64 0, .int .i64 0, .int .i64 0, .int .i64 0] 36)) (.cells #[.int .i64 0, .string ⟨#[]⟩] 40) (w.heap.size + 1 + 1 + 1) (by simp))
  have HT := fun W (hW : RV W A n cap s) => ref_Lose W A n cap s I hW hs hlen
  generalize s.lose I = r at HT ⊢
  obtain ⟨s2, N⟩ := r
  have HC := Lib.hid HT
  clear h HT
  unfold rvV
  go_enter Try.func14, Try.ntmps14
  go_wp2_with fail
  refine (HC.out _ HV.out).mono ?_
  rintro e w1 ⟨⟨A2, m2, c2, rfl, hR⟩, hb1⟩
  have HR := Lib.hid hR
  have B1 : Below w.heap.size w w1 := Below.then_ (by repeat (first | with_reducible exact Below.refl _ _ | with_reducible assumption | ((with_reducible refine Below.setCell ?_ ?_ _); rotate_left; · (first | omega | exact Nat.le_refl _ | (simp <;> omega))) | (with_reducible refine Below.allocW ?_ _) | (with_reducible refine Below.drew ?_) | (with_reducible refine Below.extW ?_ _))) hb1
  have e0 := blk_below K0.out hb1
  have e1 := blk_below K1.out hb1
  have e2 := blk_below K2.out hb1
  have e3 := blk_below K3.out hb1
  have cc0 := blk_cell e0
  have cc1 := blk_cell e1
  have cc2 := blk_cell e2
  have cc3 := blk_cell e3
  have cf0 := blk_frozen e0
  have cf2 := blk_frozen e2
  have cf3 := blk_frozen e3
  have z0 := lt_of_block e0
  have z1 := lt_of_block e1
  have z2 := lt_of_block e2
  have z3 := lt_of_block e3
  have T0b := TypeAt.of e0
  have T2b := TypeAt.of e2
  clear hR e0 e1 e2 e3 hb1
  go_wp2_with fail
  have HR0 := HR.out
  refine bodyPost_ret (v := .tuple #[rvV A2 m2 c2 s2, .agg #[.int .i64 0, .string ⟨#[]⟩], .int .i64 N]) (by simp only [results, Try.results14]; go_simp) rfl ⟨⟨A2, m2, c2, rfl, ?_⟩, (by repeat (first | with_reducible exact Below.refl _ _ | with_reducible assumption | ((with_reducible refine Below.setCell ?_ ?_ _); rotate_left; · (first | omega | exact Nat.le_refl _ | (simp <;> omega))) | (with_reducible refine Below.allocW ?_ _) | (with_reducible refine Below.drew ?_) | (with_reducible refine Below.extW ?_ _)))⟩
  refine RV.same (RV.same ?_ ?_) ?_
  · (repeat (first | with_reducible assumption | ((with_reducible refine RV.setT (t := 36) ?_ ?_ (by decide)); rotate_left; · (repeat (first | with_reducible assumption | with_reducible refine TypeAt.setCell ?_ | with_reducible refine TypeAt.alloc ?_ _ | with_reducible refine TypeAt.drew ?_))) | with_reducible refine RV.alloc ?_ _ | with_reducible refine RV.drew ?_))
  all_goals go_simp

set_option maxRecDepth 100000 in
set_option maxHeartbeats 400000 in
theorem ref_Do_4 (w : World) (A : Option Addr) (n cap : Nat) (s : WS) (I TO AT : Int) (TX : ByteArray) (BY : Int) (h : RV w A n cap s) (hs : s.small) (hlen : s.items.length ≤ 256) (hsz : ∀ x ∈ s.items, x.2.size ≤ maxLen) (hBy : 0 ≤ BY ∧ BY ≤ 255) :
    Calls Try.prog 14 #[rvV A n cap s, .agg #[.int .i64 4, .int .i64 I, .int .i64 TO, .int .i64 AT, .string TX, .int .u8 BY]] w (RDoPost w (s.spoil I AT BY).1 it0 ((s.spoil I AT BY).2 : Nat)) := by
  have HV := Lib.hid ((((h.alloc (.cells #[.slice A n cap, .int .i64 s.sent, .int .i64 s.taken, .int .i64 s.lost, .int .i64 s.copied, .int .i64 s.spoilt] 36)).alloc (.cells #[.int .i64 4, .int .i64 I, .int .i64 TO, .int .i64 AT, .string TX, .int .u8 BY] 38)).alloc (.cells #[.slice none 0 0, .int .i64 0, .int .i64 0, .int .i64 0, .int .i64 0, .int .i64 0] 36)).alloc (.cells #[.int .i64 0, .string ⟨#[]⟩] 40))
  have K0 := Lib.hid ((heap_new_lt (((w.alloc (.cells #[.slice A n cap, .int .i64 s.sent, .int .i64 s.taken, .int .i64 s.lost, .int .i64 s.copied, .int .i64 s.spoilt] 36)).alloc (.cells #[.int .i64 4, .int .i64 I, .int .i64 TO, .int .i64 AT, .string TX, .int .u8 BY] 38)).alloc (.cells #[.slice none 0 0, .int .i64 0, .int .i64 0, .int .i64 0, .int .i64 0, .int .i64 0] 36)) (.cells #[.int .i64 0, .string ⟨#[]⟩] 40) w.heap.size (by simp <;> omega)).trans ((heap_new_lt ((w.alloc (.cells #[.slice A n cap, .int .i64 s.sent, .int .i64 s.taken, .int .i64 s.lost, .int .i64 s.copied, .int .i64 s.spoilt] 36)).alloc (.cells #[.int .i64 4, .int .i64 I, .int .i64 TO, .int .i64 AT, .string TX, .int .u8 BY] 38)) (.cells #[.slice none 0 0, .int .i64 0, .int .i64 0, .int .i64 0, .int .i64 0, .int .i64 0] 36) w.heap.size (by simp <;> omega)).trans ((heap_new_lt (w.alloc (.cells #[.slice A n cap, .int .i64 s.sent, .int .i64 s.taken, .int .i64 s.lost, .int .i64 s.copied, .int .i64 s.spoilt] 36)) (.cells #[.int .i64 4, .int .i64 I, .int .i64 TO, .int .i64 AT, .string TX, .int .u8 BY] 38) w.heap.size (by simp)).trans (heap_new_at w (.cells #[.slice A n cap, .int .i64 s.sent, .int .i64 s.taken, .int .i64 s.lost, .int .i64 s.copied, .int .i64 s.spoilt] 36) _ rfl))))
  have K1 := Lib.hid ((heap_new_lt (((w.alloc (.cells #[.slice A n cap, .int .i64 s.sent, .int .i64 s.taken, .int .i64 s.lost, .int .i64 s.copied, .int .i64 s.spoilt] 36)).alloc (.cells #[.int .i64 4, .int .i64 I, .int .i64 TO, .int .i64 AT, .string TX, .int .u8 BY] 38)).alloc (.cells #[.slice none 0 0, .int .i64 0, .int .i64 0, .int .i64 0, .int .i64 0, .int .i64 0] 36)) (.cells #[.int .i64 0, .string ⟨#[]⟩] 40) (w.heap.size + 1) (by simp <;> omega)).trans ((heap_new_lt ((w.alloc (.cells #[.slice A n cap, .int .i64 s.sent, .int .i64 s.taken, .int .i64 s.lost, .int .i64 s.copied, .int .i64 s.spoilt] 36)).alloc (.cells #[.int .i64 4, .int .i64 I, .int .i64 TO, .int .i64 AT, .string TX, .int .u8 BY] 38)) (.cells #[.slice none 0 0, .int .i64 0, .int .i64 0, .int .i64 0, .int .i64 0, .int .i64 0] 36) (w.heap.size + 1) (by simp)).trans (heap_new_at (w.alloc (.cells #[.slice A n cap, .int .i64 s.sent, .int .i64 s.taken, .int .i64 s.lost, .int .i64 s.copied, .int .i64 s.spoilt] 36)) (.cells #[.int .i64 4, .int .i64 I, .int .i64 TO, .int .i64 AT, .string TX, .int .u8 BY] 38) (w.heap.size + 1) (by simp))))
  have K2 := Lib.hid ((heap_new_lt (((w.alloc (.cells #[.slice A n cap, .int .i64 s.sent, .int .i64 s.taken, .int .i64 s.lost, .int .i64 s.copied, .int .i64 s.spoilt] 36)).alloc (.cells #[.int .i64 4, .int .i64 I, .int .i64 TO, .int .i64 AT, .string TX, .int .u8 BY] 38)).alloc (.cells #[.slice none 0 0, .int .i64 0, .int .i64 0, .int .i64 0, .int .i64 0, .int .i64 0] 36)) (.cells #[.int .i64 0, .string ⟨#[]⟩] 40) (w.heap.size + 1 + 1) (by simp)).trans (heap_new_at ((w.alloc (.cells #[.slice A n cap, .int .i64 s.sent, .int .i64 s.taken, .int .i64 s.lost, .int .i64 s.copied, .int .i64 s.spoilt] 36)).alloc (.cells #[.int .i64 4, .int .i64 I, .int .i64 TO, .int .i64 AT, .string TX, .int .u8 BY] 38)) (.cells #[.slice none 0 0, .int .i64 0, .int .i64 0, .int .i64 0, .int .i64 0, .int .i64 0] 36) (w.heap.size + 1 + 1) (by simp)))
  have K3 := Lib.hid (heap_new_at (((w.alloc (.cells #[.slice A n cap, .int .i64 s.sent, .int .i64 s.taken, .int .i64 s.lost, .int .i64 s.copied, .int .i64 s.spoilt] 36)).alloc (.cells #[.int .i64 4, .int .i64 I, .int .i64 TO, .int .i64 AT, .string TX, .int .u8 BY] 38)).alloc (.cells #[.slice none 0 0, .int .i64 0, .int .i64 0, .int .i64 0, .int .i64 0, .int .i64 0] 36)) (.cells #[.int .i64 0, .string ⟨#[]⟩] 40) (w.heap.size + 1 + 1 + 1) (by simp))
  have HT := fun W (hW : RV W A n cap s) => ref_Spoil W A n cap s I AT BY hW hs hlen hsz hBy
  generalize s.spoil I AT BY = r at HT ⊢
  obtain ⟨s2, N⟩ := r
  have HC := Lib.hid HT
  clear h HT
  unfold rvV
  go_enter Try.func14, Try.ntmps14
  go_wp2_with fail
  refine (HC.out _ HV.out).mono ?_
  rintro e w1 ⟨⟨A2, m2, c2, rfl, hR⟩, hb1⟩
  have HR := Lib.hid hR
  have B1 : Below w.heap.size w w1 := Below.then_ (by repeat (first | with_reducible exact Below.refl _ _ | with_reducible assumption | ((with_reducible refine Below.setCell ?_ ?_ _); rotate_left; · (first | omega | exact Nat.le_refl _ | (simp <;> omega))) | (with_reducible refine Below.allocW ?_ _) | (with_reducible refine Below.drew ?_) | (with_reducible refine Below.extW ?_ _))) hb1
  have e0 := blk_below K0.out hb1
  have e1 := blk_below K1.out hb1
  have e2 := blk_below K2.out hb1
  have e3 := blk_below K3.out hb1
  have cc0 := blk_cell e0
  have cc1 := blk_cell e1
  have cc2 := blk_cell e2
  have cc3 := blk_cell e3
  have cf0 := blk_frozen e0
  have cf2 := blk_frozen e2
  have cf3 := blk_frozen e3
  have z0 := lt_of_block e0
  have z1 := lt_of_block e1
  have z2 := lt_of_block e2
  have z3 := lt_of_block e3
  have T0b := TypeAt.of e0
  have T2b := TypeAt.of e2
  clear hR e0 e1 e2 e3 hb1
  go_wp2_with fail
  have HR0 := HR.out
  refine bodyPost_ret (v := .tuple #[rvV A2 m2 c2 s2, .agg #[.int .i64 0, .string ⟨#[]⟩], .int .i64 N]) (by simp only [results, Try.results14]; go_simp) rfl ⟨⟨A2, m2, c2, rfl, ?_⟩, (by repeat (first | with_reducible exact Below.refl _ _ | with_reducible assumption | ((with_reducible refine Below.setCell ?_ ?_ _); rotate_left; · (first | omega | exact Nat.le_refl _ | (simp <;> omega))) | (with_reducible refine Below.allocW ?_ _) | (with_reducible refine Below.drew ?_) | (with_reducible refine Below.extW ?_ _)))⟩
  refine RV.same (RV.same ?_ ?_) ?_
  · (repeat (first | with_reducible assumption | ((with_reducible refine RV.setT (t := 36) ?_ ?_ (by decide)); rotate_left; · (repeat (first | with_reducible assumption | with_reducible refine TypeAt.setCell ?_ | with_reducible refine TypeAt.alloc ?_ _ | with_reducible refine TypeAt.drew ?_))) | with_reducible refine RV.alloc ?_ _ | with_reducible refine RV.drew ?_))
  all_goals go_simp

set_option maxRecDepth 100000 in
set_option maxHeartbeats 400000 in
theorem ref_Do_3 (w : World) (A : Option Addr) (n cap : Nat) (s : WS) (K I TO AT : Int) (TX : ByteArray) (BY : Int) (h0 : ¬ K = 0) (h1 : ¬ K = 1) (h2 : ¬ K = 2) (h4 : ¬ K = 4) (h : RV w A n cap s) (hs : s.small) (hlen : s.items.length ≤ 256) (hsz : ∀ x ∈ s.items, x.2.size ≤ maxLen) (hBy : 0 ≤ BY ∧ BY ≤ 255) :
    Calls Try.prog 14 #[rvV A n cap s, .agg #[.int .i64 K, .int .i64 I, .int .i64 TO, .int .i64 AT, .string TX, .int .u8 BY]] w (RDoPost w (s.copy I).1 it0 ((s.copy I).2 : Nat)) := by
  have HV := Lib.hid ((((h.alloc (.cells #[.slice A n cap, .int .i64 s.sent, .int .i64 s.taken, .int .i64 s.lost, .int .i64 s.copied, .int .i64 s.spoilt] 36)).alloc (.cells #[.int .i64 K, .int .i64 I, .int .i64 TO, .int .i64 AT, .string TX, .int .u8 BY] 38)).alloc (.cells #[.slice none 0 0, .int .i64 0, .int .i64 0, .int .i64 0, .int .i64 0, .int .i64 0] 36)).alloc (.cells #[.int .i64 0, .string ⟨#[]⟩] 40))
  have K0 := Lib.hid ((heap_new_lt (((w.alloc (.cells #[.slice A n cap, .int .i64 s.sent, .int .i64 s.taken, .int .i64 s.lost, .int .i64 s.copied, .int .i64 s.spoilt] 36)).alloc (.cells #[.int .i64 K, .int .i64 I, .int .i64 TO, .int .i64 AT, .string TX, .int .u8 BY] 38)).alloc (.cells #[.slice none 0 0, .int .i64 0, .int .i64 0, .int .i64 0, .int .i64 0, .int .i64 0] 36)) (.cells #[.int .i64 0, .string ⟨#[]⟩] 40) w.heap.size (by simp <;> omega)).trans ((heap_new_lt ((w.alloc (.cells #[.slice A n cap, .int .i64 s.sent, .int .i64 s.taken, .int .i64 s.lost, .int .i64 s.copied, .int .i64 s.spoilt] 36)).alloc (.cells #[.int .i64 K, .int .i64 I, .int .i64 TO, .int .i64 AT, .string TX, .int .u8 BY] 38)) (.cells #[.slice none 0 0, .int .i64 0, .int .i64 0, .int .i64 0, .int .i64 0, .int .i64 0] 36) w.heap.size (by simp <;> omega)).trans ((heap_new_lt (w.alloc (.cells #[.slice A n cap, .int .i64 s.sent, .int .i64 s.taken, .int .i64 s.lost, .int .i64 s.copied, .int .i64 s.spoilt] 36)) (.cells #[.int .i64 K, .int .i64 I, .int .i64 TO, .int .i64 AT, .string TX, .int .u8 BY] 38) w.heap.size (by simp)).trans (heap_new_at w (.cells #[.slice A n cap, .int .i64 s.sent, .int .i64 s.taken, .int .i64 s.lost, .int .i64 s.copied, .int .i64 s.spoilt] 36) _ rfl))))
  have K1 := Lib.hid ((heap_new_lt (((w.alloc (.cells #[.slice A n cap, .int .i64 s.sent, .int .i64 s.taken, .int .i64 s.lost, .int .i64 s.copied, .int .i64 s.spoilt] 36)).alloc (.cells #[.int .i64 K, .int .i64 I, .int .i64 TO, .int .i64 AT, .string TX, .int .u8 BY] 38)).alloc (.cells #[.slice none 0 0, .int .i64 0, .int .i64 0, .int .i64 0, .int .i64 0, .int .i64 0] 36)) (.cells #[.int .i64 0, .string ⟨#[]⟩] 40) (w.heap.size + 1) (by simp <;> omega)).trans ((heap_new_lt ((w.alloc (.cells #[.slice A n cap, .int .i64 s.sent, .int .i64 s.taken, .int .i64 s.lost, .int .i64 s.copied, .int .i64 s.spoilt] 36)).alloc (.cells #[.int .i64 K, .int .i64 I, .int .i64 TO, .int .i64 AT, .string TX, .int .u8 BY] 38)) (.cells #[.slice none 0 0, .int .i64 0, .int .i64 0, .int .i64 0, .int .i64 0, .int .i64 0] 36) (w.heap.size + 1) (by simp)).trans (heap_new_at (w.alloc (.cells #[.slice A n cap, .int .i64 s.sent, .int .i64 s.taken, .int .i64 s.lost, .int .i64 s.copied, .int .i64 s.spoilt] 36)) (.cells #[.int .i64 K, .int .i64 I, .int .i64 TO, .int .i64 AT, .string TX, .int .u8 BY] 38) (w.heap.size + 1) (by simp))))
  have K2 := Lib.hid ((heap_new_lt (((w.alloc (.cells #[.slice A n cap, .int .i64 s.sent, .int .i64 s.taken, .int .i64 s.lost, .int .i64 s.copied, .int .i64 s.spoilt] 36)).alloc (.cells #[.int .i64 K, .int .i64 I, .int .i64 TO, .int .i64 AT, .string TX, .int .u8 BY] 38)).alloc (.cells #[.slice none 0 0, .int .i64 0, .int .i64 0, .int .i64 0, .int .i64 0, .int .i64 0] 36)) (.cells #[.int .i64 0, .string ⟨#[]⟩] 40) (w.heap.size + 1 + 1) (by simp)).trans (heap_new_at ((w.alloc (.cells #[.slice A n cap, .int .i64 s.sent, .int .i64 s.taken, .int .i64 s.lost, .int .i64 s.copied, .int .i64 s.spoilt] 36)).alloc (.cells #[.int .i64 K, .int .i64 I, .int .i64 TO, .int .i64 AT, .string TX, .int .u8 BY] 38)) (.cells #[.slice none 0 0, .int .i64 0, .int .i64 0, .int .i64 0, .int .i64 0, .int .i64 0] 36) (w.heap.size + 1 + 1) (by simp)))
  have K3 := Lib.hid (heap_new_at (((w.alloc (.cells #[.slice A n cap, .int .i64 s.sent, .int .i64 s.taken, .int .i64 s.lost, .int .i64 s.copied, .int .i64 s.spoilt] 36)).alloc (.cells #[.int .i64 K, .int .i64 I, .int .i64 TO, .int .i64 AT, .string TX, .int .u8 BY] 38)).alloc (.cells #[.slice none 0 0, .int .i64 0, .int .i64 0, .int .i64 0, .int .i64 0, .int .i64 0] 36)) (.cells #[.int .i64 0, .string ⟨#[]⟩] 40) (w.heap.size + 1 + 1 + 1) (by simp))
  have HT := fun W (hW : RV W A n cap s) => ref_Copy W A n cap s I hW hs hlen
  generalize s.copy I = r at HT ⊢
  obtain ⟨s2, N⟩ := r
  have HC := Lib.hid HT
  clear h HT
  unfold rvV
  go_enter Try.func14, Try.ntmps14
  go_wp2_with fail
  refine (HC.out _ HV.out).mono ?_
  rintro e w1 ⟨⟨A2, m2, c2, rfl, hR⟩, hb1⟩
  have HR := Lib.hid hR
  have B1 : Below w.heap.size w w1 := Below.then_ (by repeat (first | with_reducible exact Below.refl _ _ | with_reducible assumption | ((with_reducible refine Below.setCell ?_ ?_ _); rotate_left; · (first | omega | exact Nat.le_refl _ | (simp <;> omega))) | (with_reducible refine Below.allocW ?_ _) | (with_reducible refine Below.drew ?_) | (with_reducible refine Below.extW ?_ _))) hb1
  have e0 := blk_below K0.out hb1
  have e1 := blk_below K1.out hb1
  have e2 := blk_below K2.out hb1
  have e3 := blk_below K3.out hb1
  have cc0 := blk_cell e0
  have cc1 := blk_cell e1
  have cc2 := blk_cell e2
  have cc3 := blk_cell e3
  have cf0 := blk_frozen e0
  have cf2 := blk_frozen e2
  have cf3 := blk_frozen e3
  have z0 := lt_of_block e0
  have z1 := lt_of_block e1
  have z2 := lt_of_block e2
  have z3 := lt_of_block e3
  have T0b := TypeAt.of e0
  have T2b := TypeAt.of e2
  clear hR e0 e1 e2 e3 hb1
  go_wp2_with fail
  have HR0 := HR.out
  refine bodyPost_ret (v := .tuple #[rvV A2 m2 c2 s2, .agg #[.int .i64 0, .string ⟨#[]⟩], .int .i64 N]) (by simp only [results, Try.results14]; go_simp) rfl ⟨⟨A2, m2, c2, rfl, ?_⟩, (by repeat (first | with_reducible exact Below.refl _ _ | with_reducible assumption | ((with_reducible refine Below.setCell ?_ ?_ _); rotate_left; · (first | omega | exact Nat.le_refl _ | (simp <;> omega))) | (with_reducible refine Below.allocW ?_ _) | (with_reducible refine Below.drew ?_) | (with_reducible refine Below.extW ?_ _)))⟩
  refine RV.same (RV.same ?_ ?_) ?_
  · (repeat (first | with_reducible assumption | ((with_reducible refine RV.setT (t := 36) ?_ ?_ (by decide)); rotate_left; · (repeat (first | with_reducible assumption | with_reducible refine TypeAt.setCell ?_ | with_reducible refine TypeAt.alloc ?_ _ | with_reducible refine TypeAt.drew ?_))) | with_reducible refine RV.alloc ?_ _ | with_reducible refine RV.drew ?_))
  all_goals go_simp

set_option maxRecDepth 100000 in
set_option maxHeartbeats 400000 in
theorem ref_Do_1n (w : World) (A : Option Addr) (n cap : Nat) (s : WS) (I TO AT : Int) (TX : ByteArray) (BY : Int) (hi : s.has I = false) (h : RV w A n cap s) (hs : s.small) (hlen : s.items.length ≤ 256) (hsz : ∀ x ∈ s.items, x.2.size ≤ maxLen) (hBy : 0 ≤ BY ∧ BY ≤ 255) :
    Calls Try.prog 14 #[rvV A n cap s, .agg #[.int .i64 1, .int .i64 I, .int .i64 TO, .int .i64 AT, .string TX, .int .u8 BY]] w (RDoPost w s it0 0) := by
  have HV := Lib.hid ((((h.alloc (.cells #[.slice A n cap, .int .i64 s.sent, .int .i64 s.taken, .int .i64 s.lost, .int .i64 s.copied, .int .i64 s.spoilt] 36)).alloc (.cells #[.int .i64 1, .int .i64 I, .int .i64 TO, .int .i64 AT, .string TX, .int .u8 BY] 38)).alloc (.cells #[.slice none 0 0, .int .i64 0, .int .i64 0, .int .i64 0, .int .i64 0, .int .i64 0] 36)).alloc (.cells #[.int .i64 0, .string ⟨#[]⟩] 40))
  have K0 := Lib.hid ((heap_new_lt (((w.alloc (.cells #[.slice A n cap, .int .i64 s.sent, .int .i64 s.taken, .int .i64 s.lost, .int .i64 s.copied, .int .i64 s.spoilt] 36)).alloc (.cells #[.int .i64 1, .int .i64 I, .int .i64 TO, .int .i64 AT, .string TX, .int .u8 BY] 38)).alloc (.cells #[.slice none 0 0, .int .i64 0, .int .i64 0, .int .i64 0, .int .i64 0, .int .i64 0] 36)) (.cells #[.int .i64 0, .string ⟨#[]⟩] 40) w.heap.size (by simp <;> omega)).trans ((heap_new_lt ((w.alloc (.cells #[.slice A n cap, .int .i64 s.sent, .int .i64 s.taken, .int .i64 s.lost, .int .i64 s.copied, .int .i64 s.spoilt] 36)).alloc (.cells #[.int .i64 1, .int .i64 I, .int .i64 TO, .int .i64 AT, .string TX, .int .u8 BY] 38)) (.cells #[.slice none 0 0, .int .i64 0, .int .i64 0, .int .i64 0, .int .i64 0, .int .i64 0] 36) w.heap.size (by simp <;> omega)).trans ((heap_new_lt (w.alloc (.cells #[.slice A n cap, .int .i64 s.sent, .int .i64 s.taken, .int .i64 s.lost, .int .i64 s.copied, .int .i64 s.spoilt] 36)) (.cells #[.int .i64 1, .int .i64 I, .int .i64 TO, .int .i64 AT, .string TX, .int .u8 BY] 38) w.heap.size (by simp)).trans (heap_new_at w (.cells #[.slice A n cap, .int .i64 s.sent, .int .i64 s.taken, .int .i64 s.lost, .int .i64 s.copied, .int .i64 s.spoilt] 36) _ rfl))))
  have K1 := Lib.hid ((heap_new_lt (((w.alloc (.cells #[.slice A n cap, .int .i64 s.sent, .int .i64 s.taken, .int .i64 s.lost, .int .i64 s.copied, .int .i64 s.spoilt] 36)).alloc (.cells #[.int .i64 1, .int .i64 I, .int .i64 TO, .int .i64 AT, .string TX, .int .u8 BY] 38)).alloc (.cells #[.slice none 0 0, .int .i64 0, .int .i64 0, .int .i64 0, .int .i64 0, .int .i64 0] 36)) (.cells #[.int .i64 0, .string ⟨#[]⟩] 40) (w.heap.size + 1) (by simp <;> omega)).trans ((heap_new_lt ((w.alloc (.cells #[.slice A n cap, .int .i64 s.sent, .int .i64 s.taken, .int .i64 s.lost, .int .i64 s.copied, .int .i64 s.spoilt] 36)).alloc (.cells #[.int .i64 1, .int .i64 I, .int .i64 TO, .int .i64 AT, .string TX, .int .u8 BY] 38)) (.cells #[.slice none 0 0, .int .i64 0, .int .i64 0, .int .i64 0, .int .i64 0, .int .i64 0] 36) (w.heap.size + 1) (by simp)).trans (heap_new_at (w.alloc (.cells #[.slice A n cap, .int .i64 s.sent, .int .i64 s.taken, .int .i64 s.lost, .int .i64 s.copied, .int .i64 s.spoilt] 36)) (.cells #[.int .i64 1, .int .i64 I, .int .i64 TO, .int .i64 AT, .string TX, .int .u8 BY] 38) (w.heap.size + 1) (by simp))))
  have K2 := Lib.hid ((heap_new_lt (((w.alloc (.cells #[.slice A n cap, .int .i64 s.sent, .int .i64 s.taken, .int .i64 s.lost, .int .i64 s.copied, .int .i64 s.spoilt] 36)).alloc (.cells #[.int .i64 1, .int .i64 I, .int .i64 TO, .int .i64 AT, .string TX, .int .u8 BY] 38)).alloc (.cells #[.slice none 0 0, .int .i64 0, .int .i64 0, .int .i64 0, .int .i64 0, .int .i64 0] 36)) (.cells #[.int .i64 0, .string ⟨#[]⟩] 40) (w.heap.size + 1 + 1) (by simp)).trans (heap_new_at ((w.alloc (.cells #[.slice A n cap, .int .i64 s.sent, .int .i64 s.taken, .int .i64 s.lost, .int .i64 s.copied, .int .i64 s.spoilt] 36)).alloc (.cells #[.int .i64 1, .int .i64 I, .int .i64 TO, .int .i64 AT, .string TX, .int .u8 BY] 38)) (.cells #[.slice none 0 0, .int .i64 0, .int .i64 0, .int .i64 0, .int .i64 0, .int .i64 0] 36) (w.heap.size + 1 + 1) (by simp)))
  have K3 := Lib.hid (heap_new_at (((w.alloc (.cells #[.slice A n cap, .int .i64 s.sent, .int .i64 s.taken, .int .i64 s.lost, .int .i64 s.copied, .int .i64 s.spoilt] 36)).alloc (.cells #[.int .i64 1, .int .i64 I, .int .i64 TO, .int .i64 AT, .string TX, .int .u8 BY] 38)).alloc (.cells #[.slice none 0 0, .int .i64 0, .int .i64 0, .int .i64 0, .int .i64 0, .int .i64 0] 36)) (.cells #[.int .i64 0, .string ⟨#[]⟩] 40) (w.heap.size + 1 + 1 + 1) (by simp))
  clear h
  unfold rvV
  go_enter Try.func14, Try.ntmps14
  go_wp2_with fail
  refine (ref_Take_no _ A n cap s I HV.out hi).mono ?_
  rintro e w1 ⟨⟨A2, m2, c2, rfl, hR⟩, hb1⟩
  have HR := Lib.hid hR
  have B1 : Below w.heap.size w w1 := Below.then_ (by repeat (first | with_reducible exact Below.refl _ _ | with_reducible assumption | ((with_reducible refine Below.setCell ?_ ?_ _); rotate_left; · (first | omega | exact Nat.le_refl _ | (simp <;> omega))) | (with_reducible refine Below.allocW ?_ _) | (with_reducible refine Below.drew ?_) | (with_reducible refine Below.extW ?_ _))) hb1
  have e0 := blk_below K0.out hb1
  have e1 := blk_below K1.out hb1
  have e2 := blk_below K2.out hb1
  have e3 := blk_below K3.out hb1
  have cc0 := blk_cell e0
  have cc1 := blk_cell e1
  have cc2 := blk_cell e2
  have cc3 := blk_cell e3
  have cf0 := blk_frozen e0
  have cf2 := blk_frozen e2
  have cf3 := blk_frozen e3
  have z0 := lt_of_block e0
  have z1 := lt_of_block e1
  have z2 := lt_of_block e2
  have z3 := lt_of_block e3
  have T0b := TypeAt.of e0
  have T2b := TypeAt.of e2
  clear hR e0 e1 e2 e3 hb1
  go_wp2_with fail
  have HR0 := HR.out
  have n0 : w1.heap.size ≠ w.heap.size + 1 + 1 := by omega
  have n1 : w1.heap.size ≠ w.heap.size + 1 + 1 + 1 := by omega
  have n2 : w1.heap.size + 1 ≠ w.heap.size + 1 + 1 := by omega
  have n3 : w1.heap.size + 1 ≠ w.heap.size + 1 + 1 + 1 := by omega
  go_region_held3 (fun w' => w'.cell? ⟨w1.heap.size, 0, none⟩ = some (.slice A2 m2 c2) ∧ w'.cell? ⟨w1.heap.size, 1, none⟩ = some (.int .i64 s.sent) ∧ w'.cell? ⟨w1.heap.size, 2, none⟩ = some (.int .i64 s.taken) ∧ w'.cell? ⟨w1.heap.size, 3, none⟩ = some (.int .i64 s.lost) ∧ w'.cell? ⟨w1.heap.size, 4, none⟩ = some (.int .i64 s.copied) ∧ w'.cell? ⟨w1.heap.size, 5, none⟩ = some (.int .i64 s.spoilt) ∧ w'.cell? ⟨w1.heap.size + 1, 0, none⟩ = some (.int .i64 0) ∧ w'.cell? ⟨w1.heap.size + 1, 1, none⟩ = some (.string ⟨#[]⟩))
    (first | (simp [*, go_sem]; done) | (simp [*, go_sem]; omega))
    (fail)
  go_wp2_with fail
  refine bodyPost_ret (v := .tuple #[.agg #[.slice A2 m2 c2, .int .i64 s.sent, .int .i64 s.taken, .int .i64 s.lost, .int .i64 s.copied, .int .i64 s.spoilt], .agg #[.int .i64 0, .string ⟨#[]⟩], .int .i64 0]) (by simp only [results, Try.results14]; go_simp) rfl ⟨⟨A2, m2, c2, rfl, ?_⟩, (by repeat (first | with_reducible exact Below.refl _ _ | with_reducible assumption | ((with_reducible refine Below.setCell ?_ ?_ _); rotate_left; · (first | omega | exact Nat.le_refl _ | (simp <;> omega))) | (with_reducible refine Below.allocW ?_ _) | (with_reducible refine Below.drew ?_) | (with_reducible refine Below.extW ?_ _)))⟩
  refine RV.drew (RV.alloc (RV.alloc (RV.same (RV.same ?_ ?_) ?_) _) _)
  · (repeat (first | with_reducible assumption | ((with_reducible refine RV.setT (t := 36) ?_ ?_ (by decide)); rotate_left; · (repeat (first | with_reducible assumption | with_reducible refine TypeAt.setCell ?_ | with_reducible refine TypeAt.alloc ?_ _ | with_reducible refine TypeAt.drew ?_))) | with_reducible refine RV.alloc ?_ _ | with_reducible refine RV.drew ?_))
  all_goals (simp [*, go_sem] <;> omega)

set_option maxRecDepth 100000 in
set_option maxHeartbeats 400000 in
theorem ref_Do_1y (w : World) (A : Option Addr) (n cap : Nat) (s : WS) (k : Nat) (TO AT : Int) (TX : ByteArray) (BY : Int) (hk : k < s.items.length) (hi : s.has k = true) (h : RV w A n cap s) (hs : s.small) (hlen : s.items.length ≤ 256) (hsz : ∀ x ∈ s.items, x.2.size ≤ maxLen) (hBy : 0 ≤ BY ∧ BY ≤ 255) :
    Calls Try.prog 14 #[rvV A n cap s, .agg #[.int .i64 1, .int .i64 k, .int .i64 TO, .int .i64 AT, .string TX, .int .u8 BY]] w (RDoPost w { s.cut k with taken := s.taken + 1 } s.items[k] 1) := by
  have HV := Lib.hid ((((h.alloc (.cells #[.slice A n cap, .int .i64 s.sent, .int .i64 s.taken, .int .i64 s.lost, .int .i64 s.copied, .int .i64 s.spoilt] 36)).alloc (.cells #[.int .i64 1, .int .i64 k, .int .i64 TO, .int .i64 AT, .string TX, .int .u8 BY] 38)).alloc (.cells #[.slice none 0 0, .int .i64 0, .int .i64 0, .int .i64 0, .int .i64 0, .int .i64 0] 36)).alloc (.cells #[.int .i64 0, .string ⟨#[]⟩] 40))
  have K0 := Lib.hid ((heap_new_lt (((w.alloc (.cells #[.slice A n cap, .int .i64 s.sent, .int .i64 s.taken, .int .i64 s.lost, .int .i64 s.copied, .int .i64 s.spoilt] 36)).alloc (.cells #[.int .i64 1, .int .i64 k, .int .i64 TO, .int .i64 AT, .string TX, .int .u8 BY] 38)).alloc (.cells #[.slice none 0 0, .int .i64 0, .int .i64 0, .int .i64 0, .int .i64 0, .int .i64 0] 36)) (.cells #[.int .i64 0, .string ⟨#[]⟩] 40) w.heap.size (by simp <;> omega)).trans ((heap_new_lt ((w.alloc (.cells #[.slice A n cap, .int .i64 s.sent, .int .i64 s.taken, .int .i64 s.lost, .int .i64 s.copied, .int .i64 s.spoilt] 36)).alloc (.cells #[.int .i64 1, .int .i64 k, .int .i64 TO, .int .i64 AT, .string TX, .int .u8 BY] 38)) (.cells #[.slice none 0 0, .int .i64 0, .int .i64 0, .int .i64 0, .int .i64 0, .int .i64 0] 36) w.heap.size (by simp <;> omega)).trans ((heap_new_lt (w.alloc (.cells #[.slice A n cap, .int .i64 s.sent, .int .i64 s.taken, .int .i64 s.lost, .int .i64 s.copied, .int .i64 s.spoilt] 36)) (.cells #[.int .i64 1, .int .i64 k, .int .i64 TO, .int .i64 AT, .string TX, .int .u8 BY] 38) w.heap.size (by simp)).trans (heap_new_at w (.cells #[.slice A n cap, .int .i64 s.sent, .int .i64 s.taken, .int .i64 s.lost, .int .i64 s.copied, .int .i64 s.spoilt] 36) _ rfl))))
  have K1 := Lib.hid ((heap_new_lt (((w.alloc (.cells #[.slice A n cap, .int .i64 s.sent, .int .i64 s.taken, .int .i64 s.lost, .int .i64 s.copied, .int .i64 s.spoilt] 36)).alloc (.cells #[.int .i64 1, .int .i64 k, .int .i64 TO, .int .i64 AT, .string TX, .int .u8 BY] 38)).alloc (.cells #[.slice none 0 0, .int .i64 0, .int .i64 0, .int .i64 0, .int .i64 0, .int .i64 0] 36)) (.cells #[.int .i64 0, .string ⟨#[]⟩] 40) (w.heap.size + 1) (by simp <;> omega)).trans ((heap_new_lt ((w.alloc (.cells #[.slice A n cap, .int .i64 s.sent, .int .i64 s.taken, .int .i64 s.lost, .int .i64 s.copied, .int .i64 s.spoilt] 36)).alloc (.cells #[.int .i64 1, .int .i64 k, .int .i64 TO, .int .i64 AT, .string TX, .int .u8 BY] 38)) (.cells #[.slice none 0 0, .int .i64 0, .int .i64 0, .int .i64 0, .int .i64 0, .int .i64 0] 36) (w.heap.size + 1) (by simp)).trans (heap_new_at (w.alloc (.cells #[.slice A n cap, .int .i64 s.sent, .int .i64 s.taken, .int .i64 s.lost, .int .i64 s.copied, .int .i64 s.spoilt] 36)) (.cells #[.int .i64 1, .int .i64 k, .int .i64 TO, .int .i64 AT, .string TX, .int .u8 BY] 38) (w.heap.size + 1) (by simp))))
  have K2 := Lib.hid ((heap_new_lt (((w.alloc (.cells #[.slice A n cap, .int .i64 s.sent, .int .i64 s.taken, .int .i64 s.lost, .int .i64 s.copied, .int .i64 s.spoilt] 36)).alloc (.cells #[.int .i64 1, .int .i64 k, .int .i64 TO, .int .i64 AT, .string TX, .int .u8 BY] 38)).alloc (.cells #[.slice none 0 0, .int .i64 0, .int .i64 0, .int .i64 0, .int .i64 0, .int .i64 0] 36)) (.cells #[.int .i64 0, .string ⟨#[]⟩] 40) (w.heap.size + 1 + 1) (by simp)).trans (heap_new_at ((w.alloc (.cells #[.slice A n cap, .int .i64 s.sent, .int .i64 s.taken, .int .i64 s.lost, .int .i64 s.copied, .int .i64 s.spoilt] 36)).alloc (.cells #[.int .i64 1, .int .i64 k, .int .i64 TO, .int .i64 AT, .string TX, .int .u8 BY] 38)) (.cells #[.slice none 0 0, .int .i64 0, .int .i64 0, .int .i64 0, .int .i64 0, .int .i64 0] 36) (w.heap.size + 1 + 1) (by simp)))
  have K3 := Lib.hid (heap_new_at (((w.alloc (.cells #[.slice A n cap, .int .i64 s.sent, .int .i64 s.taken, .int .i64 s.lost, .int .i64 s.copied, .int .i64 s.spoilt] 36)).alloc (.cells #[.int .i64 1, .int .i64 k, .int .i64 TO, .int .i64 AT, .string TX, .int .u8 BY] 38)).alloc (.cells #[.slice none 0 0, .int .i64 0, .int .i64 0, .int .i64 0, .int .i64 0, .int .i64 0] 36)) (.cells #[.int .i64 0, .string ⟨#[]⟩] 40) (w.heap.size + 1 + 1 + 1) (by simp))
  have HC := Lib.hid (ref_Take_ok _ A n cap s k HV.out hs hlen hk hi)
  obtain ⟨s2, hs2⟩ : ∃ s2 : WS, s2 = { s.cut k with taken := s.taken + 1 } := ⟨_, rfl⟩
  rw [← hs2] at HC ⊢
  clear h hs2
  unfold rvV
  go_enter Try.func14, Try.ntmps14
  go_wp2_with fail
  refine (HC.out).mono ?_
  rintro e w1 ⟨⟨A2, m2, c2, rfl, hR, hF⟩, hb1⟩
  simp only [World.size_alloc] at hF
  have HF := Lib.hid hF
  clear hF
  have HR := Lib.hid hR
  have B1 : Below w.heap.size w w1 := Below.then_ (by repeat (first | with_reducible exact Below.refl _ _ | with_reducible assumption | ((with_reducible refine Below.setCell ?_ ?_ _); rotate_left; · (first | omega | exact Nat.le_refl _ | (simp <;> omega))) | (with_reducible refine Below.allocW ?_ _) | (with_reducible refine Below.drew ?_) | (with_reducible refine Below.extW ?_ _))) hb1
  have e0 := blk_below K0.out hb1
  have e1 := blk_below K1.out hb1
  have e2 := blk_below K2.out hb1
  have e3 := blk_below K3.out hb1
  have cc0 := blk_cell e0
  have cc1 := blk_cell e1
  have cc2 := blk_cell e2
  have cc3 := blk_cell e3
  have cf0 := blk_frozen e0
  have cf2 := blk_frozen e2
  have cf3 := blk_frozen e3
  have z0 := lt_of_block e0
  have z1 := lt_of_block e1
  have z2 := lt_of_block e2
  have z3 := lt_of_block e3
  have T0b := TypeAt.of e0
  have T2b := TypeAt.of e2
  clear hR e0 e1 e2 e3 hb1
  go_wp2_with fail
  have HR0 := HR.out
  have n0 : w1.heap.size ≠ w.heap.size + 1 + 1 := by omega
  have n1 : w1.heap.size ≠ w.heap.size + 1 + 1 + 1 := by omega
  have n2 : w1.heap.size + 1 ≠ w.heap.size + 1 + 1 := by omega
  have n3 : w1.heap.size + 1 ≠ w.heap.size + 1 + 1 + 1 := by omega
  go_region_held3 (fun w' => w'.cell? ⟨w1.heap.size, 0, none⟩ = some (.slice A2 m2 c2) ∧ w'.cell? ⟨w1.heap.size, 1, none⟩ = some (.int .i64 s2.sent) ∧ w'.cell? ⟨w1.heap.size, 2, none⟩ = some (.int .i64 s2.taken) ∧ w'.cell? ⟨w1.heap.size, 3, none⟩ = some (.int .i64 s2.lost) ∧ w'.cell? ⟨w1.heap.size, 4, none⟩ = some (.int .i64 s2.copied) ∧ w'.cell? ⟨w1.heap.size, 5, none⟩ = some (.int .i64 s2.spoilt) ∧ w'.cell? ⟨w1.heap.size + 1, 0, none⟩ = some (.int .i64 s.items[k].1) ∧ w'.cell? ⟨w1.heap.size + 1, 1, none⟩ = some (.string s.items[k].2))
    (first | (simp [*, go_sem]; done) | (simp [*, go_sem]; omega))
    (fail)
  go_wp2_with fail
  refine bodyPost_ret (v := .tuple #[.agg #[.slice A2 m2 c2, .int .i64 s2.sent, .int .i64 s2.taken, .int .i64 s2.lost, .int .i64 s2.copied, .int .i64 s2.spoilt], .agg #[.int .i64 s.items[k].1, .string s.items[k].2], .int .i64 1]) (by simp only [results, Try.results14]; go_simp) rfl ⟨⟨A2, m2, c2, rfl, ?_⟩, (by repeat (first | with_reducible exact Below.refl _ _ | with_reducible assumption | ((with_reducible refine Below.setCell ?_ ?_ _); rotate_left; · (first | omega | exact Nat.le_refl _ | (simp <;> omega))) | (with_reducible refine Below.allocW ?_ _) | (with_reducible refine Below.drew ?_) | (with_reducible refine Below.extW ?_ _)))⟩
  refine RV.drew (RV.alloc (RV.alloc (RV.setN (b0 := w.heap.size + 1 + 1 + 1 + 1) (RV.setN (b0 := w.heap.size + 1 + 1 + 1 + 1) ?_ HF.out (by simp)) HF.out (by simp)) _) _)
  (repeat (first | with_reducible assumption | ((with_reducible refine RV.setT (t := 36) ?_ ?_ (by decide)); rotate_left; · (repeat (first | with_reducible assumption | with_reducible refine TypeAt.setCell ?_ | with_reducible refine TypeAt.alloc ?_ _ | with_reducible refine TypeAt.drew ?_))) | with_reducible refine RV.alloc ?_ _ | with_reducible refine RV.drew ?_))

theorem ref_Do (w : World) (A : Option Addr) (n cap : Nat) (s : WS) (o : OpS) (h : RV w A n cap s) (hs : s.small) (hlen : s.items.length ≤ 256) (hsz : ∀ x ∈ s.items, x.2.size ≤ maxLen) (hok : o.ok) :
    Calls Try.prog 14 #[rvV A n cap s, opV o] w (RDoPost w (s.do_ o).1 (s.do_ o).2.1 (s.do_ o).2.2) := by
  obtain ⟨K, I, TO, AT, TX, BY⟩ := o
  have hBy : 0 ≤ BY ∧ BY ≤ 255 := ⟨hok.1, hok.2.1⟩
  by_cases h0 : K = 0
  · subst h0
    rw [do_0 s _ rfl]
    exact ref_Do_0 w A n cap s I TO AT TX BY h hs hlen hsz hBy
  · by_cases h1 : K = 1
    · subst h1
      rw [do_1 s _ rfl]
      cases hi : s.has I
      · have e1 : s.at_ I = (0, ⟨#[]⟩, false) := by simp [WS.at_, hi]
        have e2 : s.take I = s := by simp [WS.take, hi]
        have := ref_Do_1n w A n cap s I TO AT TX BY hi h hs hlen hsz hBy
        simp only [e1, e2]
        exact this
      · obtain ⟨k, rfl, hk⟩ := WS.has_tt hi
        have e1 : s.at_ k = (s.items[k].1, s.items[k].2, true) := by simp [WS.at_, hi, hk]
        have e2 : s.take k = { s.cut k with taken := s.taken + 1 } := by simp [WS.take, hi]
        have := ref_Do_1y w A n cap s k TO AT TX BY hk hi h hs hlen hsz hBy
        simp only [e1, e2]
        exact this
    · by_cases h2 : K = 2
      · subst h2
        rw [do_2 s _ rfl]
        exact ref_Do_2 w A n cap s I TO AT TX BY h hs hlen hsz hBy
      · by_cases h4 : K = 4
        · subst h4
          rw [do_4 s _ rfl]
          exact ref_Do_4 w A n cap s I TO AT TX BY h hs hlen hsz hBy
        · rw [do_3 s _ h0 h1 h2 h4]
          exact ref_Do_3 w A n cap s K I TO AT TX BY h0 h1 h2 h4 h hs hlen hsz hBy
end Go.Proofs.Ytclkcbhghbdffaa
