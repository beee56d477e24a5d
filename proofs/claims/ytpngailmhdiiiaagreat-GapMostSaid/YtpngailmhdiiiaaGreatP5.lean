/-
  Texts of this proof, one behind the other: GapAt, Part1, GapParts, GapEnds, Leaf, MemIn, BinsLaw, Runs, ReachRef, Edges, BinsOfP, DigCells, MemTwo, SortZ, GapIter, GapStops, GapTurn, GapApart, GapMost, GapMostY, GapNil, GapNobodyW.
-/
import Derived.Deep.RegionWith
import Derived.Deep.DeepCutAuto
import Derived.Lib.SlicesCompact
import Derived.Laws.BitsLemmas
import Derived.OwnWalkIn
import Derived.Test.YtpngailmhdiiiaaGreatShelf
import Derived.Test.YtpngailmhdiiiaaGreatP2
import Derived.Test.YtpngailmhdiiiaaGreatP3
import Derived.Test.YtpngailmhdiiiaaGreatP4
/- The reference of layer 21 (gap): at, Side. -/
set_option linter.unusedSimpArgs false namespace Go.Proofs.YtpngailmhdiiiaaGreat
open Go.ChangeShapes Go.WideShapes Go.ChangeAt Go.RowKit
set_option linter.unusedVariables false
set_option linter.unusedSimpArgs false
set_option maxRecDepth 100000

/-- The record of a digest, in a box. -/
def digBox (W : World) (b : Nat) (k u : Int) (A : Option Addr) (n cap : Nat) : Prop := W.heap[b]? = some (.cells #[.int .i64 k, .int .i64 u, .slice A n cap] 37 (0, 0))
theorem digBox.below {w w' : World} {b : Nat} {k u : Int} {A : Option Addr} {n cap : Nat} (h : digBox w b k u A n cap) (hb : Below w.heap.size w w') : digBox w' b k u A n cap := blk_below h hb
theorem digBox.set {w : World} {b : Nat} {k u : Int} {A : Option Addr} {n cap : Nat} (h : digBox w b k u A n cap) {p : Addr} (hne : b ≠ p.block) (v : Value) : digBox (w.setCell p v) b k u A n cap := (Below.heap_setCell _ _ _ _ hne).trans h
theorem SlU.alloc {α : Type} {size : Nat} {w : World} {E : Enc α size} {A : Option Addr} {l : List α} (h : Sl w w.heap.size E A l) (o : Obj) : Sl (w.alloc o) (w.alloc o).heap.size E A l := h.keep (by simp) fun p hp => Go.RowKit.Below.cell (B := w.heap.size) ((Below.refl _ _).alloc (Nat.le_refl _) o) hp
theorem SlU.ext {α : Type} {size : Nat} {w : World} {E : Enc α size} {A : Option Addr} {l : List α} (h : Sl w w.heap.size E A l) (x : Ext) : Sl (ext w x) (ext w x).heap.size E A l := h.keep (by simp [Go.Proofs.YtpngailmhdiiiaaGreat.ext]) fun p hp => (ext_below w x).cell hp
theorem SlU.drew {α : Type} {size : Nat} {w : World} {E : Enc α size} {A : Option Addr} {l : List α} (h : Sl w w.heap.size E A l) : Sl w.drew w.drew.heap.size E A l := h
/-- What region 1 leaves. -/
structure AtR (W0 : World) (P Q : Nat) (pl ph ql qh : Int) (W : World) : Prop where
  p0 : W.cell? ⟨P, 0, none⟩ = some (.int .i64 pl)
  p1 : W.cell? ⟨P, 1, none⟩ = some (.int .i64 ph)
  q0 : W.cell? ⟨Q, 0, none⟩ = some (.int .i64 ql)
  q1 : W.cell? ⟨Q, 1, none⟩ = some (.int .i64 qh)
  pz : P < W.heap.size
  qz : Q < W.heap.size
  blw : Below W0.heap.size W0 W
set_option maxHeartbeats 4000000 in
theorem ref21_at (w : World) (k1 k2 u1 u2 : Int) (A1 A2 : Option Addr) (cap1 cap2 : Nat) (r1 r2 : List Nd) (x : Int) (hS1 : Sl w w.heap.size encN A1 r1) (hS2 : Sl w w.heap.size encN A2 r2) (hI1 : ints r1) (hI2 : ints r2) (m1 : r1.length ≤ 67108864) (m2 : r2.length ≤ 67108864)
    (hr1 : Roll r1) (hr2 : Roll r2) (hs1 : sumR r1 ≤ 72057594037927935) (hs2 : sumR r2 ≤ 72057594037927935) (t1 : (totalOf r1).1 = sumR r1) (t2 : (totalOf r2).1 = sumR r2) :
    Calls Tryz.prog 89 #[.agg #[.int .i64 k1, .int .i64 u1, .slice A1 r1.length cap1], .agg #[.int .i64 k2, .int .i64 u2, .slice A2 r2.length cap2], .int .i64 x] w fun e w' => e = .returned (.int .i64 (sideV (sumR r1) (sumR r2) (lowOf u1 r1 x) (highOf u1 r1 x) (lowOf u2 r2 x) (highOf u2 r2 x))) ∧ Below w.heap.size w w' := by
  have HA1 := Lib.hid (fun (W : World) (h : Sl W W.heap.size encN A1 r1) => ref21_both W k1 u1 A1 cap1 r1 x h hI1 m1 hr1 hs1)
  have HA2 := Lib.hid (fun (W : World) (h : Sl W W.heap.size encN A2 r2) => ref21_both W k2 u2 A2 cap2 r2 x h hI2 m2 hr2 hs2)
  have HW1 := Lib.hid (ref13_Weight · k1 u1 A1 cap1 r1 · hI1 (by unfold maxLen; omega))
  have HW2 := Lib.hid (ref13_Weight · k2 u2 A2 cap2 r2 · hI2 (by unfold maxLen; omega))
  rw [t1] at HW1
  rw [t2] at HW2
  have z1 := sumR_nonneg hr1
  have z2 := sumR_nonneg hr2
  have a1 := low_range (l := u1) hr1 x
  have a2 := high_range' (l := u1) hr1 x
  have a3 := low_range (l := u2) hr2 x
  have a4 := high_range' (l := u2) hr2 x
  have BA : Below w.heap.size w ((w.alloc (.cells #[.int .i64 k1, .int .i64 u1, .slice A1 r1.length cap1] 37)).alloc (.cells #[.int .i64 k2, .int .i64 u2, .slice A2 r2.length cap2] 37)) := (by repeat (first | with_reducible exact Below.refl _ _ | with_reducible assumption | ((with_reducible refine Below.setCell ?_ ?_ _); rotate_left; · (first | omega | exact Nat.le_refl _ | (simp <;> omega))) | (with_reducible refine Below.allocW ?_ _) | (with_reducible refine Below.drew ?_) | (with_reducible refine Below.extW ?_ _)))
  have S1 := Lib.hid (hS1.keep (B' := ((w.alloc (.cells #[.int .i64 k1, .int .i64 u1, .slice A1 r1.length cap1] 37)).alloc (.cells #[.int .i64 k2, .int .i64 u2, .slice A2 r2.length cap2] 37)).heap.size) BA.size fun p hp => BA.cell hp)
  have S2 := Lib.hid (hS2.keep (B' := ((w.alloc (.cells #[.int .i64 k1, .int .i64 u1, .slice A1 r1.length cap1] 37)).alloc (.cells #[.int .i64 k2, .int .i64 u2, .slice A2 r2.length cap2] 37)).heap.size) BA.size fun p hp => BA.cell hp)
  have K1 : Hid (digBox ((w.alloc (.cells #[.int .i64 k1, .int .i64 u1, .slice A1 r1.length cap1] 37)).alloc (.cells #[.int .i64 k2, .int .i64 u2, .slice A2 r2.length cap2] 37)) w.heap.size k1 u1 A1 r1.length cap1) := Lib.hid ((heap_new_lt _ _ _ (by simp)).trans (heap_alloc_new w _))
  have K2 : Hid (digBox ((w.alloc (.cells #[.int .i64 k1, .int .i64 u1, .slice A1 r1.length cap1] 37)).alloc (.cells #[.int .i64 k2, .int .i64 u2, .slice A2 r2.length cap2] 37)) (w.heap.size + 1) k2 u2 A2 r2.length cap2) := Lib.hid (heap_new_at (w.alloc _) _ (w.heap.size + 1) (by simp))
  have HB0 := Lib.hid BA
  obtain ⟨n, e1⟩ := Int.eq_ofNat_of_zero_le z1
  obtain ⟨m, e2⟩ := Int.eq_ofNat_of_zero_le z2
  obtain ⟨pl, e3⟩ := Int.eq_ofNat_of_zero_le a1.1
  obtain ⟨ph, e4⟩ := Int.eq_ofNat_of_zero_le a2.1
  obtain ⟨ql, e5⟩ := Int.eq_ofNat_of_zero_le a3.1
  obtain ⟨qh, e6⟩ := Int.eq_ofNat_of_zero_le a4.1
  rw [e1] at HW1 a1 a2 hs1
  rw [e2] at HW2 a3 a4 hs2
  rw [e3] at a1
  rw [e4] at a2
  rw [e5] at a3
  rw [e6] at a4
  rw [e3, e4] at HA1
  rw [e5, e6] at HA2
  rw [e1, e2, e3, e4, e5, e6, sideV_nat]
  have HO1 := Lib.hid (ref1_Order · pl m qh n (by omega) (by omega) (by omega) (by omega))
  have HO2 := Lib.hid (ref1_Order · ph m ql n (by omega) (by omega) (by omega) (by omega))
  have hcase : (0 < ordV pl m qh n ∧ sideN n m pl ph ql qh = 1) ∨ (decide (0 < ordV pl m qh n) = false ∧ ordV ph m ql n < 0 ∧ sideN n m pl ph ql qh = -1) ∨ (decide (0 < ordV pl m qh n) = false ∧ decide (ordV ph m ql n < 0) = false ∧ sideN n m pl ph ql qh = 0) := by
    have q1 : 0 < ordV pl m qh n ↔ qh * n < pl * m := by
      unfold ordV
      have := cmpV_le (pl * m) (qh * n)
      omega
    have q2 : ordV ph m ql n < 0 ↔ ph * m < ql * n := by
      unfold ordV; exact cmpV_lt _ _
    unfold sideN
    by_cases d1 : qh * n < pl * m
    · exact .inl ⟨q1.2 d1, by rw [if_pos d1]⟩
    · by_cases d2 : ph * m < ql * n
      · exact .inr (.inl ⟨by rw [decide_eq_false_iff_not, q1]; exact d1, q2.2 d2, by rw [if_neg d1, if_pos d2]⟩)
      · exact .inr (.inr ⟨by rw [decide_eq_false_iff_not, q1]; exact d1, by rw [decide_eq_false_iff_not, q2]; exact d2, by rw [if_neg d1, if_neg d2]⟩)
  generalize ordV pl m qh n = o1 at HO1 hcase
  generalize ordV ph m ql n = o2 at HO2 hcase
  generalize sideN n m pl ph ql qh = res at hcase ⊢
  clear hS1 hS2 hI1 hI2 hr1 hr2 hs1 hs2 t1 t2 z1 z2 a1 a2 a3 a4 e1 e2 e3 e4 e5 e6 BA
  go_enter Tryz.func89, Tryz.ntmps89
  go_upto_region 1 with fail
  generalize (w.alloc (.cells #[.int .i64 k1, .int .i64 u1, .slice A1 r1.length cap1] 37)).alloc (.cells #[.int .i64 k2, .int .i64 u2, .slice A2 r2.length cap2] 37) = W0 at S1 S2 K1 K2 HB0 ⊢
  have zb1 := lt_of_block K1.out
  have zb2 := lt_of_block K2.out
  have cb1 := blk_cell K1.out
  have cb2 := blk_cell K2.out
  go_cut [7, 8] (fun p q wx => ∃ P Q : Nat, p = .pointer (some ⟨P, 0, none⟩) ∧ q = .pointer (some ⟨Q, 0, none⟩) ∧ AtR W0 P Q pl ph ql qh wx)
  case first =>
    refine wp_region_noPanic ?_
    refine wp_region_N (fun W => Below W0.heap.size W0 W) [] (by kernel_rfl) (Below.drew (Below.refl _ _)) (fun hHeld => ?_)
    refine wpAnyN_take (i := 0) (v := .agg #[.int .i64 k1, .int .i64 u1, .slice A1 r1.length cap1]) rfl (by kernel_rfl) (by kernel_rfl) (by kernel_rfl) (by kernel_rfl) (fun _ _ _ h => h) (Or.inl ⟨by rfl, fun W hW => by have q1 := blk_cell (K1.out.below hW); have q2 := blk_cell (K2.out.below hW); go_simp⟩) hHeld ?_
    try simp only [Act.put, List.setIfInBounds_toArray, List.set_cons_zero, List.set_cons_succ]
    refine wpAnyN_pure (i := 1) (v := .int .i64 x) rfl (by kernel_rfl) (by kernel_rfl) (by kernel_rfl) (fun _ _ _ h => h) (Or.inl ⟨by rfl, fun W _ => by go_simp⟩) ?_
    try simp only [Act.put, List.setIfInBounds_toArray, List.set_cons_zero, List.set_cons_succ]
    refine wpAnyN_take (i := 3) (v := .agg #[.int .i64 k2, .int .i64 u2, .slice A2 r2.length cap2]) rfl (by kernel_rfl) (by kernel_rfl) (by kernel_rfl) (by kernel_rfl) (fun _ _ _ h => h) (Or.inl ⟨by rfl, fun W hW => by have q1 := blk_cell (K1.out.below hW); have q2 := blk_cell (K2.out.below hW); go_simp⟩) hHeld ?_
    try simp only [Act.put, List.setIfInBounds_toArray, List.set_cons_zero, List.set_cons_succ]
    refine wpAnyN_pure (i := 4) (v := .int .i64 x) rfl (by kernel_rfl) (by kernel_rfl) (by kernel_rfl) (fun _ _ _ h => h) (Or.inl ⟨by rfl, fun W _ => by go_simp⟩) ?_
    try simp only [Act.put, List.setIfInBounds_toArray, List.set_cons_zero, List.set_cons_succ]
    have BW0 := hHeld
    clear hHeld
    generalize W0.drew = V0 at BW0 ⊢
    refine wpAnyN_three (i := 2) (k := 6) (m := 7) (by kernel_rfl) rfl rfl rfl (fun K hK => ?_) (fun K hK => ?_) (fun K hK => ?_)
    · skip
      go_simp
      refine (HA1.out _ (S1.out.keep BW0.size fun p hp => BW0.cell hp)).mono ?_
      rintro e V1 ⟨rfl, hb⟩
      have BW1 := BW0.trans (hb.mono BW0.size)
      refine hK.out _ _ (fun _ _ => BW1) ?_
      clear hK K hb
      try simp only [Act.put, List.setIfInBounds_toArray, List.set_cons_zero, List.set_cons_succ]
      refine wpAnyN_three (i := 5) (k := 6) (m := 7) (by kernel_rfl) rfl rfl rfl (fun K hK => ?_) (fun K hK => ?_) (fun K hK => ?_)
      · skip
        go_simp
        refine (HA2.out _ (S2.out.keep BW1.size fun p hp => BW1.cell hp)).mono ?_
        rintro e V2 ⟨rfl, hb⟩
        have BW2 := BW1.trans (hb.mono BW1.size)
        refine hK.out _ _ (fun _ _ => BW2) ?_
        clear hK K hb
        try simp only [Act.put, List.setIfInBounds_toArray, List.set_cons_zero, List.set_cons_succ]
        refine wpAnyN_two (i := 6) (k := 7) (by kernel_rfl) rfl rfl (fun K hK => ?_) (fun K hK => ?_)
        · skip
          go_simp
          refine hK.out _ _ (fun _ _ => BW2.alloc BW2.size _) ?_
          clear hK K
          try simp only [Act.put, List.setIfInBounds_toArray, List.set_cons_zero, List.set_cons_succ]
          have hp3 := heap_alloc_new V2 (.cells #[.int .i64 0, .int .i64 0] 29)
          have BW3 := BW2.alloc BW2.size (.cells #[.int .i64 0, .int .i64 0] 29)
          have gP := BW2.size
          generalize V2.heap.size = P at hp3 gP ⊢
          generalize V2.alloc (.cells #[.int .i64 0, .int .i64 0] 29) = V3 at hp3 BW3 ⊢
          refine wpAnyN_one (i := 7) (by kernel_rfl) rfl (fun K hK => ?_)
          go_simp
          refine hK.out _ _ (fun _ _ => BW3.alloc BW3.size _) ?_
          clear hK K
          try simp only [Act.put, List.setIfInBounds_toArray, List.set_cons_zero, List.set_cons_succ]
          have hq4 := heap_alloc_new V3 (.cells #[.int .i64 0, .int .i64 0] 29)
          have BW4 := BW3.alloc BW3.size (.cells #[.int .i64 0, .int .i64 0] 29)
          have gQ := BW3.size
          have hp4 := blk_below hp3 ((Below.refl V3.heap.size V3).alloc (Nat.le_refl _) (.cells #[.int .i64 0, .int .i64 0] 29))
          have hne := Nat.ne_of_lt (lt_of_block hp3)
          generalize V3.heap.size = Q at hq4 gQ hne ⊢
          generalize V3.alloc (.cells #[.int .i64 0, .int .i64 0] 29) = V4 at hq4 BW4 hp4 ⊢
          refine wpAnyN_one (i := 8) (by kernel_rfl) rfl (fun K hK => ?_)
          have ca := blk_cell hp4
          have fa := blk_frozen hp4
          have za := lt_of_block hp4
          go_simp
          have BW5 : Below W0.heap.size W0 ((V4.setCell ⟨P, 0, none⟩ (.int .i64 pl)).setCell ⟨P, 1, none⟩ (.int .i64 ph)) := (BW4.setCell (p := ⟨P, 0, none⟩) gP _).setCell (p := ⟨P, 1, none⟩) gP _
          refine hK.out _ _ (fun _ _ => BW5) ?_
          clear hK K ca fa za
          try simp only [Act.put, List.setIfInBounds_toArray, List.set_cons_zero, List.set_cons_succ]
          have hp5 := (bothAt.set0 hp4 pl).set1 ph
          have hq5 := (bothAt.set (o := 0) hq4 hne.symm (.int .i64 pl)).set (o := 1) hne.symm (.int .i64 ph)
          generalize ((V4.setCell ⟨P, 0, none⟩ (.int .i64 pl)).setCell ⟨P, 1, none⟩ (.int .i64 ph)) = V5 at BW5 hp5 hq5 ⊢
          refine wpAnyN_one (i := 9) (by kernel_rfl) rfl (fun K hK => ?_)
          have ca := blk_cell hq5
          have fa := blk_frozen hq5
          have za := lt_of_block hq5
          go_simp
          have BW6 : Below W0.heap.size W0 ((V5.setCell ⟨Q, 0, none⟩ (.int .i64 ql)).setCell ⟨Q, 1, none⟩ (.int .i64 qh)) := (BW5.setCell (p := ⟨Q, 0, none⟩) gQ _).setCell (p := ⟨Q, 1, none⟩) gQ _
          refine hK.out _ _ (fun _ _ => BW6) ?_
          clear hK K ca fa za
          try simp only [Act.put, List.setIfInBounds_toArray, List.set_cons_zero, List.set_cons_succ]
          have hq6 := (bothAt.set0 hq5 ql).set1 qh
          have hp6 := (bothAt.set (o := 0) hp5 hne (.int .i64 ql)).set (o := 1) hne (.int .i64 qh)
          generalize ((V5.setCell ⟨Q, 0, none⟩ (.int .i64 ql)).setCell ⟨Q, 1, none⟩ (.int .i64 qh)) = V6 at BW6 hq6 hp6 ⊢
          refine wpAnyN_done (by kernel_rfl) ?_ _
          refine NoPanic.normal ?_
          go_wp2_with fail
          go_meet
          exact ⟨_, _, rfl, rfl, ⟨blk_cell hp6 0, blk_cell hp6 1, blk_cell hq6 0, blk_cell hq6 1, lt_of_block hp6, lt_of_block hq6, BW6⟩⟩
        · skip
          go_simp
          refine hK.out _ _ (fun _ _ => BW2.alloc BW2.size _) ?_
          clear hK K
          try simp only [Act.put, List.setIfInBounds_toArray, List.set_cons_zero, List.set_cons_succ]
          have hq3 := heap_alloc_new V2 (.cells #[.int .i64 0, .int .i64 0] 29)
          have BW3 := BW2.alloc BW2.size (.cells #[.int .i64 0, .int .i64 0] 29)
          have gQ := BW2.size
          generalize V2.heap.size = Q at hq3 gQ ⊢
          generalize V2.alloc (.cells #[.int .i64 0, .int .i64 0] 29) = V3 at hq3 BW3 ⊢
          refine wpAnyN_one (i := 6) (by kernel_rfl) rfl (fun K hK => ?_)
          go_simp
          refine hK.out _ _ (fun _ _ => BW3.alloc BW3.size _) ?_
          clear hK K
          try simp only [Act.put, List.setIfInBounds_toArray, List.set_cons_zero, List.set_cons_succ]
          have hp4 := heap_alloc_new V3 (.cells #[.int .i64 0, .int .i64 0] 29)
          have BW4 := BW3.alloc BW3.size (.cells #[.int .i64 0, .int .i64 0] 29)
          have gP := BW3.size
          have hq4 := blk_below hq3 ((Below.refl V3.heap.size V3).alloc (Nat.le_refl _) (.cells #[.int .i64 0, .int .i64 0] 29))
          have hne := Nat.ne_of_lt (lt_of_block hq3)
          generalize V3.heap.size = P at hp4 gP hne ⊢
          generalize V3.alloc (.cells #[.int .i64 0, .int .i64 0] 29) = V4 at hp4 BW4 hq4 ⊢
          refine wpAnyN_one (i := 8) (by kernel_rfl) rfl (fun K hK => ?_)
          have ca := blk_cell hp4
          have fa := blk_frozen hp4
          have za := lt_of_block hp4
          go_simp
          have BW5 : Below W0.heap.size W0 ((V4.setCell ⟨P, 0, none⟩ (.int .i64 pl)).setCell ⟨P, 1, none⟩ (.int .i64 ph)) := (BW4.setCell (p := ⟨P, 0, none⟩) gP _).setCell (p := ⟨P, 1, none⟩) gP _
          refine hK.out _ _ (fun _ _ => BW5) ?_
          clear hK K ca fa za
          try simp only [Act.put, List.setIfInBounds_toArray, List.set_cons_zero, List.set_cons_succ]
          have hp5 := (bothAt.set0 hp4 pl).set1 ph
          have hq5 := (bothAt.set (o := 0) hq4 hne (.int .i64 pl)).set (o := 1) hne (.int .i64 ph)
          generalize ((V4.setCell ⟨P, 0, none⟩ (.int .i64 pl)).setCell ⟨P, 1, none⟩ (.int .i64 ph)) = V5 at BW5 hp5 hq5 ⊢
          refine wpAnyN_one (i := 9) (by kernel_rfl) rfl (fun K hK => ?_)
          have ca := blk_cell hq5
          have fa := blk_frozen hq5
          have za := lt_of_block hq5
          go_simp
          have BW6 : Below W0.heap.size W0 ((V5.setCell ⟨Q, 0, none⟩ (.int .i64 ql)).setCell ⟨Q, 1, none⟩ (.int .i64 qh)) := (BW5.setCell (p := ⟨Q, 0, none⟩) gQ _).setCell (p := ⟨Q, 1, none⟩) gQ _
          refine hK.out _ _ (fun _ _ => BW6) ?_
          clear hK K ca fa za
          try simp only [Act.put, List.setIfInBounds_toArray, List.set_cons_zero, List.set_cons_succ]
          have hq6 := (bothAt.set0 hq5 ql).set1 qh
          have hp6 := (bothAt.set (o := 0) hp5 hne.symm (.int .i64 ql)).set (o := 1) hne.symm (.int .i64 qh)
          generalize ((V5.setCell ⟨Q, 0, none⟩ (.int .i64 ql)).setCell ⟨Q, 1, none⟩ (.int .i64 qh)) = V6 at BW6 hq6 hp6 ⊢
          refine wpAnyN_done (by kernel_rfl) ?_ _
          refine NoPanic.normal ?_
          go_wp2_with fail
          go_meet
          exact ⟨_, _, rfl, rfl, ⟨blk_cell hp6 0, blk_cell hp6 1, blk_cell hq6 0, blk_cell hq6 1, lt_of_block hp6, lt_of_block hq6, BW6⟩⟩
      · skip
        go_simp
        refine hK.out _ _ (fun _ _ => BW1.alloc BW1.size _) ?_
        clear hK K
        try simp only [Act.put, List.setIfInBounds_toArray, List.set_cons_zero, List.set_cons_succ]
        have hp2 := heap_alloc_new V1 (.cells #[.int .i64 0, .int .i64 0] 29)
        have BW2 := BW1.alloc BW1.size (.cells #[.int .i64 0, .int .i64 0] 29)
        have gP := BW1.size
        generalize V1.heap.size = P at hp2 gP ⊢
        generalize V1.alloc (.cells #[.int .i64 0, .int .i64 0] 29) = V2 at hp2 BW2 ⊢
        refine wpAnyN_two (i := 5) (k := 7) (by kernel_rfl) rfl rfl (fun K hK => ?_) (fun K hK => ?_)
        · skip
          go_simp
          refine (HA2.out _ (S2.out.keep BW2.size fun p hp => BW2.cell hp)).mono ?_
          rintro e V3 ⟨rfl, hb⟩
          have BW3 := BW2.trans (hb.mono BW2.size)
          have hp3 := blk_below hp2 hb
          refine hK.out _ _ (fun _ _ => BW3) ?_
          clear hK K hb
          try simp only [Act.put, List.setIfInBounds_toArray, List.set_cons_zero, List.set_cons_succ]
          refine wpAnyN_one (i := 7) (by kernel_rfl) rfl (fun K hK => ?_)
          go_simp
          refine hK.out _ _ (fun _ _ => BW3.alloc BW3.size _) ?_
          clear hK K
          try simp only [Act.put, List.setIfInBounds_toArray, List.set_cons_zero, List.set_cons_succ]
          have hq4 := heap_alloc_new V3 (.cells #[.int .i64 0, .int .i64 0] 29)
          have BW4 := BW3.alloc BW3.size (.cells #[.int .i64 0, .int .i64 0] 29)
          have gQ := BW3.size
          have hp4 := blk_below hp3 ((Below.refl V3.heap.size V3).alloc (Nat.le_refl _) (.cells #[.int .i64 0, .int .i64 0] 29))
          have hne := Nat.ne_of_lt (lt_of_block hp3)
          generalize V3.heap.size = Q at hq4 gQ hne ⊢
          generalize V3.alloc (.cells #[.int .i64 0, .int .i64 0] 29) = V4 at hq4 BW4 hp4 ⊢
          refine wpAnyN_one (i := 8) (by kernel_rfl) rfl (fun K hK => ?_)
          have ca := blk_cell hp4
          have fa := blk_frozen hp4
          have za := lt_of_block hp4
          go_simp
          have BW5 : Below W0.heap.size W0 ((V4.setCell ⟨P, 0, none⟩ (.int .i64 pl)).setCell ⟨P, 1, none⟩ (.int .i64 ph)) := (BW4.setCell (p := ⟨P, 0, none⟩) gP _).setCell (p := ⟨P, 1, none⟩) gP _
          refine hK.out _ _ (fun _ _ => BW5) ?_
          clear hK K ca fa za
          try simp only [Act.put, List.setIfInBounds_toArray, List.set_cons_zero, List.set_cons_succ]
          have hp5 := (bothAt.set0 hp4 pl).set1 ph
          have hq5 := (bothAt.set (o := 0) hq4 hne.symm (.int .i64 pl)).set (o := 1) hne.symm (.int .i64 ph)
          generalize ((V4.setCell ⟨P, 0, none⟩ (.int .i64 pl)).setCell ⟨P, 1, none⟩ (.int .i64 ph)) = V5 at BW5 hp5 hq5 ⊢
          refine wpAnyN_one (i := 9) (by kernel_rfl) rfl (fun K hK => ?_)
          have ca := blk_cell hq5
          have fa := blk_frozen hq5
          have za := lt_of_block hq5
          go_simp
          have BW6 : Below W0.heap.size W0 ((V5.setCell ⟨Q, 0, none⟩ (.int .i64 ql)).setCell ⟨Q, 1, none⟩ (.int .i64 qh)) := (BW5.setCell (p := ⟨Q, 0, none⟩) gQ _).setCell (p := ⟨Q, 1, none⟩) gQ _
          refine hK.out _ _ (fun _ _ => BW6) ?_
          clear hK K ca fa za
          try simp only [Act.put, List.setIfInBounds_toArray, List.set_cons_zero, List.set_cons_succ]
          have hq6 := (bothAt.set0 hq5 ql).set1 qh
          have hp6 := (bothAt.set (o := 0) hp5 hne (.int .i64 ql)).set (o := 1) hne (.int .i64 qh)
          generalize ((V5.setCell ⟨Q, 0, none⟩ (.int .i64 ql)).setCell ⟨Q, 1, none⟩ (.int .i64 qh)) = V6 at BW6 hq6 hp6 ⊢
          refine wpAnyN_done (by kernel_rfl) ?_ _
          refine NoPanic.normal ?_
          go_wp2_with fail
          go_meet
          exact ⟨_, _, rfl, rfl, ⟨blk_cell hp6 0, blk_cell hp6 1, blk_cell hq6 0, blk_cell hq6 1, lt_of_block hp6, lt_of_block hq6, BW6⟩⟩
        · skip
          go_simp
          refine hK.out _ _ (fun _ _ => BW2.alloc BW2.size _) ?_
          clear hK K
          try simp only [Act.put, List.setIfInBounds_toArray, List.set_cons_zero, List.set_cons_succ]
          have hq3 := heap_alloc_new V2 (.cells #[.int .i64 0, .int .i64 0] 29)
          have BW3 := BW2.alloc BW2.size (.cells #[.int .i64 0, .int .i64 0] 29)
          have gQ := BW2.size
          have hp3 := blk_below hp2 ((Below.refl V2.heap.size V2).alloc (Nat.le_refl _) (.cells #[.int .i64 0, .int .i64 0] 29))
          have hne := Nat.ne_of_lt (lt_of_block hp2)
          generalize V2.heap.size = Q at hq3 gQ hne ⊢
          generalize V2.alloc (.cells #[.int .i64 0, .int .i64 0] 29) = V3 at hq3 BW3 hp3 ⊢
          refine wpAnyN_one (i := 5) (by kernel_rfl) rfl (fun K hK => ?_)
          go_simp
          refine (HA2.out _ (S2.out.keep BW3.size fun p hp => BW3.cell hp)).mono ?_
          rintro e V4 ⟨rfl, hb⟩
          have BW4 := BW3.trans (hb.mono BW3.size)
          have hp4 := blk_below hp3 hb
          have hq4 := blk_below hq3 hb
          refine hK.out _ _ (fun _ _ => BW4) ?_
          clear hK K hb
          try simp only [Act.put, List.setIfInBounds_toArray, List.set_cons_zero, List.set_cons_succ]
          refine wpAnyN_one (i := 8) (by kernel_rfl) rfl (fun K hK => ?_)
          have ca := blk_cell hp4
          have fa := blk_frozen hp4
          have za := lt_of_block hp4
          go_simp
          have BW5 : Below W0.heap.size W0 ((V4.setCell ⟨P, 0, none⟩ (.int .i64 pl)).setCell ⟨P, 1, none⟩ (.int .i64 ph)) := (BW4.setCell (p := ⟨P, 0, none⟩) gP _).setCell (p := ⟨P, 1, none⟩) gP _
          refine hK.out _ _ (fun _ _ => BW5) ?_
          clear hK K ca fa za
          try simp only [Act.put, List.setIfInBounds_toArray, List.set_cons_zero, List.set_cons_succ]
          have hp5 := (bothAt.set0 hp4 pl).set1 ph
          have hq5 := (bothAt.set (o := 0) hq4 hne.symm (.int .i64 pl)).set (o := 1) hne.symm (.int .i64 ph)
          generalize ((V4.setCell ⟨P, 0, none⟩ (.int .i64 pl)).setCell ⟨P, 1, none⟩ (.int .i64 ph)) = V5 at BW5 hp5 hq5 ⊢
          refine wpAnyN_one (i := 9) (by kernel_rfl) rfl (fun K hK => ?_)
          have ca := blk_cell hq5
          have fa := blk_frozen hq5
          have za := lt_of_block hq5
          go_simp
          have BW6 : Below W0.heap.size W0 ((V5.setCell ⟨Q, 0, none⟩ (.int .i64 ql)).setCell ⟨Q, 1, none⟩ (.int .i64 qh)) := (BW5.setCell (p := ⟨Q, 0, none⟩) gQ _).setCell (p := ⟨Q, 1, none⟩) gQ _
          refine hK.out _ _ (fun _ _ => BW6) ?_
          clear hK K ca fa za
          try simp only [Act.put, List.setIfInBounds_toArray, List.set_cons_zero, List.set_cons_succ]
          have hq6 := (bothAt.set0 hq5 ql).set1 qh
          have hp6 := (bothAt.set (o := 0) hp5 hne (.int .i64 ql)).set (o := 1) hne (.int .i64 qh)
          generalize ((V5.setCell ⟨Q, 0, none⟩ (.int .i64 ql)).setCell ⟨Q, 1, none⟩ (.int .i64 qh)) = V6 at BW6 hq6 hp6 ⊢
          refine wpAnyN_done (by kernel_rfl) ?_ _
          refine NoPanic.normal ?_
          go_wp2_with fail
          go_meet
          exact ⟨_, _, rfl, rfl, ⟨blk_cell hp6 0, blk_cell hp6 1, blk_cell hq6 0, blk_cell hq6 1, lt_of_block hp6, lt_of_block hq6, BW6⟩⟩
      · skip
        go_simp
        refine hK.out _ _ (fun _ _ => BW1.alloc BW1.size _) ?_
        clear hK K
        try simp only [Act.put, List.setIfInBounds_toArray, List.set_cons_zero, List.set_cons_succ]
        have hq2 := heap_alloc_new V1 (.cells #[.int .i64 0, .int .i64 0] 29)
        have BW2 := BW1.alloc BW1.size (.cells #[.int .i64 0, .int .i64 0] 29)
        have gQ := BW1.size
        generalize V1.heap.size = Q at hq2 gQ ⊢
        generalize V1.alloc (.cells #[.int .i64 0, .int .i64 0] 29) = V2 at hq2 BW2 ⊢
        refine wpAnyN_two (i := 5) (k := 6) (by kernel_rfl) rfl rfl (fun K hK => ?_) (fun K hK => ?_)
        · skip
          go_simp
          refine (HA2.out _ (S2.out.keep BW2.size fun p hp => BW2.cell hp)).mono ?_
          rintro e V3 ⟨rfl, hb⟩
          have BW3 := BW2.trans (hb.mono BW2.size)
          have hq3 := blk_below hq2 hb
          refine hK.out _ _ (fun _ _ => BW3) ?_
          clear hK K hb
          try simp only [Act.put, List.setIfInBounds_toArray, List.set_cons_zero, List.set_cons_succ]
          refine wpAnyN_one (i := 6) (by kernel_rfl) rfl (fun K hK => ?_)
          go_simp
          refine hK.out _ _ (fun _ _ => BW3.alloc BW3.size _) ?_
          clear hK K
          try simp only [Act.put, List.setIfInBounds_toArray, List.set_cons_zero, List.set_cons_succ]
          have hp4 := heap_alloc_new V3 (.cells #[.int .i64 0, .int .i64 0] 29)
          have BW4 := BW3.alloc BW3.size (.cells #[.int .i64 0, .int .i64 0] 29)
          have gP := BW3.size
          have hq4 := blk_below hq3 ((Below.refl V3.heap.size V3).alloc (Nat.le_refl _) (.cells #[.int .i64 0, .int .i64 0] 29))
          have hne := Nat.ne_of_lt (lt_of_block hq3)
          generalize V3.heap.size = P at hp4 gP hne ⊢
          generalize V3.alloc (.cells #[.int .i64 0, .int .i64 0] 29) = V4 at hp4 BW4 hq4 ⊢
          refine wpAnyN_one (i := 8) (by kernel_rfl) rfl (fun K hK => ?_)
          have ca := blk_cell hp4
          have fa := blk_frozen hp4
          have za := lt_of_block hp4
          go_simp
          have BW5 : Below W0.heap.size W0 ((V4.setCell ⟨P, 0, none⟩ (.int .i64 pl)).setCell ⟨P, 1, none⟩ (.int .i64 ph)) := (BW4.setCell (p := ⟨P, 0, none⟩) gP _).setCell (p := ⟨P, 1, none⟩) gP _
          refine hK.out _ _ (fun _ _ => BW5) ?_
          clear hK K ca fa za
          try simp only [Act.put, List.setIfInBounds_toArray, List.set_cons_zero, List.set_cons_succ]
          have hp5 := (bothAt.set0 hp4 pl).set1 ph
          have hq5 := (bothAt.set (o := 0) hq4 hne (.int .i64 pl)).set (o := 1) hne (.int .i64 ph)
          generalize ((V4.setCell ⟨P, 0, none⟩ (.int .i64 pl)).setCell ⟨P, 1, none⟩ (.int .i64 ph)) = V5 at BW5 hp5 hq5 ⊢
          refine wpAnyN_one (i := 9) (by kernel_rfl) rfl (fun K hK => ?_)
          have ca := blk_cell hq5
          have fa := blk_frozen hq5
          have za := lt_of_block hq5
          go_simp
          have BW6 : Below W0.heap.size W0 ((V5.setCell ⟨Q, 0, none⟩ (.int .i64 ql)).setCell ⟨Q, 1, none⟩ (.int .i64 qh)) := (BW5.setCell (p := ⟨Q, 0, none⟩) gQ _).setCell (p := ⟨Q, 1, none⟩) gQ _
          refine hK.out _ _ (fun _ _ => BW6) ?_
          clear hK K ca fa za
          try simp only [Act.put, List.setIfInBounds_toArray, List.set_cons_zero, List.set_cons_succ]
          have hq6 := (bothAt.set0 hq5 ql).set1 qh
          have hp6 := (bothAt.set (o := 0) hp5 hne.symm (.int .i64 ql)).set (o := 1) hne.symm (.int .i64 qh)
          generalize ((V5.setCell ⟨Q, 0, none⟩ (.int .i64 ql)).setCell ⟨Q, 1, none⟩ (.int .i64 qh)) = V6 at BW6 hq6 hp6 ⊢
          refine wpAnyN_done (by kernel_rfl) ?_ _
          refine NoPanic.normal ?_
          go_wp2_with fail
          go_meet
          exact ⟨_, _, rfl, rfl, ⟨blk_cell hp6 0, blk_cell hp6 1, blk_cell hq6 0, blk_cell hq6 1, lt_of_block hp6, lt_of_block hq6, BW6⟩⟩
        · skip
          go_simp
          refine hK.out _ _ (fun _ _ => BW2.alloc BW2.size _) ?_
          clear hK K
          try simp only [Act.put, List.setIfInBounds_toArray, List.set_cons_zero, List.set_cons_succ]
          have hp3 := heap_alloc_new V2 (.cells #[.int .i64 0, .int .i64 0] 29)
          have BW3 := BW2.alloc BW2.size (.cells #[.int .i64 0, .int .i64 0] 29)
          have gP := BW2.size
          have hq3 := blk_below hq2 ((Below.refl V2.heap.size V2).alloc (Nat.le_refl _) (.cells #[.int .i64 0, .int .i64 0] 29))
          have hne := Nat.ne_of_lt (lt_of_block hq2)
          generalize V2.heap.size = P at hp3 gP hne ⊢
          generalize V2.alloc (.cells #[.int .i64 0, .int .i64 0] 29) = V3 at hp3 BW3 hq3 ⊢
          refine wpAnyN_one (i := 5) (by kernel_rfl) rfl (fun K hK => ?_)
          go_simp
          refine (HA2.out _ (S2.out.keep BW3.size fun p hp => BW3.cell hp)).mono ?_
          rintro e V4 ⟨rfl, hb⟩
          have BW4 := BW3.trans (hb.mono BW3.size)
          have hp4 := blk_below hp3 hb
          have hq4 := blk_below hq3 hb
          refine hK.out _ _ (fun _ _ => BW4) ?_
          clear hK K hb
          try simp only [Act.put, List.setIfInBounds_toArray, List.set_cons_zero, List.set_cons_succ]
          refine wpAnyN_one (i := 8) (by kernel_rfl) rfl (fun K hK => ?_)
          have ca := blk_cell hp4
          have fa := blk_frozen hp4
          have za := lt_of_block hp4
          go_simp
          have BW5 : Below W0.heap.size W0 ((V4.setCell ⟨P, 0, none⟩ (.int .i64 pl)).setCell ⟨P, 1, none⟩ (.int .i64 ph)) := (BW4.setCell (p := ⟨P, 0, none⟩) gP _).setCell (p := ⟨P, 1, none⟩) gP _
          refine hK.out _ _ (fun _ _ => BW5) ?_
          clear hK K ca fa za
          try simp only [Act.put, List.setIfInBounds_toArray, List.set_cons_zero, List.set_cons_succ]
          have hp5 := (bothAt.set0 hp4 pl).set1 ph
          have hq5 := (bothAt.set (o := 0) hq4 hne (.int .i64 pl)).set (o := 1) hne (.int .i64 ph)
          generalize ((V4.setCell ⟨P, 0, none⟩ (.int .i64 pl)).setCell ⟨P, 1, none⟩ (.int .i64 ph)) = V5 at BW5 hp5 hq5 ⊢
          refine wpAnyN_one (i := 9) (by kernel_rfl) rfl (fun K hK => ?_)
          have ca := blk_cell hq5
          have fa := blk_frozen hq5
          have za := lt_of_block hq5
          go_simp
          have BW6 : Below W0.heap.size W0 ((V5.setCell ⟨Q, 0, none⟩ (.int .i64 ql)).setCell ⟨Q, 1, none⟩ (.int .i64 qh)) := (BW5.setCell (p := ⟨Q, 0, none⟩) gQ _).setCell (p := ⟨Q, 1, none⟩) gQ _
          refine hK.out _ _ (fun _ _ => BW6) ?_
          clear hK K ca fa za
          try simp only [Act.put, List.setIfInBounds_toArray, List.set_cons_zero, List.set_cons_succ]
          have hq6 := (bothAt.set0 hq5 ql).set1 qh
          have hp6 := (bothAt.set (o := 0) hp5 hne.symm (.int .i64 ql)).set (o := 1) hne.symm (.int .i64 qh)
          generalize ((V5.setCell ⟨Q, 0, none⟩ (.int .i64 ql)).setCell ⟨Q, 1, none⟩ (.int .i64 qh)) = V6 at BW6 hq6 hp6 ⊢
          refine wpAnyN_done (by kernel_rfl) ?_ _
          refine NoPanic.normal ?_
          go_wp2_with fail
          go_meet
          exact ⟨_, _, rfl, rfl, ⟨blk_cell hp6 0, blk_cell hp6 1, blk_cell hq6 0, blk_cell hq6 1, lt_of_block hp6, lt_of_block hq6, BW6⟩⟩
    · skip
      go_simp
      refine hK.out _ _ (fun _ _ => BW0.alloc BW0.size _) ?_
      clear hK K
      try simp only [Act.put, List.setIfInBounds_toArray, List.set_cons_zero, List.set_cons_succ]
      have hp1 := heap_alloc_new V0 (.cells #[.int .i64 0, .int .i64 0] 29)
      have BW1 := BW0.alloc BW0.size (.cells #[.int .i64 0, .int .i64 0] 29)
      have gP := BW0.size
      generalize V0.heap.size = P at hp1 gP ⊢
      generalize V0.alloc (.cells #[.int .i64 0, .int .i64 0] 29) = V1 at hp1 BW1 ⊢
      refine wpAnyN_two (i := 2) (k := 7) (by kernel_rfl) rfl rfl (fun K hK => ?_) (fun K hK => ?_)
      · skip
        go_simp
        refine (HA1.out _ (S1.out.keep BW1.size fun p hp => BW1.cell hp)).mono ?_
        rintro e V2 ⟨rfl, hb⟩
        have BW2 := BW1.trans (hb.mono BW1.size)
        have hp2 := blk_below hp1 hb
        refine hK.out _ _ (fun _ _ => BW2) ?_
        clear hK K hb
        try simp only [Act.put, List.setIfInBounds_toArray, List.set_cons_zero, List.set_cons_succ]
        refine wpAnyN_two (i := 5) (k := 7) (by kernel_rfl) rfl rfl (fun K hK => ?_) (fun K hK => ?_)
        · skip
          go_simp
          refine (HA2.out _ (S2.out.keep BW2.size fun p hp => BW2.cell hp)).mono ?_
          rintro e V3 ⟨rfl, hb⟩
          have BW3 := BW2.trans (hb.mono BW2.size)
          have hp3 := blk_below hp2 hb
          refine hK.out _ _ (fun _ _ => BW3) ?_
          clear hK K hb
          try simp only [Act.put, List.setIfInBounds_toArray, List.set_cons_zero, List.set_cons_succ]
          refine wpAnyN_one (i := 7) (by kernel_rfl) rfl (fun K hK => ?_)
          go_simp
          refine hK.out _ _ (fun _ _ => BW3.alloc BW3.size _) ?_
          clear hK K
          try simp only [Act.put, List.setIfInBounds_toArray, List.set_cons_zero, List.set_cons_succ]
          have hq4 := heap_alloc_new V3 (.cells #[.int .i64 0, .int .i64 0] 29)
          have BW4 := BW3.alloc BW3.size (.cells #[.int .i64 0, .int .i64 0] 29)
          have gQ := BW3.size
          have hp4 := blk_below hp3 ((Below.refl V3.heap.size V3).alloc (Nat.le_refl _) (.cells #[.int .i64 0, .int .i64 0] 29))
          have hne := Nat.ne_of_lt (lt_of_block hp3)
          generalize V3.heap.size = Q at hq4 gQ hne ⊢
          generalize V3.alloc (.cells #[.int .i64 0, .int .i64 0] 29) = V4 at hq4 BW4 hp4 ⊢
          refine wpAnyN_one (i := 8) (by kernel_rfl) rfl (fun K hK => ?_)
          have ca := blk_cell hp4
          have fa := blk_frozen hp4
          have za := lt_of_block hp4
          go_simp
          have BW5 : Below W0.heap.size W0 ((V4.setCell ⟨P, 0, none⟩ (.int .i64 pl)).setCell ⟨P, 1, none⟩ (.int .i64 ph)) := (BW4.setCell (p := ⟨P, 0, none⟩) gP _).setCell (p := ⟨P, 1, none⟩) gP _
          refine hK.out _ _ (fun _ _ => BW5) ?_
          clear hK K ca fa za
          try simp only [Act.put, List.setIfInBounds_toArray, List.set_cons_zero, List.set_cons_succ]
          have hp5 := (bothAt.set0 hp4 pl).set1 ph
          have hq5 := (bothAt.set (o := 0) hq4 hne.symm (.int .i64 pl)).set (o := 1) hne.symm (.int .i64 ph)
          generalize ((V4.setCell ⟨P, 0, none⟩ (.int .i64 pl)).setCell ⟨P, 1, none⟩ (.int .i64 ph)) = V5 at BW5 hp5 hq5 ⊢
          refine wpAnyN_one (i := 9) (by kernel_rfl) rfl (fun K hK => ?_)
          have ca := blk_cell hq5
          have fa := blk_frozen hq5
          have za := lt_of_block hq5
          go_simp
          have BW6 : Below W0.heap.size W0 ((V5.setCell ⟨Q, 0, none⟩ (.int .i64 ql)).setCell ⟨Q, 1, none⟩ (.int .i64 qh)) := (BW5.setCell (p := ⟨Q, 0, none⟩) gQ _).setCell (p := ⟨Q, 1, none⟩) gQ _
          refine hK.out _ _ (fun _ _ => BW6) ?_
          clear hK K ca fa za
          try simp only [Act.put, List.setIfInBounds_toArray, List.set_cons_zero, List.set_cons_succ]
          have hq6 := (bothAt.set0 hq5 ql).set1 qh
          have hp6 := (bothAt.set (o := 0) hp5 hne (.int .i64 ql)).set (o := 1) hne (.int .i64 qh)
          generalize ((V5.setCell ⟨Q, 0, none⟩ (.int .i64 ql)).setCell ⟨Q, 1, none⟩ (.int .i64 qh)) = V6 at BW6 hq6 hp6 ⊢
          refine wpAnyN_done (by kernel_rfl) ?_ _
          refine NoPanic.normal ?_
          go_wp2_with fail
          go_meet
          exact ⟨_, _, rfl, rfl, ⟨blk_cell hp6 0, blk_cell hp6 1, blk_cell hq6 0, blk_cell hq6 1, lt_of_block hp6, lt_of_block hq6, BW6⟩⟩
        · skip
          go_simp
          refine hK.out _ _ (fun _ _ => BW2.alloc BW2.size _) ?_
          clear hK K
          try simp only [Act.put, List.setIfInBounds_toArray, List.set_cons_zero, List.set_cons_succ]
          have hq3 := heap_alloc_new V2 (.cells #[.int .i64 0, .int .i64 0] 29)
          have BW3 := BW2.alloc BW2.size (.cells #[.int .i64 0, .int .i64 0] 29)
          have gQ := BW2.size
          have hp3 := blk_below hp2 ((Below.refl V2.heap.size V2).alloc (Nat.le_refl _) (.cells #[.int .i64 0, .int .i64 0] 29))
          have hne := Nat.ne_of_lt (lt_of_block hp2)
          generalize V2.heap.size = Q at hq3 gQ hne ⊢
          generalize V2.alloc (.cells #[.int .i64 0, .int .i64 0] 29) = V3 at hq3 BW3 hp3 ⊢
          refine wpAnyN_one (i := 5) (by kernel_rfl) rfl (fun K hK => ?_)
          go_simp
          refine (HA2.out _ (S2.out.keep BW3.size fun p hp => BW3.cell hp)).mono ?_
          rintro e V4 ⟨rfl, hb⟩
          have BW4 := BW3.trans (hb.mono BW3.size)
          have hp4 := blk_below hp3 hb
          have hq4 := blk_below hq3 hb
          refine hK.out _ _ (fun _ _ => BW4) ?_
          clear hK K hb
          try simp only [Act.put, List.setIfInBounds_toArray, List.set_cons_zero, List.set_cons_succ]
          refine wpAnyN_one (i := 8) (by kernel_rfl) rfl (fun K hK => ?_)
          have ca := blk_cell hp4
          have fa := blk_frozen hp4
          have za := lt_of_block hp4
          go_simp
          have BW5 : Below W0.heap.size W0 ((V4.setCell ⟨P, 0, none⟩ (.int .i64 pl)).setCell ⟨P, 1, none⟩ (.int .i64 ph)) := (BW4.setCell (p := ⟨P, 0, none⟩) gP _).setCell (p := ⟨P, 1, none⟩) gP _
          refine hK.out _ _ (fun _ _ => BW5) ?_
          clear hK K ca fa za
          try simp only [Act.put, List.setIfInBounds_toArray, List.set_cons_zero, List.set_cons_succ]
          have hp5 := (bothAt.set0 hp4 pl).set1 ph
          have hq5 := (bothAt.set (o := 0) hq4 hne.symm (.int .i64 pl)).set (o := 1) hne.symm (.int .i64 ph)
          generalize ((V4.setCell ⟨P, 0, none⟩ (.int .i64 pl)).setCell ⟨P, 1, none⟩ (.int .i64 ph)) = V5 at BW5 hp5 hq5 ⊢
          refine wpAnyN_one (i := 9) (by kernel_rfl) rfl (fun K hK => ?_)
          have ca := blk_cell hq5
          have fa := blk_frozen hq5
          have za := lt_of_block hq5
          go_simp
          have BW6 : Below W0.heap.size W0 ((V5.setCell ⟨Q, 0, none⟩ (.int .i64 ql)).setCell ⟨Q, 1, none⟩ (.int .i64 qh)) := (BW5.setCell (p := ⟨Q, 0, none⟩) gQ _).setCell (p := ⟨Q, 1, none⟩) gQ _
          refine hK.out _ _ (fun _ _ => BW6) ?_
          clear hK K ca fa za
          try simp only [Act.put, List.setIfInBounds_toArray, List.set_cons_zero, List.set_cons_succ]
          have hq6 := (bothAt.set0 hq5 ql).set1 qh
          have hp6 := (bothAt.set (o := 0) hp5 hne (.int .i64 ql)).set (o := 1) hne (.int .i64 qh)
          generalize ((V5.setCell ⟨Q, 0, none⟩ (.int .i64 ql)).setCell ⟨Q, 1, none⟩ (.int .i64 qh)) = V6 at BW6 hq6 hp6 ⊢
          refine wpAnyN_done (by kernel_rfl) ?_ _
          refine NoPanic.normal ?_
          go_wp2_with fail
          go_meet
          exact ⟨_, _, rfl, rfl, ⟨blk_cell hp6 0, blk_cell hp6 1, blk_cell hq6 0, blk_cell hq6 1, lt_of_block hp6, lt_of_block hq6, BW6⟩⟩
      · skip
        go_simp
        refine hK.out _ _ (fun _ _ => BW1.alloc BW1.size _) ?_
        clear hK K
        try simp only [Act.put, List.setIfInBounds_toArray, List.set_cons_zero, List.set_cons_succ]
        have hq2 := heap_alloc_new V1 (.cells #[.int .i64 0, .int .i64 0] 29)
        have BW2 := BW1.alloc BW1.size (.cells #[.int .i64 0, .int .i64 0] 29)
        have gQ := BW1.size
        have hp2 := blk_below hp1 ((Below.refl V1.heap.size V1).alloc (Nat.le_refl _) (.cells #[.int .i64 0, .int .i64 0] 29))
        have hne := Nat.ne_of_lt (lt_of_block hp1)
        generalize V1.heap.size = Q at hq2 gQ hne ⊢
        generalize V1.alloc (.cells #[.int .i64 0, .int .i64 0] 29) = V2 at hq2 BW2 hp2 ⊢
        refine wpAnyN_one (i := 2) (by kernel_rfl) rfl (fun K hK => ?_)
        go_simp
        refine (HA1.out _ (S1.out.keep BW2.size fun p hp => BW2.cell hp)).mono ?_
        rintro e V3 ⟨rfl, hb⟩
        have BW3 := BW2.trans (hb.mono BW2.size)
        have hp3 := blk_below hp2 hb
        have hq3 := blk_below hq2 hb
        refine hK.out _ _ (fun _ _ => BW3) ?_
        clear hK K hb
        try simp only [Act.put, List.setIfInBounds_toArray, List.set_cons_zero, List.set_cons_succ]
        refine wpAnyN_one (i := 5) (by kernel_rfl) rfl (fun K hK => ?_)
        go_simp
        refine (HA2.out _ (S2.out.keep BW3.size fun p hp => BW3.cell hp)).mono ?_
        rintro e V4 ⟨rfl, hb⟩
        have BW4 := BW3.trans (hb.mono BW3.size)
        have hp4 := blk_below hp3 hb
        have hq4 := blk_below hq3 hb
        refine hK.out _ _ (fun _ _ => BW4) ?_
        clear hK K hb
        try simp only [Act.put, List.setIfInBounds_toArray, List.set_cons_zero, List.set_cons_succ]
        refine wpAnyN_one (i := 8) (by kernel_rfl) rfl (fun K hK => ?_)
        have ca := blk_cell hp4
        have fa := blk_frozen hp4
        have za := lt_of_block hp4
        go_simp
        have BW5 : Below W0.heap.size W0 ((V4.setCell ⟨P, 0, none⟩ (.int .i64 pl)).setCell ⟨P, 1, none⟩ (.int .i64 ph)) := (BW4.setCell (p := ⟨P, 0, none⟩) gP _).setCell (p := ⟨P, 1, none⟩) gP _
        refine hK.out _ _ (fun _ _ => BW5) ?_
        clear hK K ca fa za
        try simp only [Act.put, List.setIfInBounds_toArray, List.set_cons_zero, List.set_cons_succ]
        have hp5 := (bothAt.set0 hp4 pl).set1 ph
        have hq5 := (bothAt.set (o := 0) hq4 hne.symm (.int .i64 pl)).set (o := 1) hne.symm (.int .i64 ph)
        generalize ((V4.setCell ⟨P, 0, none⟩ (.int .i64 pl)).setCell ⟨P, 1, none⟩ (.int .i64 ph)) = V5 at BW5 hp5 hq5 ⊢
        refine wpAnyN_one (i := 9) (by kernel_rfl) rfl (fun K hK => ?_)
        have ca := blk_cell hq5
        have fa := blk_frozen hq5
        have za := lt_of_block hq5
        go_simp
        have BW6 : Below W0.heap.size W0 ((V5.setCell ⟨Q, 0, none⟩ (.int .i64 ql)).setCell ⟨Q, 1, none⟩ (.int .i64 qh)) := (BW5.setCell (p := ⟨Q, 0, none⟩) gQ _).setCell (p := ⟨Q, 1, none⟩) gQ _
        refine hK.out _ _ (fun _ _ => BW6) ?_
        clear hK K ca fa za
        try simp only [Act.put, List.setIfInBounds_toArray, List.set_cons_zero, List.set_cons_succ]
        have hq6 := (bothAt.set0 hq5 ql).set1 qh
        have hp6 := (bothAt.set (o := 0) hp5 hne (.int .i64 ql)).set (o := 1) hne (.int .i64 qh)
        generalize ((V5.setCell ⟨Q, 0, none⟩ (.int .i64 ql)).setCell ⟨Q, 1, none⟩ (.int .i64 qh)) = V6 at BW6 hq6 hp6 ⊢
        refine wpAnyN_done (by kernel_rfl) ?_ _
        refine NoPanic.normal ?_
        go_wp2_with fail
        go_meet
        exact ⟨_, _, rfl, rfl, ⟨blk_cell hp6 0, blk_cell hp6 1, blk_cell hq6 0, blk_cell hq6 1, lt_of_block hp6, lt_of_block hq6, BW6⟩⟩
    · skip
      go_simp
      refine hK.out _ _ (fun _ _ => BW0.alloc BW0.size _) ?_
      clear hK K
      try simp only [Act.put, List.setIfInBounds_toArray, List.set_cons_zero, List.set_cons_succ]
      have hq1 := heap_alloc_new V0 (.cells #[.int .i64 0, .int .i64 0] 29)
      have BW1 := BW0.alloc BW0.size (.cells #[.int .i64 0, .int .i64 0] 29)
      have gQ := BW0.size
      generalize V0.heap.size = Q at hq1 gQ ⊢
      generalize V0.alloc (.cells #[.int .i64 0, .int .i64 0] 29) = V1 at hq1 BW1 ⊢
      refine wpAnyN_two (i := 2) (k := 6) (by kernel_rfl) rfl rfl (fun K hK => ?_) (fun K hK => ?_)
      · skip
        go_simp
        refine (HA1.out _ (S1.out.keep BW1.size fun p hp => BW1.cell hp)).mono ?_
        rintro e V2 ⟨rfl, hb⟩
        have BW2 := BW1.trans (hb.mono BW1.size)
        have hq2 := blk_below hq1 hb
        refine hK.out _ _ (fun _ _ => BW2) ?_
        clear hK K hb
        try simp only [Act.put, List.setIfInBounds_toArray, List.set_cons_zero, List.set_cons_succ]
        refine wpAnyN_two (i := 5) (k := 6) (by kernel_rfl) rfl rfl (fun K hK => ?_) (fun K hK => ?_)
        · skip
          go_simp
          refine (HA2.out _ (S2.out.keep BW2.size fun p hp => BW2.cell hp)).mono ?_
          rintro e V3 ⟨rfl, hb⟩
          have BW3 := BW2.trans (hb.mono BW2.size)
          have hq3 := blk_below hq2 hb
          refine hK.out _ _ (fun _ _ => BW3) ?_
          clear hK K hb
          try simp only [Act.put, List.setIfInBounds_toArray, List.set_cons_zero, List.set_cons_succ]
          refine wpAnyN_one (i := 6) (by kernel_rfl) rfl (fun K hK => ?_)
          go_simp
          refine hK.out _ _ (fun _ _ => BW3.alloc BW3.size _) ?_
          clear hK K
          try simp only [Act.put, List.setIfInBounds_toArray, List.set_cons_zero, List.set_cons_succ]
          have hp4 := heap_alloc_new V3 (.cells #[.int .i64 0, .int .i64 0] 29)
          have BW4 := BW3.alloc BW3.size (.cells #[.int .i64 0, .int .i64 0] 29)
          have gP := BW3.size
          have hq4 := blk_below hq3 ((Below.refl V3.heap.size V3).alloc (Nat.le_refl _) (.cells #[.int .i64 0, .int .i64 0] 29))
          have hne := Nat.ne_of_lt (lt_of_block hq3)
          generalize V3.heap.size = P at hp4 gP hne ⊢
          generalize V3.alloc (.cells #[.int .i64 0, .int .i64 0] 29) = V4 at hp4 BW4 hq4 ⊢
          refine wpAnyN_one (i := 8) (by kernel_rfl) rfl (fun K hK => ?_)
          have ca := blk_cell hp4
          have fa := blk_frozen hp4
          have za := lt_of_block hp4
          go_simp
          have BW5 : Below W0.heap.size W0 ((V4.setCell ⟨P, 0, none⟩ (.int .i64 pl)).setCell ⟨P, 1, none⟩ (.int .i64 ph)) := (BW4.setCell (p := ⟨P, 0, none⟩) gP _).setCell (p := ⟨P, 1, none⟩) gP _
          refine hK.out _ _ (fun _ _ => BW5) ?_
          clear hK K ca fa za
          try simp only [Act.put, List.setIfInBounds_toArray, List.set_cons_zero, List.set_cons_succ]
          have hp5 := (bothAt.set0 hp4 pl).set1 ph
          have hq5 := (bothAt.set (o := 0) hq4 hne (.int .i64 pl)).set (o := 1) hne (.int .i64 ph)
          generalize ((V4.setCell ⟨P, 0, none⟩ (.int .i64 pl)).setCell ⟨P, 1, none⟩ (.int .i64 ph)) = V5 at BW5 hp5 hq5 ⊢
          refine wpAnyN_one (i := 9) (by kernel_rfl) rfl (fun K hK => ?_)
          have ca := blk_cell hq5
          have fa := blk_frozen hq5
          have za := lt_of_block hq5
          go_simp
          have BW6 : Below W0.heap.size W0 ((V5.setCell ⟨Q, 0, none⟩ (.int .i64 ql)).setCell ⟨Q, 1, none⟩ (.int .i64 qh)) := (BW5.setCell (p := ⟨Q, 0, none⟩) gQ _).setCell (p := ⟨Q, 1, none⟩) gQ _
          refine hK.out _ _ (fun _ _ => BW6) ?_
          clear hK K ca fa za
          try simp only [Act.put, List.setIfInBounds_toArray, List.set_cons_zero, List.set_cons_succ]
          have hq6 := (bothAt.set0 hq5 ql).set1 qh
          have hp6 := (bothAt.set (o := 0) hp5 hne.symm (.int .i64 ql)).set (o := 1) hne.symm (.int .i64 qh)
          generalize ((V5.setCell ⟨Q, 0, none⟩ (.int .i64 ql)).setCell ⟨Q, 1, none⟩ (.int .i64 qh)) = V6 at BW6 hq6 hp6 ⊢
          refine wpAnyN_done (by kernel_rfl) ?_ _
          refine NoPanic.normal ?_
          go_wp2_with fail
          go_meet
          exact ⟨_, _, rfl, rfl, ⟨blk_cell hp6 0, blk_cell hp6 1, blk_cell hq6 0, blk_cell hq6 1, lt_of_block hp6, lt_of_block hq6, BW6⟩⟩
        · skip
          go_simp
          refine hK.out _ _ (fun _ _ => BW2.alloc BW2.size _) ?_
          clear hK K
          try simp only [Act.put, List.setIfInBounds_toArray, List.set_cons_zero, List.set_cons_succ]
          have hp3 := heap_alloc_new V2 (.cells #[.int .i64 0, .int .i64 0] 29)
          have BW3 := BW2.alloc BW2.size (.cells #[.int .i64 0, .int .i64 0] 29)
          have gP := BW2.size
          have hq3 := blk_below hq2 ((Below.refl V2.heap.size V2).alloc (Nat.le_refl _) (.cells #[.int .i64 0, .int .i64 0] 29))
          have hne := Nat.ne_of_lt (lt_of_block hq2)
          generalize V2.heap.size = P at hp3 gP hne ⊢
          generalize V2.alloc (.cells #[.int .i64 0, .int .i64 0] 29) = V3 at hp3 BW3 hq3 ⊢
          refine wpAnyN_one (i := 5) (by kernel_rfl) rfl (fun K hK => ?_)
          go_simp
          refine (HA2.out _ (S2.out.keep BW3.size fun p hp => BW3.cell hp)).mono ?_
          rintro e V4 ⟨rfl, hb⟩
          have BW4 := BW3.trans (hb.mono BW3.size)
          have hp4 := blk_below hp3 hb
          have hq4 := blk_below hq3 hb
          refine hK.out _ _ (fun _ _ => BW4) ?_
          clear hK K hb
          try simp only [Act.put, List.setIfInBounds_toArray, List.set_cons_zero, List.set_cons_succ]
          refine wpAnyN_one (i := 8) (by kernel_rfl) rfl (fun K hK => ?_)
          have ca := blk_cell hp4
          have fa := blk_frozen hp4
          have za := lt_of_block hp4
          go_simp
          have BW5 : Below W0.heap.size W0 ((V4.setCell ⟨P, 0, none⟩ (.int .i64 pl)).setCell ⟨P, 1, none⟩ (.int .i64 ph)) := (BW4.setCell (p := ⟨P, 0, none⟩) gP _).setCell (p := ⟨P, 1, none⟩) gP _
          refine hK.out _ _ (fun _ _ => BW5) ?_
          clear hK K ca fa za
          try simp only [Act.put, List.setIfInBounds_toArray, List.set_cons_zero, List.set_cons_succ]
          have hp5 := (bothAt.set0 hp4 pl).set1 ph
          have hq5 := (bothAt.set (o := 0) hq4 hne (.int .i64 pl)).set (o := 1) hne (.int .i64 ph)
          generalize ((V4.setCell ⟨P, 0, none⟩ (.int .i64 pl)).setCell ⟨P, 1, none⟩ (.int .i64 ph)) = V5 at BW5 hp5 hq5 ⊢
          refine wpAnyN_one (i := 9) (by kernel_rfl) rfl (fun K hK => ?_)
          have ca := blk_cell hq5
          have fa := blk_frozen hq5
          have za := lt_of_block hq5
          go_simp
          have BW6 : Below W0.heap.size W0 ((V5.setCell ⟨Q, 0, none⟩ (.int .i64 ql)).setCell ⟨Q, 1, none⟩ (.int .i64 qh)) := (BW5.setCell (p := ⟨Q, 0, none⟩) gQ _).setCell (p := ⟨Q, 1, none⟩) gQ _
          refine hK.out _ _ (fun _ _ => BW6) ?_
          clear hK K ca fa za
          try simp only [Act.put, List.setIfInBounds_toArray, List.set_cons_zero, List.set_cons_succ]
          have hq6 := (bothAt.set0 hq5 ql).set1 qh
          have hp6 := (bothAt.set (o := 0) hp5 hne.symm (.int .i64 ql)).set (o := 1) hne.symm (.int .i64 qh)
          generalize ((V5.setCell ⟨Q, 0, none⟩ (.int .i64 ql)).setCell ⟨Q, 1, none⟩ (.int .i64 qh)) = V6 at BW6 hq6 hp6 ⊢
          refine wpAnyN_done (by kernel_rfl) ?_ _
          refine NoPanic.normal ?_
          go_wp2_with fail
          go_meet
          exact ⟨_, _, rfl, rfl, ⟨blk_cell hp6 0, blk_cell hp6 1, blk_cell hq6 0, blk_cell hq6 1, lt_of_block hp6, lt_of_block hq6, BW6⟩⟩
      · skip
        go_simp
        refine hK.out _ _ (fun _ _ => BW1.alloc BW1.size _) ?_
        clear hK K
        try simp only [Act.put, List.setIfInBounds_toArray, List.set_cons_zero, List.set_cons_succ]
        have hp2 := heap_alloc_new V1 (.cells #[.int .i64 0, .int .i64 0] 29)
        have BW2 := BW1.alloc BW1.size (.cells #[.int .i64 0, .int .i64 0] 29)
        have gP := BW1.size
        have hq2 := blk_below hq1 ((Below.refl V1.heap.size V1).alloc (Nat.le_refl _) (.cells #[.int .i64 0, .int .i64 0] 29))
        have hne := Nat.ne_of_lt (lt_of_block hq1)
        generalize V1.heap.size = P at hp2 gP hne ⊢
        generalize V1.alloc (.cells #[.int .i64 0, .int .i64 0] 29) = V2 at hp2 BW2 hq2 ⊢
        refine wpAnyN_one (i := 2) (by kernel_rfl) rfl (fun K hK => ?_)
        go_simp
        refine (HA1.out _ (S1.out.keep BW2.size fun p hp => BW2.cell hp)).mono ?_
        rintro e V3 ⟨rfl, hb⟩
        have BW3 := BW2.trans (hb.mono BW2.size)
        have hp3 := blk_below hp2 hb
        have hq3 := blk_below hq2 hb
        refine hK.out _ _ (fun _ _ => BW3) ?_
        clear hK K hb
        try simp only [Act.put, List.setIfInBounds_toArray, List.set_cons_zero, List.set_cons_succ]
        refine wpAnyN_one (i := 5) (by kernel_rfl) rfl (fun K hK => ?_)
        go_simp
        refine (HA2.out _ (S2.out.keep BW3.size fun p hp => BW3.cell hp)).mono ?_
        rintro e V4 ⟨rfl, hb⟩
        have BW4 := BW3.trans (hb.mono BW3.size)
        have hp4 := blk_below hp3 hb
        have hq4 := blk_below hq3 hb
        refine hK.out _ _ (fun _ _ => BW4) ?_
        clear hK K hb
        try simp only [Act.put, List.setIfInBounds_toArray, List.set_cons_zero, List.set_cons_succ]
        refine wpAnyN_one (i := 8) (by kernel_rfl) rfl (fun K hK => ?_)
        have ca := blk_cell hp4
        have fa := blk_frozen hp4
        have za := lt_of_block hp4
        go_simp
        have BW5 : Below W0.heap.size W0 ((V4.setCell ⟨P, 0, none⟩ (.int .i64 pl)).setCell ⟨P, 1, none⟩ (.int .i64 ph)) := (BW4.setCell (p := ⟨P, 0, none⟩) gP _).setCell (p := ⟨P, 1, none⟩) gP _
        refine hK.out _ _ (fun _ _ => BW5) ?_
        clear hK K ca fa za
        try simp only [Act.put, List.setIfInBounds_toArray, List.set_cons_zero, List.set_cons_succ]
        have hp5 := (bothAt.set0 hp4 pl).set1 ph
        have hq5 := (bothAt.set (o := 0) hq4 hne (.int .i64 pl)).set (o := 1) hne (.int .i64 ph)
        generalize ((V4.setCell ⟨P, 0, none⟩ (.int .i64 pl)).setCell ⟨P, 1, none⟩ (.int .i64 ph)) = V5 at BW5 hp5 hq5 ⊢
        refine wpAnyN_one (i := 9) (by kernel_rfl) rfl (fun K hK => ?_)
        have ca := blk_cell hq5
        have fa := blk_frozen hq5
        have za := lt_of_block hq5
        go_simp
        have BW6 : Below W0.heap.size W0 ((V5.setCell ⟨Q, 0, none⟩ (.int .i64 ql)).setCell ⟨Q, 1, none⟩ (.int .i64 qh)) := (BW5.setCell (p := ⟨Q, 0, none⟩) gQ _).setCell (p := ⟨Q, 1, none⟩) gQ _
        refine hK.out _ _ (fun _ _ => BW6) ?_
        clear hK K ca fa za
        try simp only [Act.put, List.setIfInBounds_toArray, List.set_cons_zero, List.set_cons_succ]
        have hq6 := (bothAt.set0 hq5 ql).set1 qh
        have hp6 := (bothAt.set (o := 0) hp5 hne.symm (.int .i64 ql)).set (o := 1) hne.symm (.int .i64 qh)
        generalize ((V5.setCell ⟨Q, 0, none⟩ (.int .i64 ql)).setCell ⟨Q, 1, none⟩ (.int .i64 qh)) = V6 at BW6 hq6 hp6 ⊢
        refine wpAnyN_done (by kernel_rfl) ?_ _
        refine NoPanic.normal ?_
        go_wp2_with fail
        go_meet
        exact ⟨_, _, rfl, rfl, ⟨blk_cell hp6 0, blk_cell hp6 1, blk_cell hq6 0, blk_cell hq6 1, lt_of_block hp6, lt_of_block hq6, BW6⟩⟩
  case rest =>
    obtain ⟨P, Q, rfl, rfl, hR⟩ := hcut
    have Bc : Below w.heap.size w wc := HB0.out.trans (hR.blw.mono HB0.out.size)
    have L1 := Lib.hid (K1.out.below hR.blw)
    have L2 := Lib.hid (K2.out.below hR.blw)
    have T1 := Lib.hid (S1.out.keep (B' := wc.heap.size) hR.blw.size fun p hp => hR.blw.cell hp)
    have T2 := Lib.hid (S2.out.keep (B' := wc.heap.size) hR.blw.size fun p hp => hR.blw.cell hp)
    have p0 := hR.p0
    have p1 := hR.p1
    have q0 := hR.q0
    have q1 := hR.q1
    have pz := hR.pz
    have qz := hR.qz
    have lb1 := lt_of_block L1.out
    have lb2 := lt_of_block L2.out
    have lc1 := blk_cell L1.out
    have lc2 := blk_cell L2.out
    clear hR cb1 cb2 zb1 zb2 S1 S2 K1 K2 HB0 HA1 HA2
    rcases hcase with ⟨c1, rfl⟩ | ⟨c1, c2, rfl⟩ | ⟨c1, c2, rfl⟩
    · go_wp2_with fail
      refine wp_region_ext (by kernel_rfl) (by kernel_rfl) ?_
      repeat (go_big_quiet_step (first
        | (go_at_call_of 46 (Value.agg #[.int .i64 k1, .int .i64 u1, .slice A1 r1.length cap1]); exact quiet_ext (HW1.out _ (SlU.ext T1.out _)))
        | (go_at_call_of 46 (Value.agg #[.int .i64 k2, .int .i64 u2, .slice A2 r2.length cap2]); exact quiet_ext (HW2.out _ (SlU.ext T2.out _)))
        | (go_at_call 155; exact quiet_ext (HO1.out _))))
      refine wpQuiet_nil ?_
      intro w5 hb5
      replace hb5 := below_of_ext hb5
      have B5 : Below w.heap.size w w5 := Below.then_ (by repeat (first | with_reducible exact Below.refl _ _ | with_reducible assumption | ((with_reducible refine Below.setCell ?_ ?_ _); rotate_left; · (first | omega | exact Nat.le_refl _ | (simp <;> omega))) | (with_reducible refine Below.allocW ?_ _) | (with_reducible refine Below.drew ?_) | (with_reducible refine Below.extW ?_ _))) hb5
      have s5 : w.heap.size ≤ w5.heap.size := B5.size
      go_wp2_with fail
      go_ret
      exact ⟨rfl, B5⟩
    · go_wp2_with fail
      refine wp_region_ext (by kernel_rfl) (by kernel_rfl) ?_
      repeat (go_big_quiet_step (first
        | (go_at_call_of 46 (Value.agg #[.int .i64 k1, .int .i64 u1, .slice A1 r1.length cap1]); exact quiet_ext (HW1.out _ (SlU.ext T1.out _)))
        | (go_at_call_of 46 (Value.agg #[.int .i64 k2, .int .i64 u2, .slice A2 r2.length cap2]); exact quiet_ext (HW2.out _ (SlU.ext T2.out _)))
        | (go_at_call 155; exact quiet_ext (HO1.out _))))
      refine wpQuiet_nil ?_
      intro w5 hb5
      replace hb5 := below_of_ext hb5
      have B5 : Below w.heap.size w w5 := Below.then_ (by repeat (first | with_reducible exact Below.refl _ _ | with_reducible assumption | ((with_reducible refine Below.setCell ?_ ?_ _); rotate_left; · (first | omega | exact Nat.le_refl _ | (simp <;> omega))) | (with_reducible refine Below.allocW ?_ _) | (with_reducible refine Below.drew ?_) | (with_reducible refine Below.extW ?_ _))) hb5
      have s5 : w.heap.size ≤ w5.heap.size := B5.size
      have z5_0 : w.heap.size < w5.heap.size := by have := hb5.size; (try simp at this); omega
      have y5_0 : w.heap.size ≤ w5.heap.size := Nat.le_of_lt z5_0
      have c5_0 := fun o => hb5.cell (p := ⟨w.heap.size, o, none⟩) (by first | omega | (simp <;> omega))
      have f5_0 := fun o => hb5.frozen (p := ⟨w.heap.size, o, none⟩) (by first | omega | (simp <;> omega))
      have z5_1 : w.heap.size + 1 < w5.heap.size := by have := hb5.size; (try simp at this); omega
      have y5_1 : w.heap.size + 1 ≤ w5.heap.size := Nat.le_of_lt z5_1
      have c5_1 := fun o => hb5.cell (p := ⟨w.heap.size + 1, o, none⟩) (by first | omega | (simp <;> omega))
      have f5_1 := fun o => hb5.frozen (p := ⟨w.heap.size + 1, o, none⟩) (by first | omega | (simp <;> omega))
      have z5_2 : P < w5.heap.size := by have := hb5.size; (try simp at this); omega
      have y5_2 : P ≤ w5.heap.size := Nat.le_of_lt z5_2
      have c5_2 := fun o => hb5.cell (p := ⟨P, o, none⟩) (by first | omega | (simp <;> omega))
      have f5_2 := fun o => hb5.frozen (p := ⟨P, o, none⟩) (by first | omega | (simp <;> omega))
      have z5_3 : Q < w5.heap.size := by have := hb5.size; (try simp at this); omega
      have y5_3 : Q ≤ w5.heap.size := Nat.le_of_lt z5_3
      have c5_3 := fun o => hb5.cell (p := ⟨Q, o, none⟩) (by first | omega | (simp <;> omega))
      have f5_3 := fun o => hb5.frozen (p := ⟨Q, o, none⟩) (by first | omega | (simp <;> omega))
      have U1 := Lib.hid (T1.out.keep hb5.size fun p hp => hb5.cell hp)
      have U2 := Lib.hid (T2.out.keep hb5.size fun p hp => hb5.cell hp)
      go_wp2_with fail
      refine wp_region_ext (by kernel_rfl) (by kernel_rfl) ?_
      repeat (go_big_quiet_step (first
        | (go_at_call_of 46 (Value.agg #[.int .i64 k1, .int .i64 u1, .slice A1 r1.length cap1]); exact quiet_ext (HW1.out _ (SlU.ext U1.out _)))
        | (go_at_call_of 46 (Value.agg #[.int .i64 k2, .int .i64 u2, .slice A2 r2.length cap2]); exact quiet_ext (HW2.out _ (SlU.ext U2.out _)))
        | (go_at_call 155; exact quiet_ext (HO2.out _))))
      refine wpQuiet_nil ?_
      intro w6 hb6
      replace hb6 := below_of_ext hb6
      have B6 : Below w.heap.size w w6 := Below.then_ (by repeat (first | with_reducible exact Below.refl _ _ | with_reducible assumption | ((with_reducible refine Below.setCell ?_ ?_ _); rotate_left; · (first | omega | exact Nat.le_refl _ | (simp <;> omega))) | (with_reducible refine Below.allocW ?_ _) | (with_reducible refine Below.drew ?_) | (with_reducible refine Below.extW ?_ _))) hb6
      have s6 : w.heap.size ≤ w6.heap.size := B6.size
      go_wp2_with fail
      go_ret
      exact ⟨rfl, B6⟩
    · go_wp2_with fail
      refine wp_region_ext (by kernel_rfl) (by kernel_rfl) ?_
      repeat (go_big_quiet_step (first
        | (go_at_call_of 46 (Value.agg #[.int .i64 k1, .int .i64 u1, .slice A1 r1.length cap1]); exact quiet_ext (HW1.out _ (SlU.ext T1.out _)))
        | (go_at_call_of 46 (Value.agg #[.int .i64 k2, .int .i64 u2, .slice A2 r2.length cap2]); exact quiet_ext (HW2.out _ (SlU.ext T2.out _)))
        | (go_at_call 155; exact quiet_ext (HO1.out _))))
      refine wpQuiet_nil ?_
      intro w5 hb5
      replace hb5 := below_of_ext hb5
      have B5 : Below w.heap.size w w5 := Below.then_ (by repeat (first | with_reducible exact Below.refl _ _ | with_reducible assumption | ((with_reducible refine Below.setCell ?_ ?_ _); rotate_left; · (first | omega | exact Nat.le_refl _ | (simp <;> omega))) | (with_reducible refine Below.allocW ?_ _) | (with_reducible refine Below.drew ?_) | (with_reducible refine Below.extW ?_ _))) hb5
      have s5 : w.heap.size ≤ w5.heap.size := B5.size
      have z5_0 : w.heap.size < w5.heap.size := by have := hb5.size; (try simp at this); omega
      have y5_0 : w.heap.size ≤ w5.heap.size := Nat.le_of_lt z5_0
      have c5_0 := fun o => hb5.cell (p := ⟨w.heap.size, o, none⟩) (by first | omega | (simp <;> omega))
      have f5_0 := fun o => hb5.frozen (p := ⟨w.heap.size, o, none⟩) (by first | omega | (simp <;> omega))
      have z5_1 : w.heap.size + 1 < w5.heap.size := by have := hb5.size; (try simp at this); omega
      have y5_1 : w.heap.size + 1 ≤ w5.heap.size := Nat.le_of_lt z5_1
      have c5_1 := fun o => hb5.cell (p := ⟨w.heap.size + 1, o, none⟩) (by first | omega | (simp <;> omega))
      have f5_1 := fun o => hb5.frozen (p := ⟨w.heap.size + 1, o, none⟩) (by first | omega | (simp <;> omega))
      have z5_2 : P < w5.heap.size := by have := hb5.size; (try simp at this); omega
      have y5_2 : P ≤ w5.heap.size := Nat.le_of_lt z5_2
      have c5_2 := fun o => hb5.cell (p := ⟨P, o, none⟩) (by first | omega | (simp <;> omega))
      have f5_2 := fun o => hb5.frozen (p := ⟨P, o, none⟩) (by first | omega | (simp <;> omega))
      have z5_3 : Q < w5.heap.size := by have := hb5.size; (try simp at this); omega
      have y5_3 : Q ≤ w5.heap.size := Nat.le_of_lt z5_3
      have c5_3 := fun o => hb5.cell (p := ⟨Q, o, none⟩) (by first | omega | (simp <;> omega))
      have f5_3 := fun o => hb5.frozen (p := ⟨Q, o, none⟩) (by first | omega | (simp <;> omega))
      have U1 := Lib.hid (T1.out.keep hb5.size fun p hp => hb5.cell hp)
      have U2 := Lib.hid (T2.out.keep hb5.size fun p hp => hb5.cell hp)
      go_wp2_with fail
      refine wp_region_ext (by kernel_rfl) (by kernel_rfl) ?_
      repeat (go_big_quiet_step (first
        | (go_at_call_of 46 (Value.agg #[.int .i64 k1, .int .i64 u1, .slice A1 r1.length cap1]); exact quiet_ext (HW1.out _ (SlU.ext U1.out _)))
        | (go_at_call_of 46 (Value.agg #[.int .i64 k2, .int .i64 u2, .slice A2 r2.length cap2]); exact quiet_ext (HW2.out _ (SlU.ext U2.out _)))
        | (go_at_call 155; exact quiet_ext (HO2.out _))))
      refine wpQuiet_nil ?_
      intro w6 hb6
      replace hb6 := below_of_ext hb6
      have B6 : Below w.heap.size w w6 := Below.then_ (by repeat (first | with_reducible exact Below.refl _ _ | with_reducible assumption | ((with_reducible refine Below.setCell ?_ ?_ _); rotate_left; · (first | omega | exact Nat.le_refl _ | (simp <;> omega))) | (with_reducible refine Below.allocW ?_ _) | (with_reducible refine Below.drew ?_) | (with_reducible refine Below.extW ?_ _))) hb6
      have s6 : w.heap.size ≤ w6.heap.size := B6.size
      go_wp2_with fail
      go_ret
      exact ⟨rfl, B6⟩
end Go.Proofs.YtpngailmhdiiiaaGreat
/- The reference of layer 1: Part. -/
namespace Go.Proofs.YtpngailmhdiiiaaGreat
open Go.ChangeShapes Go.WideShapes Go.ChangeAt Go.RowKit
set_option linter.unusedVariables false
set_option maxRecDepth 100000

theorem ref1_Part (w : World) (a b c : Nat) (hb : b ≤ 9223372036854775807) (hc : 1 ≤ c) (hc2 : c ≤ 9223372036854775807) (hac : a ≤ c) :
    Calls Tryz.prog 160 #[.int .i64 a, .int .i64 b, .int .i64 c] w fun e w' => e = .returned (.tuple #[.int .i64 (a * b / c : Nat), .bool true]) ∧ Below w.heap.size w w' := by
  have ha : a ≤ 9223372036854775807 := by omega
  have HQ := Lib.hid (fun w A cap p h1 h2 h3 h4 => ref1_Quot_part w A cap p a b c h1 h2 h3 h4 hb hc hc2 hac)
  have i1 : decide ((0 : Int) ≤ (a : Int)) = true := by simp
  have i2 : decide ((0 : Int) ≤ (b : Int)) = true := by simp
  have hql := part_le (b := b) hac hc
  generalize hq : a * b / c = q at HQ hql ⊢
  generalize hr : decide (a * b % c ≠ 0) = r at HQ
  clear hq hr
  go_enter Tryz.func160, Tryz.ntmps160
  go_wp2_with fail
  refine (ref1_Is _ a).mono ?_
  rintro e w1 ⟨rfl, hb1⟩
  have B1 : Below w.heap.size w w1 := Below.then_ (by repeat (first | with_reducible exact Below.refl _ _ | with_reducible assumption | ((with_reducible refine Below.setCell ?_ ?_ _); rotate_left; · (first | omega | exact Nat.le_refl _ | (simp <;> omega))) | (with_reducible refine Below.allocW ?_ _) | (with_reducible refine Below.drew ?_) | (with_reducible refine Below.extW ?_ _))) hb1
  have s1 : w.heap.size ≤ w1.heap.size := B1.size
  rw [i1]
  go_wp2_with fail
  refine (ref1_Is _ b).mono ?_
  rintro e w2 ⟨rfl, hb2⟩
  have B2 : Below w.heap.size w w2 := Below.then_ (by repeat (first | with_reducible exact Below.refl _ _ | with_reducible assumption | ((with_reducible refine Below.setCell ?_ ?_ _); rotate_left; · (first | omega | exact Nat.le_refl _ | (simp <;> omega))) | (with_reducible refine Below.allocW ?_ _) | (with_reducible refine Below.drew ?_) | (with_reducible refine Below.extW ?_ _))) hb2
  have s2 : w.heap.size ≤ w2.heap.size := B2.size
  rw [i2]
  go_wp2_with fail
  refine (ref1_Digits _ a (by omega)).mono ?_
  rintro e w3 ⟨v3, L3, rfl, o3, k3, e3, l3, hb3⟩
  obtain ⟨A3, p3, rfl, _, _, S3, _⟩ := o3.form
  have B3 : Below w.heap.size w w3 := Below.then_ (by repeat (first | with_reducible exact Below.refl _ _ | with_reducible assumption | ((with_reducible refine Below.setCell ?_ ?_ _); rotate_left; · (first | omega | exact Nat.le_refl _ | (simp <;> omega))) | (with_reducible refine Below.allocW ?_ _) | (with_reducible refine Below.drew ?_) | (with_reducible refine Below.extW ?_ _))) hb3
  have s3 : w.heap.size ≤ w3.heap.size := B3.size
  have HS3 := Lib.hid S3
  have K3 := Lib.hid k3
  have E3 := Lib.hid e3
  clear o3 S3 k3 e3
  go_wp2_with fail
  refine (ref1_Digits _ b (by omega)).mono ?_
  rintro e w4 ⟨v4, L4, rfl, o4, k4, e4, l4, hb4⟩
  obtain ⟨A4, p4, rfl, _, _, S4, _⟩ := o4.form
  have B4 : Below w.heap.size w w4 := Below.then_ (by repeat (first | with_reducible exact Below.refl _ _ | with_reducible assumption | ((with_reducible refine Below.setCell ?_ ?_ _); rotate_left; · (first | omega | exact Nat.le_refl _ | (simp <;> omega))) | (with_reducible refine Below.allocW ?_ _) | (with_reducible refine Below.drew ?_) | (with_reducible refine Below.extW ?_ _))) hb4
  have s4 : w.heap.size ≤ w4.heap.size := B4.size
  have HS3' := Lib.hid (HS3.out.keep hb4.size fun p hp => hb4.cell hp)
  have HS4 := Lib.hid S4
  have K4 := Lib.hid k4
  have E4 := Lib.hid e4
  clear o4 S4 k4 e4
  go_wp2_with fail
  refine (ref1_Times _ A3 A4 p3 p4 L3 L4 HS3'.out HS4.out K3.out K4.out (by omega) (by omega)).mono ?_
  rintro e w5 ⟨v5, rfl, L5, o5, k5, e5, l5, hb5⟩
  obtain ⟨A5, p5, rfl, _, _, S5, _⟩ := o5.form
  have B5 : Below w.heap.size w w5 := Below.then_ (by repeat (first | with_reducible exact Below.refl _ _ | with_reducible assumption | ((with_reducible refine Below.setCell ?_ ?_ _); rotate_left; · (first | omega | exact Nat.le_refl _ | (simp <;> omega))) | (with_reducible refine Below.allocW ?_ _) | (with_reducible refine Below.drew ?_) | (with_reducible refine Below.extW ?_ _))) hb5
  have s5 : w.heap.size ≤ w5.heap.size := B5.size
  have HS5 := Lib.hid S5
  have K5 := Lib.hid k5
  have E5 := Lib.hid (show valD L5 = a * b by rw [e5, E3.out, E4.out])
  have l5' : L5.length ≤ 50 := by omega
  clear o5 S5 k5 e5 l5
  go_wp2_with fail
  refine (HQ.out _ A5 p5 L5 HS5.out K5.out (by omega) E5.out).mono ?_
  rintro e w6 ⟨rfl, hb6⟩
  have B6 : Below w.heap.size w w6 := Below.then_ (by repeat (first | with_reducible exact Below.refl _ _ | with_reducible assumption | ((with_reducible refine Below.setCell ?_ ?_ _); rotate_left; · (first | omega | exact Nat.le_refl _ | (simp <;> omega))) | (with_reducible refine Below.allocW ?_ _) | (with_reducible refine Below.drew ?_) | (with_reducible refine Below.extW ?_ _))) hb6
  have s6 : w.heap.size ≤ w6.heap.size := B6.size
  go_wp2_with fail
  go_ret2
  exact ⟨rfl, B6⟩
end Go.Proofs.YtpngailmhdiiiaaGreat
/- Shares in parts, rounded down and up: package gap, and the reference of layer 21. -/
namespace Go.Proofs.YtpngailmhdiiiaaGreat
open Go.ChangeShapes Go.WideShapes Go.ChangeAt Go.RowKit
set_option linter.unusedVariables false
set_option linter.unusedSimpArgs false
set_option maxRecDepth 100000

set_option maxHeartbeats 1000000 in
theorem gap_parts (w : World) (x : Int) {L B g : Nat} {lt ft : List Nd} (n d pl ph : Nat) (h : TabAt w L B g n lt ft) (hb : B ≤ w.heap.size) (m1 : lt.length ≤ 67108864) (r1 : lt.Pairwise fun a b => a.1 < b.1) (m1' : ft.length ≤ 67108864) (r1' : ft.Pairwise fun a b => a.1 < b.1)
    (e1 : upT lt x = pl) (e2 : upT ft x = ph) (hn : 1 ≤ n) (hn2 : n ≤ 9223372036854775807) (hd : d ≤ 9223372036854775807) (hp : pl ≤ n) (hq : ph ≤ n) :
    Calls Tryz.prog 93 #[.pointer (some ⟨g, 0, none⟩), .int .i64 x, .int .i64 d] w fun e w' => e = .returned (.tuple #[.int .i64 (pl * d / n : Nat), .int .i64 (upV ph d n : Nat)]) ∧ Below w.heap.size w w' := by
  have HB1 := Lib.hid (fun W (h : TabAt W L B g n lt ft) (hb : B ≤ W.heap.size) => table_Both x h hb m1 r1 m1' r1')
  rw [e1, e2] at HB1
  have T1 := Lib.hid h
  have HP := Lib.hid (reckon_Part · pl d n hd hn hn2 hp)
  have HU := Lib.hid (reckon_PartUp · ph d n hd hn hn2 hq)
  have u1 := part_le (b := d) hp hn
  have u2 := up_le (b := d) hq hn
  clear h r1 r1' e1 e2
  generalize pl * d / n = u at HP u1 ⊢
  generalize upV ph d n = v at HU u2 ⊢
  go_enter Tryz.func93, Tryz.ntmps93
  go_wp2_with fail
  refine (HB1.out _ T1.out hb).mono ?_
  rintro e w1 ⟨rfl, hb1⟩
  have s1 := hb1.size
  have U1 := Lib.hid (T1.out.below (hb1.mono hb))
  have BB1 := Lib.hid hb1
  clear hb1
  go_wp2_with fail
  have BA : Below w1.heap.size w1 (w1.alloc (.cells #[.int .i64 pl, .int .i64 ph] 29)) := (Below.refl _ _).alloc (Nat.le_refl _) _
  have P3 : Hid (bothAt (w1.alloc (.cells #[.int .i64 pl, .int .i64 ph] 29)) w1.heap.size pl ph) := Lib.hid (bothAt.new w1 pl ph)
  have BB3 := Lib.hid (BB1.out.trans (BA.mono s1))
  have T3 := Lib.hid (U1.out.below (BA.mono (by omega)))
  have s3 := BA.size
  have HBw : Hid (B ≤ (w1.alloc (.cells #[.int .i64 pl, .int .i64 ph] 29)).heap.size) := Lib.hid (by omega)
  clear BA
  generalize w1.alloc (.cells #[.int .i64 pl, .int .i64 ph] 29) = W3 at P3 BB3 s3 T3 HBw ⊢
  have cp := blk_cell P3.out
  have zp := lt_of_block P3.out
  refine wp_region_ext (by kernel_rfl) (by kernel_rfl) ?_
  repeat (go_big_quiet_step (first
    | (go_at_call 153; exact quiet_ext (table_N (T3.out.below ((ext_below _ _).mono HBw.out))))
    | (go_at_call 158; exact quiet_ext (HP.out _))))
  have BX := BB3.out
  refine wpQuiet_nil ?_
  intro w4 hb4
  replace hb4 := below_of_ext hb4
  have B4 : Below w.heap.size w w4 := Below.then_ (by repeat (first | with_reducible exact Below.refl _ _ | with_reducible assumption | ((with_reducible refine Below.setCell ?_ ?_ _); rotate_left; · (first | omega | exact Nat.le_refl _ | (simp <;> omega))) | (with_reducible refine Below.allocW ?_ _) | (with_reducible refine Below.drew ?_) | (with_reducible refine Below.extW ?_ _))) hb4
  have s4 : w.heap.size ≤ w4.heap.size := B4.size
  have z4_0 : w1.heap.size < w4.heap.size := by have := hb4.size; (try simp at this); omega
  have y4_0 : w1.heap.size ≤ w4.heap.size := Nat.le_of_lt z4_0
  have c4_0 := fun o => hb4.cell (p := ⟨w1.heap.size, o, none⟩) (by first | omega | (simp <;> omega))
  have f4_0 := fun o => hb4.frozen (p := ⟨w1.heap.size, o, none⟩) (by first | omega | (simp <;> omega))
  have T4 := Lib.hid (T3.out.below (hb4.mono HBw.out))
  have HBw4 : Hid (B ≤ w4.heap.size) := Lib.hid (Nat.le_trans HBw.out hb4.size)
  go_wp2_with fail
  refine wp_region_ext (by kernel_rfl) (by kernel_rfl) ?_
  repeat (go_big_quiet_step (first
    | (go_at_call 153; exact quiet_ext (table_N (T4.out.below ((ext_below _ _).mono HBw4.out))))
    | (go_at_call 159; exact quiet_ext (HU.out _))))
  refine wpQuiet_nil ?_
  intro w5 hb5
  replace hb5 := below_of_ext hb5
  have B5 : Below w.heap.size w w5 := Below.then_ (by repeat (first | with_reducible exact Below.refl _ _ | with_reducible assumption | ((with_reducible refine Below.setCell ?_ ?_ _); rotate_left; · (first | omega | exact Nat.le_refl _ | (simp <;> omega))) | (with_reducible refine Below.allocW ?_ _) | (with_reducible refine Below.drew ?_) | (with_reducible refine Below.extW ?_ _))) hb5
  have s5 : w.heap.size ≤ w5.heap.size := B5.size
  go_wp2_with fail
  go_ret2
  exact ⟨rfl, B5⟩
set_option maxHeartbeats 1000000 in
theorem ref21_parts (w : World) (k u : Int) (A : Option Addr) (cap : Nat) (l : List Nd) (x : Int) (d : Nat) (hS : Sl w w.heap.size encN A l) (hI : ints l) (hm : l.length ≤ 67108864) (hr : Roll l) (hs : sumR l ≤ 72057594037927935) (ht : (totalOf l).1 = sumR l) (hn : 1 ≤ sumR l) (hd : d ≤ 9223372036854775807) :
    Calls Tryz.prog 94 #[.agg #[.int .i64 k, .int .i64 u, .slice A l.length cap], .int .i64 x, .int .i64 d] w fun e w' => e = .returned (.tuple #[.int .i64 (downV (sumR l) d (lowOf u l x)), .int .i64 (upP (sumR l) d (highOf u l x))]) ∧ Below w.heap.size w w' := by
  have BA : Below w.heap.size w (w.alloc (.cells #[.int .i64 k, .int .i64 u, .slice A l.length cap] 37)) := (by repeat (first | with_reducible exact Below.refl _ _ | with_reducible assumption | ((with_reducible refine Below.setCell ?_ ?_ _); rotate_left; · (first | omega | exact Nat.le_refl _ | (simp <;> omega))) | (with_reducible refine Below.allocW ?_ _) | (with_reducible refine Below.drew ?_) | (with_reducible refine Below.extW ?_ _)))
  have S0 := Lib.hid (SlU.alloc hS (.cells #[.int .i64 k, .int .i64 u, .slice A l.length cap] 37))
  have K0 := Lib.hid (heap_alloc_new w (.cells #[.int .i64 k, .int .i64 u, .slice A l.length cap] 37))
  have HB1 := Lib.hid (fun (W : World) (h : Sl W W.heap.size encN A l) => ref21_both W k u A cap l x h hI hm hr hs)
  have HW := Lib.hid (ref13_Weight · k u A cap l · hI (by unfold maxLen; omega))
  rw [ht] at HW
  have a1 := low_range (l := u) hr x
  have a2 := high_range' (l := u) hr x
  unfold downV upP
  obtain ⟨n, e1⟩ := Int.eq_ofNat_of_zero_le (show 0 ≤ sumR l by omega)
  obtain ⟨pl, e3⟩ := Int.eq_ofNat_of_zero_le a1.1
  obtain ⟨ph, e4⟩ := Int.eq_ofNat_of_zero_le a2.1
  rw [e1] at HW a1 a2 hs hn
  rw [e3] at a1
  rw [e4] at a2
  rw [e3, e4] at HB1
  rw [e1, e3, e4]
  simp only [Int.toNat_natCast]
  have HP := Lib.hid (ref1_Part · pl d n hd (by omega) (by omega) (by omega))
  have HU := Lib.hid (ref1_PartUp · ph d n hd (by omega) (by omega) (by omega))
  have u1 := part_le (b := d) (show pl ≤ n by omega) (by omega)
  have u2 := up_le (b := d) (show ph ≤ n by omega) (by omega)
  generalize pl * d / n = p at HP u1 ⊢
  generalize upV ph d n = q at HU u2 ⊢
  clear hS hI hr ht e1 e3 e4 a1 a2 hs hn
  go_enter Tryz.func94, Tryz.ntmps94
  go_wp2_with fail
  refine (HB1.out _ S0.out).mono ?_
  rintro e w1 ⟨rfl, hb1⟩
  have B1 := BA.trans (hb1.mono BA.size)
  have K1 := Lib.hid ((blk_below K0.out hb1))
  have S1 := Lib.hid (S0.out.keep hb1.size fun p hp => hb1.cell hp)
  clear hb1 BA
  go_wp2_with fail
  have P3 : Hid (bothAt (w1.alloc (.cells #[.int .i64 pl, .int .i64 ph] 29)) w1.heap.size pl ph) := Lib.hid (bothAt.new w1 pl ph)
  have K3 := Lib.hid ((heap_new_lt w1 (.cells #[.int .i64 pl, .int .i64 ph] 29) _ (lt_of_block K1.out)).trans K1.out)
  have S3 := Lib.hid (SlU.alloc S1.out (.cells #[.int .i64 pl, .int .i64 ph] 29))
  have B3 : Below w.heap.size w (w1.alloc (.cells #[.int .i64 pl, .int .i64 ph] 29)) := (by repeat (first | with_reducible exact Below.refl _ _ | with_reducible assumption | ((with_reducible refine Below.setCell ?_ ?_ _); rotate_left; · (first | omega | exact Nat.le_refl _ | (simp <;> omega))) | (with_reducible refine Below.allocW ?_ _) | (with_reducible refine Below.drew ?_) | (with_reducible refine Below.extW ?_ _)))
  generalize w1.alloc (.cells #[.int .i64 pl, .int .i64 ph] 29) = W3 at P3 K3 S3 B3 ⊢
  have cp := blk_cell P3.out
  have zp := lt_of_block P3.out
  have ck := blk_cell K3.out
  have zk := lt_of_block K3.out
  refine wp_region_ext (by kernel_rfl) (by kernel_rfl) ?_
  repeat (go_big_quiet_step (first
    | (go_at_call 46; exact quiet_ext (HW.out _ (SlU.ext S3.out _)))
    | (go_at_call 160; exact quiet_ext (HP.out _))))
  refine wpQuiet_nil ?_
  intro w4 hb4
  replace hb4 := below_of_ext hb4
  have B4 : Below w.heap.size w w4 := Below.then_ (by repeat (first | with_reducible exact Below.refl _ _ | with_reducible assumption | ((with_reducible refine Below.setCell ?_ ?_ _); rotate_left; · (first | omega | exact Nat.le_refl _ | (simp <;> omega))) | (with_reducible refine Below.allocW ?_ _) | (with_reducible refine Below.drew ?_) | (with_reducible refine Below.extW ?_ _))) hb4
  have s4 : w.heap.size ≤ w4.heap.size := B4.size
  have z4_0 : w1.heap.size < w4.heap.size := by have := hb4.size; (try simp at this); omega
  have y4_0 : w1.heap.size ≤ w4.heap.size := Nat.le_of_lt z4_0
  have c4_0 := fun o => hb4.cell (p := ⟨w1.heap.size, o, none⟩) (by first | omega | (simp <;> omega))
  have f4_0 := fun o => hb4.frozen (p := ⟨w1.heap.size, o, none⟩) (by first | omega | (simp <;> omega))
  have z4_1 : w.heap.size < w4.heap.size := by have := hb4.size; (try simp at this); omega
  have y4_1 : w.heap.size ≤ w4.heap.size := Nat.le_of_lt z4_1
  have c4_1 := fun o => hb4.cell (p := ⟨w.heap.size, o, none⟩) (by first | omega | (simp <;> omega))
  have f4_1 := fun o => hb4.frozen (p := ⟨w.heap.size, o, none⟩) (by first | omega | (simp <;> omega))
  have S4 := Lib.hid (S3.out.keep hb4.size fun p hp => hb4.cell hp)
  go_wp2_with fail
  refine wp_region_ext (by kernel_rfl) (by kernel_rfl) ?_
  repeat (go_big_quiet_step (first
    | (go_at_call 46; exact quiet_ext (HW.out _ (SlU.ext S4.out _)))
    | (go_at_call 161; exact quiet_ext (HU.out _))))
  refine wpQuiet_nil ?_
  intro w5 hb5
  replace hb5 := below_of_ext hb5
  have B5 : Below w.heap.size w w5 := Below.then_ (by repeat (first | with_reducible exact Below.refl _ _ | with_reducible assumption | ((with_reducible refine Below.setCell ?_ ?_ _); rotate_left; · (first | omega | exact Nat.le_refl _ | (simp <;> omega))) | (with_reducible refine Below.allocW ?_ _) | (with_reducible refine Below.drew ?_) | (with_reducible refine Below.extW ?_ _))) hb5
  have s5 : w.heap.size ≤ w5.heap.size := B5.size
  go_wp2_with fail
  go_ret2
  exact ⟨rfl, B5⟩
end Go.Proofs.YtpngailmhdiiiaaGreat
/- Chapter 21: where something may change: plain laws. -/
namespace Go.Proofs.YtpngailmhdiiiaaGreat
open Go.ChangeShapes Go.WideShapes Go.ChangeAt Go.RowKit
set_option linter.unusedVariables false

/-- Where nodes begin and end. -/
def edgeL (l : Int) (r : List Nd) : List Int := r.flatMap fun x => [(endsOf l x.1).1, (endsOf l x.1).2.1]
theorem edgeL_append (l : Int) (a b : List Nd) : edgeL l (a ++ b) = edgeL l a ++ edgeL l b := by simp [edgeL]
theorem edgeL_len (l : Int) (r : List Nd) : (edgeL l r).length = 2 * r.length := by
  induction r with
  | nil => rfl
  | cons x r ih => simp only [edgeL, List.flatMap_cons, List.length_append, List.length_cons, List.length_nil] at ih ⊢; omega
theorem edgeL_take (l : Int) (r : List Nd) {q : Nat} (h : q < r.length) : edgeL l (r.take (q + 1)) = edgeL l (r.take q) ++ [(endsOf l r[q].1).1, (endsOf l r[q].1).2.1] := by
  rw [List.take_succ_eq_append_getElem h, edgeL_append]
  simp [edgeL]
/-- 0, and where the nodes of both begin and end. -/
def gapE (l : Int) (a b : List Nd) : List Int := 0 :: edgeL l (a ++ b)
theorem gapE_len (l : Int) (a b : List Nd) : (gapE l a b).length = 2 * (a.length + b.length) + 1 := by simp only [gapE, List.length_cons, edgeL_len, List.length_append]
/-- A rising list of just these. -/
def Rising (L E : List Int) : Prop := L.Pairwise (· ≤ ·) ∧ (∀ x, x ∈ L ↔ x ∈ E)
theorem compact_mem (d : Array Int) (m : Nat) : ∀ j, j < m → d[j]! ∈ Lib.compactUpTo d m := by
  induction m with
  | zero => intro j hj; omega
  | succ m ih =>
    intro j hj
    rw [Lib.compactUpTo_succ]
    by_cases e : j = m
    · subst e
      by_cases k : Lib.keeps d j = true
      · rw [if_pos k]; simp
      · rw [if_neg k, List.append_nil]
        have k' : ¬ (j = 0 ∨ d[j]! ≠ d[j - 1]!) := by simpa [Lib.keeps] using k
        have h0 : j ≠ 0 := fun h => k' (.inl h)
        have h1 : d[j]! = d[j - 1]! := Decidable.not_not.1 fun h => k' (.inr h)
        rw [h1]
        exact ih _ (by omega)
    · exact List.mem_append_left _ (ih j (by omega))
theorem compact_sub (zs : List Int) : (Lib.compact zs).Sublist zs := by
  unfold Lib.compact Lib.compactUpTo
  have h := (List.filter_sublist (l := List.range zs.length) (p := Lib.keeps zs.toArray)).map (fun j => zs.toArray[j]!)
  have e := Lib.range_map_get zs.toArray
  simp only [List.size_toArray, List.toList_toArray] at e
  rwa [e] at h
theorem compact_rising (E : List Int) : Rising (Lib.compact (E.mergeSort fun x y => decide (x ≤ y))) E := by
  have hp : (E.mergeSort fun x y => decide (x ≤ y)).Pairwise (· ≤ ·) := by
    have := List.pairwise_mergeSort (le := fun (x y : Int) => decide (x ≤ y)) (fun a b c h1 h2 => by simp only [decide_eq_true_eq] at *; omega) (fun a b => by simp only [Bool.or_eq_true, decide_eq_true_eq]; omega) E
    exact this.imp fun h => by simpa using h
  refine ⟨hp.sublist (compact_sub _), fun x => ?_⟩
  rw [← List.mem_mergeSort (le := fun (x y : Int) => decide (x ≤ y)) (l := E)]
  generalize E.mergeSort (fun x y => decide (x ≤ y)) = zs
  constructor
  · exact fun h => (compact_sub _).subset h
  · intro h
    obtain ⟨j, hj, rfl⟩ := List.getElem_of_mem h
    have := compact_mem zs.toArray zs.length j hj
    rw [getElem!_pos _ _ (by simpa using hj)] at this
    simpa [Lib.compact] using this
theorem compact_len_le (E : List Int) : (Lib.compact (E.mergeSort fun x y => decide (x ≤ y))).length ≤ E.length := by
  have := (compact_sub (E.mergeSort fun x y => decide (x ≤ y))).length_le
  rwa [List.length_mergeSort] at this
/-- The first one of a rising list is the least of any. -/
theorem apFold_rising {f : Int → Int} {L E : List Int} (h : Rising L E) {r : Int × Int} (hr : apIs f L r) : r = apFold f E := apIs_unique h.2 hr (apFold_is f E)
theorem gapFold_rising {l d : Int} {a b : List Nd} {L E : List Int} (h : Rising L E) : gapFold l d a b L = gapFold l d a b E := gapFold_set h.2
end Go.Proofs.YtpngailmhdiiiaaGreat
/- Leaves: package twig, and the reference of layer 2. -/
namespace Go.Proofs.YtpngailmhdiiiaaGreat
open Go.ChangeShapes Go.WideShapes Go.ChangeAt Go.RowKit
set_option linter.unusedVariables false
set_option maxRecDepth 100000

/-- Is a number a value of a universe? -/
def isVal (l : Nat) (x : Int) : Bool := decide (0 ≤ x) && decide (x < 2 ^ l)
def leafV (l : Nat) (x : Int) : Value := .tuple #[.int .i64 (if isVal l x = true then 2 ^ l + x else 0), .bool (isVal l x)]
theorem leafV_yes {l : Nat} {x : Int} (h : isVal l x = true) : leafV l x = .tuple #[.int .i64 (2 ^ l + x), .bool true] := by unfold leafV; rw [h]; rfl
theorem leafV_no {l : Nat} {x : Int} (h : isVal l x = false) : leafV l x = .tuple #[.int .i64 0, .bool false] := by unfold leafV; rw [h]; rfl
theorem or_leaf {l : Nat} (h : l ≤ 48) {x : Int} (h0 : 0 ≤ x) (h1 : x < 2 ^ l) : bits .or .i64 (2 ^ l) x = 2 ^ l + x := by
  have p1 := pow_48 h
  have p2 := pow_pos' l
  exact bits_join .i64 63 (by decide) (fun n h0 h1 => by rw [IntKind.wrap_i64]; omega) l (2 ^ l) x (by omega) (Int.emod_self) (by omega) h0 h1 (by omega)
theorem twig_Leaf (w : World) (l : Nat) (x : Int) (h1 : 1 ≤ l) (h2 : l ≤ 48) : Calls Tryz.prog 75 #[.int .i64 l, .int .i64 x] w fun e w' => e = .returned (leafV l x) ∧ Below w.heap.size w w' := by
  have p1 := pow_48 h2
  have p2 := pow_pos' l
  have HU := Lib.hid (show decide (1 ≤ (l : Int) ∧ (l : Int) ≤ 48) = true by simp; omega)
  have l1 : (1 : Int) ≤ (l : Int) := by omega
  have l2 : (l : Int) ≤ 48 := by omega
  by_cases hx0 : x < 0
  · rw [leafV_no (by unfold isVal; simp; omega)]
    go_enter Tryz.func75, Tryz.ntmps75
    go_wp2_with fail
    refine (universe_ _ _).mono ?_
    rintro e w1 ⟨rfl, hb1⟩
    have B1 : Below w.heap.size w w1 := Below.then_ (by repeat (first | with_reducible exact Below.refl _ _ | with_reducible assumption | ((with_reducible refine Below.setCell ?_ ?_ _); rotate_left; · (first | omega | exact Nat.le_refl _ | (simp <;> omega))) | (with_reducible refine Below.allocW ?_ _) | (with_reducible refine Below.drew ?_) | (with_reducible refine Below.extW ?_ _))) hb1
    have s1 : w.heap.size ≤ w1.heap.size := B1.size
    rw [HU.out]
    go_wp2_with fail
    go_ret2
    exact ⟨rfl, B1⟩
  · have k0 : decide (x < 0) = false := by simpa using hx0
    by_cases hx1 : x < 2 ^ l
    · rw [leafV_yes (by unfold isVal; simp; omega)]
      have HO := Lib.hid (or_leaf h2 (show 0 ≤ x by omega) hx1)
      have k1 : decide ((2 : Int) ^ l ≤ x) = false := by simp; omega
      go_enter Tryz.func75, Tryz.ntmps75
      go_wp2_with fail
      refine (universe_ _ _).mono ?_
      rintro e w1 ⟨rfl, hb1⟩
      have B1 : Below w.heap.size w w1 := Below.then_ (by repeat (first | with_reducible exact Below.refl _ _ | with_reducible assumption | ((with_reducible refine Below.setCell ?_ ?_ _); rotate_left; · (first | omega | exact Nat.le_refl _ | (simp <;> omega))) | (with_reducible refine Below.allocW ?_ _) | (with_reducible refine Below.drew ?_) | (with_reducible refine Below.extW ?_ _))) hb1
      have s1 : w.heap.size ≤ w1.heap.size := B1.size
      rw [HU.out]
      go_wp2_with fail
      go_ret2
      exact ⟨by simp [HO.out], B1⟩
    · rw [leafV_no (by unfold isVal; simp; omega)]
      have k1 : decide ((2 : Int) ^ l ≤ x) = true := by simp; omega
      go_enter Tryz.func75, Tryz.ntmps75
      go_wp2_with fail
      refine (universe_ _ _).mono ?_
      rintro e w1 ⟨rfl, hb1⟩
      have B1 : Below w.heap.size w w1 := Below.then_ (by repeat (first | with_reducible exact Below.refl _ _ | with_reducible assumption | ((with_reducible refine Below.setCell ?_ ?_ _); rotate_left; · (first | omega | exact Nat.le_refl _ | (simp <;> omega))) | (with_reducible refine Below.allocW ?_ _) | (with_reducible refine Below.drew ?_) | (with_reducible refine Below.extW ?_ _))) hb1
      have s1 : w.heap.size ≤ w1.heap.size := B1.size
      rw [HU.out]
      go_wp2_with fail
      go_ret2
      exact ⟨rfl, B1⟩
theorem ref2_Leaf (w : World) (l : Nat) (x : Int) (h1 : 1 ≤ l) (h2 : l ≤ 48) : Calls Tryz.prog 270 #[.int .i64 l, .int .i64 x] w fun e w' => e = .returned (leafV l x) ∧ Below w.heap.size w w' := by
  have p1 := pow_48 h2
  have p2 := pow_pos' l
  have HU := Lib.hid (show decide (1 ≤ (l : Int) ∧ (l : Int) ≤ 48) = true by simp; omega)
  have HP := Lib.hid (ref2_Power · l (by omega))
  by_cases hx0 : x < 0
  · rw [leafV_no (by unfold isVal; simp; omega)]
    go_enter Tryz.func270, Tryz.ntmps270
    go_wp2_with fail
    refine (ref2_Is _ _).mono ?_
    rintro e w1 ⟨rfl, hb1⟩
    have B1 : Below w.heap.size w w1 := Below.then_ (by repeat (first | with_reducible exact Below.refl _ _ | with_reducible assumption | ((with_reducible refine Below.setCell ?_ ?_ _); rotate_left; · (first | omega | exact Nat.le_refl _ | (simp <;> omega))) | (with_reducible refine Below.allocW ?_ _) | (with_reducible refine Below.drew ?_) | (with_reducible refine Below.extW ?_ _))) hb1
    have s1 : w.heap.size ≤ w1.heap.size := B1.size
    rw [HU.out]
    go_wp2_with fail
    go_ret2
    exact ⟨rfl, B1⟩
  · have k0 : decide (x < 0) = false := by simpa using hx0
    by_cases hx1 : x < 2 ^ l
    · rw [leafV_yes (by unfold isVal; simp; omega)]
      have k1 : decide ((2 : Int) ^ l ≤ x) = false := by simp; omega
      go_enter Tryz.func270, Tryz.ntmps270
      go_wp2_with fail
      refine (ref2_Is _ _).mono ?_
      rintro e w1 ⟨rfl, hb1⟩
      have B1 : Below w.heap.size w w1 := Below.then_ (by repeat (first | with_reducible exact Below.refl _ _ | with_reducible assumption | ((with_reducible refine Below.setCell ?_ ?_ _); rotate_left; · (first | omega | exact Nat.le_refl _ | (simp <;> omega))) | (with_reducible refine Below.allocW ?_ _) | (with_reducible refine Below.drew ?_) | (with_reducible refine Below.extW ?_ _))) hb1
      have s1 : w.heap.size ≤ w1.heap.size := B1.size
      rw [HU.out]
      go_wp2_with fail
      refine (HP.out _).mono ?_
      rintro e w2 ⟨rfl, hb2⟩
      have B2 : Below w.heap.size w w2 := Below.then_ (by repeat (first | with_reducible exact Below.refl _ _ | with_reducible assumption | ((with_reducible refine Below.setCell ?_ ?_ _); rotate_left; · (first | omega | exact Nat.le_refl _ | (simp <;> omega))) | (with_reducible refine Below.allocW ?_ _) | (with_reducible refine Below.drew ?_) | (with_reducible refine Below.extW ?_ _))) hb2
      have s2 : w.heap.size ≤ w2.heap.size := B2.size
      go_wp2_with fail
      refine (HP.out _).mono ?_
      rintro e w3 ⟨rfl, hb3⟩
      have B3 : Below w.heap.size w w3 := Below.then_ (by repeat (first | with_reducible exact Below.refl _ _ | with_reducible assumption | ((with_reducible refine Below.setCell ?_ ?_ _); rotate_left; · (first | omega | exact Nat.le_refl _ | (simp <;> omega))) | (with_reducible refine Below.allocW ?_ _) | (with_reducible refine Below.drew ?_) | (with_reducible refine Below.extW ?_ _))) hb3
      have s3 : w.heap.size ≤ w3.heap.size := B3.size
      go_wp2_with fail
      go_ret2
      exact ⟨rfl, B3⟩
    · rw [leafV_no (by unfold isVal; simp; omega)]
      have k1 : decide ((2 : Int) ^ l ≤ x) = true := by simp; omega
      go_enter Tryz.func270, Tryz.ntmps270
      go_wp2_with fail
      refine (ref2_Is _ _).mono ?_
      rintro e w1 ⟨rfl, hb1⟩
      have B1 : Below w.heap.size w w1 := Below.then_ (by repeat (first | with_reducible exact Below.refl _ _ | with_reducible assumption | ((with_reducible refine Below.setCell ?_ ?_ _); rotate_left; · (first | omega | exact Nat.le_refl _ | (simp <;> omega))) | (with_reducible refine Below.allocW ?_ _) | (with_reducible refine Below.drew ?_) | (with_reducible refine Below.extW ?_ _))) hb1
      have s1 : w.heap.size ≤ w1.heap.size := B1.size
      rw [HU.out]
      go_wp2_with fail
      refine (HP.out _).mono ?_
      rintro e w2 ⟨rfl, hb2⟩
      have B2 : Below w.heap.size w w2 := Below.then_ (by repeat (first | with_reducible exact Below.refl _ _ | with_reducible assumption | ((with_reducible refine Below.setCell ?_ ?_ _); rotate_left; · (first | omega | exact Nat.le_refl _ | (simp <;> omega))) | (with_reducible refine Below.allocW ?_ _) | (with_reducible refine Below.drew ?_) | (with_reducible refine Below.extW ?_ _))) hb2
      have s2 : w.heap.size ≤ w2.heap.size := B2.size
      go_wp2_with fail
      go_ret2
      exact ⟨rfl, B2⟩
end Go.Proofs.YtpngailmhdiiiaaGreat
/- Appends inside a fence; what a round keeps. -/
namespace Go.Proofs.YtpngailmhdiiiaaGreat
open Go.ChangeShapes Go.WideShapes Go.ChangeAt Go.RowKit
set_option linter.unusedVariables false

section
variable {α : Type} {P : Program} {t e : TypeId} {size bytes : Nat} {z : Value} {F : Fence} {n : Nat}
theorem wpListIn_app {w : World} {ops : Array Oper} {rest : List Oper} {o : Oper} {a : Act} {Q : Exit → Act → World → Prop} (T : SliceTy P t e size bytes z) (hgd : o.guard = none) (s x : Operand)
    (ho : o.op = .call { callee := .builtin .append, args := #[s, x], argTypes := #[t, t] }) (E : Enc α size) (base : Nat) (v : Value) (l : List α) (hs : a.eval s = v) (hown : Own w base e E v l)
    (A : Option Addr) (c : Nat) (l2 : List α) (B : Nat) (hx : a.eval x = .slice A l2.length c) (hsrc : Sl w B E A l2) (hn : (l.length + l2.length) * bytes ≤ 140737488355328) (hm : l.length + l2.length ≤ maxLen) (hbase : base ≤ w.heap.size)
    (h : ∀ v' w', Own w' base e E v' (l ++ l2) → w.grownBy w' v.ownBlock → (v'.ownBlock = v.ownBlock ∨ v'.ownBlock = some w.heap.size) → Below base w w' → (l2 ≠ [] → v' ≠ .slice none 0 0) →
      wpListIn F n P ops Q rest (a.put o.dst v') w') : wpListIn F n P ops Q (o :: rest) a w := by
  refine wpListIn_plain hgd fun K hK => ?_
  obtain ⟨v', w', hr, h2, h3, h4, h5⟩ := app_run T o.type w base v l hown A c l2 B hsrc hn hm hbase
  unfold Oper.wpIn
  refine ⟨?_, ?_⟩
  · simp [Oper.about, ho, resolve, Target.leads, Sem.run_pure]
  · rw [Oper.semAt_plain F _ _ (by rw [ho]; intro c hc'; cases hc')]
    simp only [execOp, ho, resolve, invoke, builtin, Sem.run_bind, Sem.run_pure, Result.andThen_ok, List.map_toArray, List.map_cons, List.map_nil, hs, hx, hr]
    exact hK _ _ (h v' w' h2 h3 h4 ((Below.refl base w).grown h3 hbase fun k hk => (hown.lt k hk).1) h5)
theorem wpListIn_push {w : World} {ops : Array Oper} {rest : List Oper} {o : Oper} {a : Act} {Q : Exit → Act → World → Prop} (T : SliceTy P t e size bytes z) (hgd : o.guard = none) (s x : Operand)
    (ho : o.op = .call { callee := .builtin .append, args := #[s, x], argTypes := #[t, t] }) (E : Enc α size) (W : World) (base : Nat) (v : Value) (l : List α) (hs : a.eval s = v) (hown : Own W base e E v l)
    (x0 : α) (hx : a.eval x = .slice (some ⟨W.heap.size, 0, none⟩) 1 1) (hw : w = W.alloc (.cells (E.enc x0).toArray e)) (hn : (l.length + 1) * bytes ≤ 140737488355328) (hm : l.length + 1 ≤ maxLen) (hbase : base ≤ W.heap.size)
    (h : ∀ v' w', Own w' base e E v' (l ++ [x0]) → W.grownBy w' v.ownBlock → W.heap.size < w'.heap.size → (v'.ownBlock = v.ownBlock ∨ v'.ownBlock = some (W.heap.size + 1)) → Below base W w' → v' ≠ .slice none 0 0 →
      wpListIn F n P ops Q rest (a.put o.dst v') w') : wpListIn F n P ops Q (o :: rest) a w := by
  subst hw
  have hsl := sl_lit W E [x0] e _ rfl
  simp only [List.flatMap_cons, List.flatMap_nil, List.append_nil] at hsl
  refine wpListIn_app T hgd s x ho E base v l hs (hown.alloc _) (some ⟨W.heap.size, 0, none⟩) 1 [x0] _ (by simpa using hx) hsl (by simpa using hn) (by simpa using hm) (by simp; omega) fun v' w' h2 h3 h4 h5 h6 => ?_
  have hs := h3.size
  simp at hs
  refine h v' w' h2 ⟨h3.os, h3.tape, h3.output, by omega, fun i hi hne => (h3.block i (by simp; omega) hne).trans (Below.heap_alloc W _ i hi)⟩ (by omega) ?_ ?_ (h6 (by simp))
  · rcases h4 with h4 | h4
    · exact .inl h4
    · right; rw [h4]; simp
  · exact ((Below.refl base W).alloc hbase _).trans h5
end

/-- A round keeps the rows below z, but for those in X. -/
def KeepX (z : Nat) (X : Nat → Prop) (A B : World) : Prop := A.heap.size ≤ B.heap.size ∧ ∀ (b : Nat) (cs : Array Value) (t : TypeId) (fr : Nat × Nat), b < z → ¬ X b → A.heap[b]? = some (.cells cs t fr) → B.heap[b]? = some (.cells cs t fr)
section
variable {z : Nat} {X : Nat → Prop} {A B C : World}
theorem keepX_t (h : KeepX z X A B) (k : KeepX z X B C) : KeepX z X A C := ⟨Nat.le_trans h.1 k.1, fun b cs t fr hz hx hb => k.2 b cs t fr hz hx (h.2 b cs t fr hz hx hb)⟩
theorem keepX_b (W : World) (l : Nat) (o o' : Obj) (h : W.heap[l]? = some o) (hc : o.isCells = false) : KeepX z X W (W.putObj l o') := by
  refine ⟨(grownBy_putObj' W l o').size, fun b cs t fr _ _ hb => ?_⟩
  have hne : b ≠ l := by
    rintro rfl
    rw [h] at hb
    cases hb
    simp [Obj.isCells] at hc
  rw [World.putObj_heap_other hne]
  exact hb
theorem KeepX.refl (W : World) : KeepX z X W W := ⟨Nat.le_refl _, fun _ _ _ _ _ _ h => h⟩
theorem KeepX.of_below (h : Below A.heap.size A B) : KeepX z X A B := ⟨h.size, fun b cs t fr _ _ hb => (h.block b (lt_of_block hb)).trans hb⟩
/-- A store to a block of X, or beyond z. -/
theorem KeepX.set (h : KeepX z X A B) {p : Addr} (hp : X p.block ∨ z ≤ p.block) (u : Value) : KeepX z X A (B.setCell p u) :=
  keepX_t h ⟨by simp [World.setCell], fun b cs t fr hz hx hb => by
    rw [Below.heap_setCell _ _ _ _ (by
      rintro rfl
      rcases hp with hp | hp
      · exact hx hp
      · omega)]
    exact hb⟩
theorem KeepX.grown (h : KeepX z X A B) {row : Option Nat} (hg : B.grownBy C row) (hr : ∀ b, row = some b → z ≤ b) : KeepX z X A C :=
  keepX_t h ⟨hg.size, fun b cs t fr hz hx hb => (hg.block b (lt_of_block hb) (fun e => by have := hr b e.symm; omega)).trans hb⟩
theorem KeepX.cell (h : KeepX z X A B) {b o : Nat} {v : Value} (hz : b < z) (hx : ¬ X b) (hc : A.cell? ⟨b, o, none⟩ = some v) : B.cell? ⟨b, o, none⟩ = some v := by
  obtain ⟨ob, h1, h2⟩ := cells_of_cell hc
  cases ob with
  | cells cs t fr => exact (World.cell?_of_block ((h.2 b cs t fr hz hx h1).trans h1.symm)).trans hc
  | _ => simp [Obj.isCells] at h2
/-- A row is kept where what is no row turns. -/
theorem row_grown {row : Option Nat} {b : Nat} {cs : Array Value} {t : TypeId} {fr : Nat × Nat} (h : A.heap[b]? = some (.cells cs t fr)) (hg : A.grownBy B row) (hr : ∀ r, row = some r → ∃ o : Obj, A.heap[r]? = some o ∧ o.isCells = false) : B.heap[b]? = some (.cells cs t fr) :=
  (grownBy_keeps_cells hg hr h rfl).trans h
theorem own_grown {α : Type} {size base e : Nat} {E : Enc α size} {v : Value} {l : List α} {row : Option Nat} (h : Own A base e E v l) (hg : A.grownBy B row) (hr : ∀ r, row = some r → ∃ o : Obj, A.heap[r]? = some o ∧ o.isCells = false) : Own B base e E v l :=
  h.of_block fun g hv => by
    rcases h with ⟨rfl, _⟩ | ⟨g1, o1, c1, u1, rfl, _, hh1, _⟩
    · cases hv
    · have : g1 = g := by simpa [Value.ownBlock] using hv
      subst this
      exact grownBy_keeps_cells hg hr hh1 rfl
end
/-- A slice of ints that reads as a list, in a block below z that is none of X. -/
def SlX (w : World) (z : Nat) (X : Nat → Prop) (A : Option Addr) (es : List Int) : Prop := es = [] ∨ ∃ b off, A = some ⟨b, off, none⟩ ∧ b < z ∧ ¬ X b ∧ ∀ i x, es[i]? = some x → w.cell? ⟨b, off + i, none⟩ = some (.int .i64 x)
theorem SlX.keep {w w' : World} {z : Nat} {X : Nat → Prop} {A : Option Addr} {es : List Int} (h : SlX w z X A es) (k : KeepX z X w w') : SlX w' z X A es := by
  rcases h with h | ⟨b, off, rfl, hz, hx, hc⟩
  · exact .inl h
  · exact .inr ⟨b, off, rfl, hz, hx, fun i x hi => k.cell hz hx (hc i x hi)⟩
theorem SlX.below {w w' : World} {z : Nat} {X : Nat → Prop} {A : Option Addr} {es : List Int} (h : SlX w z X A es) (hb : Below z w w') : SlX w' z X A es := by
  rcases h with h | ⟨b, off, rfl, hz, hx, hc⟩
  · exact .inl h
  · exact .inr ⟨b, off, rfl, hz, hx, fun i x hi => (hb.cell (p := ⟨b, off + i, none⟩) hz).trans (hc i x hi)⟩
theorem SlX.of {w : World} {B z : Nat} {X : Nat → Prop} {A : Option Addr} {es : List Int} (h : Sl w B encZ A es) (hB : B ≤ z) (hX : ∀ b, b < B → ¬ X b) : SlX w z X A es := by
  rcases h with h | ⟨b, off, rfl, hb, hc⟩
  · exact .inl h
  · refine .inr ⟨b, off, rfl, by omega, hX b hb, fun i x hi => ?_⟩
    have := hc i x hi 0 (.int .i64 x) rfl
    simpa using this
theorem SlX.at_ {w : World} {z : Nat} {X : Nat → Prop} {A : Option Addr} {es : List Int} (h : SlX w z X A es) {i : Nat} (hi : i < es.length) : ∃ b off, A = some ⟨b, off, none⟩ ∧ b < z ∧ w.cell? ⟨b, off + i, none⟩ = some (.int .i64 es[i]) := by
  rcases h with h | ⟨b, off, rfl, hz, hx, hc⟩
  · subst h; simp at hi
  · exact ⟨b, off, rfl, hz, hc i _ (List.getElem?_eq_getElem hi)⟩
end Go.Proofs.YtpngailmhdiiiaaGreat
/- Chapter 19: bins: plain laws. -/
namespace Go.Proofs.YtpngailmhdiiiaaGreat
open Go.ChangeShapes Go.WideShapes Go.ChangeAt Go.RowKit
set_option linter.unusedVariables false

/-- Are numbers edges of a universe, behind a number? -/
def rightE (l : Nat) (p : Int) : List Int → Bool
  | [] => true
  | x :: r => (decide (0 ≤ x) && decide (x < 2 ^ l) && decide (p < x)) && rightE l x r
/-- The edge ahead of a place. -/
def prevE (es : List Int) (q : Nat) : Int := if q = 0 then -1 else es.getD (q - 1) 0
theorem prevE_succ {es : List Int} {q : Nat} (h : q < es.length) : prevE es (q + 1) = es[q] := by
  unfold prevE
  rw [if_neg (by omega), Nat.add_sub_cancel, List.getD_eq_getElem?_getD, List.getElem?_eq_getElem h]; rfl
theorem prevE_at {es : List Int} {q : Nat} (h : q < es.length) (h0 : 0 < q) : prevE es q = es[q - 1] := by
  unfold prevE
  rw [if_neg (by omega), List.getD_eq_getElem?_getD, List.getElem?_eq_getElem (by omega)]; rfl
theorem rightE_drop {l : Nat} {es : List Int} {q : Nat} (h : q < es.length) : rightE l (prevE es q) (es.drop q) = ((decide (0 ≤ es[q]) && decide (es[q] < 2 ^ l) && decide (prevE es q < es[q])) && rightE l (prevE es (q + 1)) (es.drop (q + 1))) := by
  rw [List.drop_eq_getElem_cons h, prevE_succ h]; rfl
/-- What weighs at least ahead of a bin. -/
def lowN (l : Int) (r : List Nd) (es : List Int) : Nat → Int
  | 0 => 0
  | q + 1 => if h : q < es.length then lowOf l r es[q] else sumR r
def binAt (l : Int) (r : List Nd) (es : List Int) (q : Nat) : Int := lowN l r es (q + 1) - lowN l r es q
def binsL (l : Int) (r : List Nd) (es : List Int) : List Int := (List.range (es.length + 1)).map (binAt l r es)
/-- A bin's first and last value. -/
def runAt (l : Nat) (es : List Int) (q : Nat) : Int × Int := (if q = 0 then 0 else es.getD (q - 1) 0 + 1, if q < es.length then es.getD q 0 else 2 ^ l - 1)
def runsL (l : Nat) (es : List Int) : List (Int × Int) := (List.range (es.length + 1)).map (runAt l es)
theorem binsL_len (l : Int) (r : List Nd) (es : List Int) : (binsL l r es).length = es.length + 1 := by simp [binsL]
theorem runsL_len (l : Nat) (es : List Int) : (runsL l es).length = es.length + 1 := by simp [runsL]
theorem binsL_at {l : Int} {r : List Nd} {es : List Int} {q : Nat} (h : q < (binsL l r es).length) : (binsL l r es)[q] = binAt l r es q := by simp [binsL]
theorem map_range_succ {α : Type} (f : Nat → α) (q : Nat) : (List.range (q + 1)).map f = (List.range q).map f ++ [f q] := by rw [List.range_succ, List.map_append]; rfl
/-- The program's sums: run by run. -/
def binStep (l : Int) (r : List Nd) (a : List Int × Int) (p : Int × Int) : List Int × Int := (a.1 ++ [lowOf l r p.2 - a.2], lowOf l r p.2)
def binFold (l : Int) (r : List Nd) (ps : List (Int × Int)) : List Int × Int := ps.foldl (binStep l r) ([], 0)
theorem binFold_snoc (l : Int) (r : List Nd) (ps : List (Int × Int)) (p : Int × Int) : binFold l r (ps ++ [p]) = binStep l r (binFold l r ps) p := by
  unfold binFold
  rw [List.foldl_append]; rfl
theorem binFold_len (l : Int) (r : List Nd) (ps : List (Int × Int)) : (binFold l r ps).1.length = ps.length := by
  suffices h : ∀ (a : List Int × Int), (ps.foldl (binStep l r) a).1.length = a.1.length + ps.length by
    have := h ([], 0)
    unfold binFold
    simpa using this
  induction ps with
  | nil => intro a; simp
  | cons p ps ih => intro a; rw [List.foldl_cons, ih]; simp [binStep]; omega
theorem binFold_range {l : Nat} {r : List Nd} (hr : rightOf l r = true) (es : List Int) (q : Nat) (hq : q ≤ es.length + 1) : binFold l r ((List.range q).map (runAt l es)) = ((List.range q).map (binAt l r es), lowN l r es q) := by
  induction q with
  | zero => rfl
  | succ q ih =>
    rw [map_range_succ, binFold_snoc, ih (by omega), map_range_succ]
    have e : lowOf l r (runAt l es q).2 = lowN l r es (q + 1) := by
      unfold runAt
      simp only [lowN]
      by_cases h : q < es.length
      · rw [dif_pos h, if_pos h, List.getD_eq_getElem?_getD, List.getElem?_eq_getElem h]; rfl
      · rw [dif_neg h, if_neg h]
        exact low_top hr (by omega)
    simp only [binStep, binAt, e]
theorem binFold_runs {l : Nat} {r : List Nd} (hr : rightOf l r = true) (es : List Int) : (binFold l r (runsL l es)).1 = binsL l r es := by
  unfold runsL
  rw [binFold_range hr es _ (Nat.le_refl _)]; rfl
/-- An edge less. -/
def lessE (es : List Int) (at_ : Nat) : List Int := es.take at_ ++ es.drop (at_ + 1)
theorem lessE_len {es : List Int} {at_ : Nat} (h : at_ < es.length) : (lessE es at_).length = es.length - 1 := by
  unfold lessE
  rw [List.length_append, List.length_take, List.length_drop]; omega
theorem lessE_get (es : List Int) (at_ i : Nat) (h : at_ < es.length) : (lessE es at_)[i]? = if i < at_ then es[i]? else es[i + 1]? := by
  unfold lessE
  by_cases hi : i < at_
  · rw [if_pos hi, List.getElem?_append_left (by rw [List.length_take]; omega), List.getElem?_take, if_pos hi]
  · rw [if_neg hi, List.getElem?_append_right (by rw [List.length_take]; omega), List.getElem?_drop, List.length_take]
    congr 1; omega
theorem lowN_get (l : Int) (r : List Nd) (es : List Int) (q : Nat) : lowN l r es (q + 1) = match es[q]? with | some x => lowOf l r x | none => sumR r := by
  simp only [lowN]
  by_cases h : q < es.length
  · rw [dif_pos h, List.getElem?_eq_getElem h]
  · rw [dif_neg h, List.getElem?_eq_none (by omega)]
theorem lowN_less {l : Int} {r : List Nd} {es : List Int} {at_ : Nat} (h : at_ < es.length) (j : Nat) : lowN l r (lessE es at_) j = if j ≤ at_ then lowN l r es j else lowN l r es (j + 1) := by
  cases j with
  | zero => rw [if_pos (Nat.zero_le _)]; rfl
  | succ j =>
    rw [lowN_get, lessE_get _ _ _ h, lowN_get, lowN_get]
    by_cases hj : j < at_
    · rw [if_pos hj, if_pos (by omega)]
    · rw [if_neg hj, if_neg (by omega)]
theorem bins_join {l : Int} {r : List Nd} {es : List Int} {at_ : Nat} (h : at_ < es.length) :
    binsL l r (lessE es at_) = (binsL l r es).take at_ ++ [binAt l r es at_ + binAt l r es (at_ + 1)] ++ (binsL l r es).drop (at_ + 2) := by
  have hl := lessE_len h
  apply List.ext_getElem
  · rw [binsL_len, hl, List.length_append, List.length_append, List.length_take, List.length_drop, binsL_len]; simp only [List.length_singleton]; omega
  · intro i h1 h2
    rw [binsL_at]
    rw [binsL_len] at h1
    have hb : ∀ j, binAt l r (lessE es at_) j = (if j + 1 ≤ at_ then lowN l r es (j + 1) else lowN l r es (j + 1 + 1)) - (if j ≤ at_ then lowN l r es j else lowN l r es (j + 1)) := fun j => by
      unfold binAt; rw [lowN_less h, lowN_less h]
    rw [hb]
    have ht : ((binsL l r es).take at_).length = at_ := by rw [List.length_take, binsL_len]; omega
    rcases Nat.lt_trichotomy i at_ with hi | hi | hi
    · rw [if_pos (by omega), if_pos (by omega), List.getElem_append_left (by rw [List.length_append, ht]; omega), List.getElem_append_left (by rw [ht]; omega), List.getElem_take, binsL_at]; rfl
    · subst hi
      rw [if_neg (by omega), if_pos (by omega), List.getElem_append_left (by rw [List.length_append, ht]; simp), List.getElem_append_right (by rw [ht]; omega)]
      simp only [ht, Nat.sub_self, List.getElem_singleton, binAt]; omega
    · rw [if_neg (by omega), if_neg (by omega), List.getElem_append_right (by rw [List.length_append, ht]; simp; omega), List.getElem_drop, binsL_at]
      unfold binAt
      have e : at_ + 2 + (i - ((binsL l r es).take at_ ++ [binAt l r es at_ + binAt l r es (at_ + 1)]).length) = i + 1 := by
        rw [List.length_append, ht]; simp only [List.length_singleton]; omega
      simp only [binAt] at e
      rw [e]
theorem rightE_less {l : Nat} (es : List Int) : ∀ (p : Int) (at_ : Nat), rightE l p es = true → rightE l p (lessE es at_) = true := by
  induction es with
  | nil => intro p at_ h; simp [lessE, rightE]
  | cons x es ih =>
    intro p at_ h
    simp only [rightE, Bool.and_eq_true, decide_eq_true_eq] at h
    obtain ⟨⟨⟨h1, h2⟩, h3⟩, h4⟩ := h
    cases at_ with
    | zero =>
      show rightE l p es = true
      cases es with
      | nil => rfl
      | cons y es =>
        simp only [rightE, Bool.and_eq_true, decide_eq_true_eq] at h4 ⊢
        obtain ⟨⟨⟨h5, h6⟩, h7⟩, h8⟩ := h4
        exact ⟨⟨⟨h5, h6⟩, by omega⟩, h8⟩
    | succ a =>
      show rightE l p (x :: lessE es a) = true
      simp only [rightE, Bool.and_eq_true, decide_eq_true_eq]
      exact ⟨⟨⟨h1, h2⟩, h3⟩, ih x a h4⟩
end Go.Proofs.YtpngailmhdiiiaaGreat
/- Package bins: runs, an iterator over where bins begin and end. -/
namespace Go.Proofs.YtpngailmhdiiiaaGreat
open Go.ChangeShapes Go.WideShapes Go.ChangeAt Go.RowKit
set_option linter.unusedVariables false
attribute [local go_sem] Oper.semAt_some

theorem runAt_fst_succ {l : Nat} {es : List Int} {q : Nat} (h : q < es.length) : (runAt l es (q + 1)).1 = es[q] + 1 := by
  unfold runAt
  simp only
  rw [if_neg (by omega), Nat.add_sub_cancel, List.getD_eq_getElem?_getD, List.getElem?_eq_getElem h]; rfl
theorem runAt_in {l : Nat} {es : List Int} {q : Nat} (h : q < es.length) : (runAt l es q).2 = es[q] := by
  unfold runAt
  simp only
  rw [if_pos h, List.getD_eq_getElem?_getD, List.getElem?_eq_getElem h]; rfl
theorem runAt_last (l : Nat) (es : List Int) : (runAt l es es.length).2 = 2 ^ l - 1 := by
  unfold runAt
  simp
theorem runs_take (l : Nat) (es : List Int) {q : Nat} (h : q ≤ es.length) : (runsL l es).take q ++ [((runAt l es q).1, (runAt l es q).2)] = (runsL l es).take (q + 1) := by
  have hq : q < (runsL l es).length := by rw [runsL_len]; omega
  rw [List.take_succ_eq_append_getElem hq]
  congr 1
  simp [runsL]
end Go.Proofs.YtpngailmhdiiiaaGreat
/- The reference of layer 18 (reach): Between, Share. -/
namespace Go.Proofs.YtpngailmhdiiiaaGreat
open Go.ChangeShapes Go.WideShapes Go.ChangeAt Go.RowKit
set_option linter.unusedVariables false
set_option maxRecDepth 100000

theorem three (p q : Prop) [Decidable p] [Decidable q] : (p ∧ q) ∨ (p ∧ decide q = false) ∨ decide p = false := by
  by_cases hp : p
  · by_cases hq : q
    · exact .inl ⟨hp, hq⟩
    · exact .inr (.inl ⟨hp, decide_eq_false hq⟩)
  · exact .inr (.inr (decide_eq_false hp))
theorem drew_heap (W : World) : W.drew.heap = W.heap := rfl
end Go.Proofs.YtpngailmhdiiiaaGreat
/- Edges of bins: package bins, and the reference of layer 19: Right. -/
namespace Go.Proofs.YtpngailmhdiiiaaGreat
open Go.ChangeShapes Go.WideShapes Go.ChangeAt Go.RowKit
set_option linter.unusedVariables false
set_option maxRecDepth 100000

theorem isNode_one {l : Nat} (h1 : 1 ≤ l) (h2 : l ≤ 48) : isNode l 1 = true := by
  have := pow_pos' l
  simp only [isNode, decide_eq_true_eq, Int.toNat_natCast]; omega
/-- One edge more. -/
theorem right_step {l : Nat} {es : List Int} {q : Nat} (h : q < es.length) :
    (isVal l es[q] = true ∧ (q = 0 ∨ prevE es q < es[q]) → rightE l (prevE es q) (es.drop q) = rightE l (prevE es (q + 1)) (es.drop (q + 1))) ∧
    (isVal l es[q] = false ∨ (0 < q ∧ es[q] ≤ prevE es q) → rightE l (prevE es q) (es.drop q) = false) := by
  rw [rightE_drop h]
  unfold isVal
  constructor
  · rintro ⟨h1, h2⟩
    simp only [Bool.and_eq_true, decide_eq_true_eq] at h1
    have : prevE es q < es[q] := by
      rcases h2 with rfl | h2
      · unfold prevE; simp; omega
      · exact h2
    simp [h1.1, h1.2, this]
  · rintro (h1 | ⟨h1, h2⟩)
    · rw [h1]; simp
    · have : decide (prevE es q < es[q]) = false := by simp; omega
      rw [this]; simp
/-- Why there are no bins. -/
def binErr (l : Nat) (es : List Int) : Int := if rightE l (-1) es = true then 0 else 8
end Go.Proofs.YtpngailmhdiiiaaGreat
/- Package bins: Of. -/
namespace Go.Proofs.YtpngailmhdiiiaaGreat
open Go.ChangeShapes Go.WideShapes Go.ChangeAt Go.RowKit
set_option linter.unusedVariables false
set_option maxRecDepth 100000
attribute [local go_sem] Oper.semAt_some

/-- What Of tells. -/
def ofBins (l : Nat) (r : List Nd) (es : List Int) : List Int := if binErr l es = 0 then binsL l r es else []
def BinsPost (l : Nat) (r : List Nd) (es : List Int) (w : World) (e : Ending) (w' : World) : Prop := ∃ v, e = .returned (.tuple #[v, .int .i64 (binErr l es)]) ∧ Own w' w.heap.size 3 encZ v (ofBins l r es) ∧ Below w.heap.size w w'
theorem rightE_all {l : Nat} (es : List Int) : ∀ p, rightE l p es = true → ∀ x ∈ es, 0 ≤ x ∧ x < 2 ^ l := by
  induction es with
  | nil => intro p _ x hx; simp at hx
  | cons y es ih =>
    intro p h x hx
    simp only [rightE, Bool.and_eq_true, decide_eq_true_eq] at h
    rcases List.mem_cons.1 hx with rfl | hx
    · exact h.1.1
    · exact ih y h.2 x hx
/-- The state behind some runs. -/
structure OfI (w : World) (l : Nat) (r : List Nd) (L B g bt bo ba z : Nat) (lt ft : List Nd) (pre : List (Int × Int)) (W : World) : Prop where
  t : W.heap[bt]? = some (.cells #[.pointer (some ⟨g, 0, none⟩)] 130 (0, 0))
  o : ∃ v, W.heap[bo]? = some (.cells #[v] 27 (0, 0)) ∧ Own W z 3 encZ v (binFold l r pre).1
  a : W.heap[ba]? = some (.cells #[.int .i64 (binFold l r pre).2] 3 (0, 0))
  tab : TabAt W L B g (sumR r) lt ft
  sz : z ≤ W.heap.size
theorem tab_grown {A B : World} {L B0 g : Nat} {n : Int} {lt ft : List Nd} {row : Option Nat} (h : TabAt A L B0 g n lt ft) (hg : A.grownBy B row) (hr : ∀ r, row = some r → ∃ o : Obj, A.heap[r]? = some o ∧ o.isCells = false) : TabAt B L B0 g n lt ft := by
  obtain ⟨h0, h0', A1, c1, A2, c2, A3, c3, A4, c4, h1, ⟨h2, h3, h4, h5⟩, h6⟩ := h
  exact ⟨h0, h0', A1, c1, A2, c2, A3, c3, A4, c4, row_grown h1 hg hr, ⟨own_grown h2 hg hr, own_grown h3 hg hr, own_grown h4 hg hr, own_grown h5 hg hr⟩, h6⟩
theorem binFold_range2 (l : Int) (r : List Nd) (hr : Roll r) (ps : List (Int × Int)) : 0 ≤ (binFold l r ps).2 ∧ (binFold l r ps).2 ≤ sumR r := by
  have h0 := sumR_nonneg hr
  rcases List.eq_nil_or_concat ps with rfl | ⟨qs, p, rfl⟩
  · simp only [binFold, List.foldl_nil]; omega
  · rw [List.concat_eq_append, binFold_snoc]
    exact weighR_le hr
end Go.Proofs.YtpngailmhdiiiaaGreat
/- A digest's blocks are rows of cells: what an iterator's state turns is none of them. -/
namespace Go.Proofs.YtpngailmhdiiiaaGreat
open Go.ChangeShapes Go.WideShapes Go.ChangeAt Go.RowKit
set_option linter.unusedVariables false

theorem own_cells {α : Type} {size base e : Nat} {E : Enc α size} {w : World} {v : Value} {l : List α} (h : Own w base e E v l) {b : Nat} (hb : v.ownBlock = some b) : ∃ o, w.heap[b]? = some o ∧ o.isCells = true := by
  rcases h with ⟨rfl, _⟩ | ⟨g1, o1, c1, u1, rfl, _, hh1, _⟩
  · cases hb
  · have : g1 = b := by simpa [Value.ownBlock] using hb
    subst this
    exact ⟨_, hh1, rfl⟩
theorem DigAt.cells {w : World} {g K l : Nat} {k : Int} {r : List Nd} {F : Nat → Prop} (h : DigAt w g K l k r F) : ∀ b, F b → ∃ o, w.heap[b]? = some o ∧ o.isCells = true := by
  obtain ⟨h1, h2, p, F0, rfl, h3, h4⟩ := h
  rintro q (rfl | hq)
  · exact ⟨_, h3, rfl⟩
  · obtain ⟨a1, a2, a3, p2, F1, rfl, h5⟩ := h4
    rcases h5 with ⟨_, _, c, d⟩ | ⟨_, c, d⟩
    · rcases hq with rfl | hq
      · exact ⟨_, c, rfl⟩
      · obtain ⟨v, C, e1, e2, _, _, rfl⟩ := d
        rcases hq with rfl | hq
        · exact ⟨_, e1, rfl⟩
        · exact own_cells e2 hq
    · rcases hq with rfl | hq
      · exact ⟨_, c, rfl⟩
      · obtain ⟨v, S, b, e1, e2, _, _, _, _, rfl⟩ := d
        rcases hq with rfl | hq
        · exact ⟨_, e1, rfl⟩
        · exact own_cells e2 hq
theorem DigAt.grown {A B : World} {g K l : Nat} {k : Int} {r : List Nd} {F : Nat → Prop} {row : Option Nat} (h : DigAt A g K l k r F) (hg : A.grownBy B row) (hr : ∀ r, row = some r → ∃ o : Obj, A.heap[r]? = some o ∧ o.isCells = false) : DigAt B g K l k r F :=
  h.keep fun b hb => by
    obtain ⟨o, ho, hc⟩ := h.cells b hb
    exact hg.block b (h.lt b hb) fun e => by
      obtain ⟨o2, ho2, hc2⟩ := hr b e.symm
      rw [ho] at ho2; cases ho2
      rw [hc] at hc2; cases hc2
end Go.Proofs.YtpngailmhdiiiaaGreat
/- append(s, x, y ..): a list that was made for the call alone. -/
namespace Go.Proofs.YtpngailmhdiiiaaGreat
open Go.ChangeShapes Go.WideShapes Go.ChangeAt Go.RowKit
set_option linter.unusedVariables false

section
variable {α : Type} {P : Program} {t e : TypeId} {size bytes : Nat} {z : Value}
theorem wpList_pushes {w : World} {ops : Array Oper} {rest : List Oper} {o : Oper} {a : Act} {Q : Exit → Act → World → Prop} (T : SliceTy P t e size bytes z) (hgd : o.guard = none) (s x : Operand)
    (ho : o.op = .call { callee := .builtin .append, args := #[s, x], argTypes := #[t, t] }) (E : Enc α size) (W : World) (base : Nat) (v : Value) (l : List α) (hs : a.eval s = v) (hown : Own W base e E v l)
    (l2 : List α) (n : Nat) (hn2 : n = l2.length) (hx : a.eval x = .slice (some ⟨W.heap.size, 0, none⟩) n n) (hw : w = W.alloc (.cells (l2.flatMap E.enc).toArray e)) (hn : (l.length + l2.length) * bytes ≤ 140737488355328) (hm : l.length + l2.length ≤ maxLen) (hbase : base ≤ W.heap.size)
    (h : ∀ v' w', Own w' base e E v' (l ++ l2) → W.grownBy w' v.ownBlock → W.heap.size < w'.heap.size → (v'.ownBlock = v.ownBlock ∨ v'.ownBlock = some (W.heap.size + 1)) → Below base W w' → (l2 ≠ [] → v' ≠ .slice none 0 0) →
      wpList P ops Q rest (a.put o.dst v') w') : wpList P ops Q (o :: rest) a w := by
  subst hw hn2
  refine wpList_app T hgd s x ho E base v l hs (hown.alloc _) (some ⟨W.heap.size, 0, none⟩) l2.length l2 _ hx (sl_lit W E l2 e _ rfl) hn hm (by simp; omega) fun v' w' h2 h3 h4 h5 h6 => ?_
  have hs := h3.size
  simp at hs
  refine h v' w' h2 ⟨h3.os, h3.tape, h3.output, by omega, fun i hi hne => (h3.block i (by simp; omega) hne).trans (Below.heap_alloc W _ i hi)⟩ (by omega) ?_ ?_ h6
  · rcases h4 with h4 | h4
    · exact .inl h4
    · right; rw [h4]; simp
  · exact ((Below.refl base W).alloc hbase _).trans h5
end
end Go.Proofs.YtpngailmhdiiiaaGreat
/- slices.Sort and slices.Compact on a list of ints that the call owns. -/
namespace Go.Proofs.YtpngailmhdiiiaaGreat
open Go.ChangeShapes Go.WideShapes Go.ChangeAt Go.RowKit
set_option linter.unusedVariables false

theorem flatZ (l : List Int) : l.flatMap encZ.enc = l.map (Value.int .i64) := by
  induction l with
  | nil => rfl
  | cons x l ih => rw [List.flatMap_cons, ih]; rfl
theorem Own.holdsZ {w : World} {base g off cap : Nat} {l : List Int} (h : Own w base 3 encZ (.slice (some ⟨g, off, none⟩) l.length cap) l) : Go.Sort.Holds (Value.int .i64) w g off l.toArray := by
  intro j hj
  have hj : j < l.length := by simpa using hj
  rcases h with ⟨h, _⟩ | ⟨g', off', cap', cur, hv, hb, hh, h1, h2, h3, hc⟩
  · cases h
  · injection hv with hv _ _
    injection hv with hv
    injection hv with e1 e2
    subst e1 e2
    rw [blk_cell hh, blk_frozen hh]
    refine ⟨hc j _ ?_, rfl⟩
    rw [flatZ, List.getElem?_map, List.getElem?_eq_getElem hj]
    simp [hj]
theorem Own.putZ {w : World} {base g off cap : Nat} {l : List Int} (h : Own w base 3 encZ (.slice (some ⟨g, off, none⟩) l.length cap) l) (d l' : List Int) (hd : d.length = l.length) (rest : List Int) (hr : d = l' ++ rest) (n : Nat) (os : Array Obj) :
    Own (Go.Sort.grow (Go.Sort.putRow (Value.int .i64) (Go.Sort.ahead w n) g off d.toArray) os) base 3 encZ (.slice (some ⟨g, off, none⟩) l'.length cap) l' ∧ Turn (fun b => b = g) w (Go.Sort.grow (Go.Sort.putRow (Value.int .i64) (Go.Sort.ahead w n) g off d.toArray) os) ∧ base ≤ g := by
  have hl : l'.length ≤ l.length := by rw [← hd, hr, List.length_append]; omega
  rcases h with ⟨h, _⟩ | ⟨g', off', cap', cur, hv, hb, hh, h1, h2, h3, hc⟩
  · cases h
  · injection hv with hv _ hcap
    injection hv with hv
    injection hv with e1 e2
    subst e1 e2 hcap
    have hlt : g < w.heap.size := lt_of_block hh
    have hg : (Go.Sort.grow (Go.Sort.putRow (Value.int .i64) (Go.Sort.ahead w n) g off d.toArray) os).heap[g]? = some (.cells (Go.Sort.putCells (Value.int .i64) off d.toArray cur) 3 (0, 0)) := by
      rw [Go.Sort.heap_grow_old _ _ (by simp [Go.Sort.putRow, Go.Sort.mapBlock, Go.Sort.ahead]; exact hlt)]
      simp [Go.Sort.putRow, Go.Sort.mapBlock, Go.Sort.ahead, Array.getElem?_modify, Go.Sort.onCells, hh]
    refine ⟨.inr ⟨g, off, cap, _, rfl, hb, hg, by omega, h2, by simpa [Go.Sort.putCells] using h3, fun j u hj => ?_⟩, ⟨rfl, rfl, rfl, ?_, fun b hlb hn => ?_⟩, hb⟩
    · rw [flatZ, List.getElem?_map] at hj
      obtain ⟨x, hx, rfl⟩ := Option.map_eq_some_iff.1 hj
      have hjl : j < l'.length := (List.getElem?_eq_some_iff.1 hx).1
      have hcur : cur[off + j]? = some cur[off + j] := Array.getElem?_eq_getElem (by omega)
      simp only [Go.Sort.putCells, Array.getElem?_mapIdx, hcur, Option.map_some]
      rw [if_pos ⟨by omega, by simp [hd]; omega⟩]
      have hdj : d[j]? = some x := by rw [hr, List.getElem?_append_left hjl]; exact hx
      have e : d.toArray[off + j - off]! = x := by
        rw [Nat.add_sub_cancel_left, getElem!_pos _ _ (by simpa using (List.getElem?_eq_some_iff.1 hdj).1)]
        simpa using (List.getElem?_eq_some_iff.1 hdj).2
      rw [e]
    · simp [Go.Sort.grow, Go.Sort.putRow, Go.Sort.mapBlock, Go.Sort.ahead]
    · rw [Go.Sort.heap_grow_old _ _ (by simp [Go.Sort.putRow, Go.Sort.mapBlock, Go.Sort.ahead]; exact hlb)]
      simp only [Go.Sort.putRow, Go.Sort.mapBlock, Go.Sort.ahead, Array.getElem?_modify]
      rw [if_neg (by intro h; exact hn h.symm)]
/-- slices.Sort. -/
theorem sort_own (w : World) (base g off cap : Nat) (l : List Int) (h : Own w base 3 encZ (.slice (some ⟨g, off, none⟩) l.length cap) l) (hb : base ≤ w.heap.size) (hm : l.length ≤ 1000000000000) :
    Calls Tryz.prog 82 #[.slice (some ⟨g, off, none⟩) l.length cap] w fun e w' => e = .returned (.tuple #[]) ∧ Own w' base 3 encZ (.slice (some ⟨g, off, none⟩) l.length cap) (l.mergeSort fun x y => decide (x ≤ y)) ∧ Turn (fun b => b = g) w w' ∧ base ≤ g := by
  refine (Go.Proofs.Tryz.slices_Sort_int g off cap l w h.holdsZ ((h.lt g rfl).2) (by omega)).mono ?_
  rintro e w' ⟨rfl, n, os, rfl⟩
  have hl : (l.mergeSort fun x y => decide (x ≤ y)).length = l.length := List.length_mergeSort _
  obtain ⟨h1, h2, h3⟩ := h.putZ (l.mergeSort fun x y => decide (x ≤ y)) (l.mergeSort fun x y => decide (x ≤ y)) hl [] (by simp) n os
  rw [hl] at h1
  exact ⟨rfl, h1, h2, h3⟩
/-- slices.Compact. -/
theorem compact_own (w : World) (base g off cap : Nat) (l : List Int) (h : Own w base 3 encZ (.slice (some ⟨g, off, none⟩) l.length cap) l) (hm : l.length ≤ 1000000000000) :
    Calls Tryz.prog 156 #[.slice (some ⟨g, off, none⟩) l.length cap] w fun e w' => e = .returned (.slice (some ⟨g, off, none⟩) (Lib.compact l).length cap) ∧ Own w' base 3 encZ (.slice (some ⟨g, off, none⟩) (Lib.compact l).length cap) (Lib.compact l) ∧ Turn (fun b => b = g) w w' ∧ base ≤ g := by
  have hc := h.len_le
  have hle := (compact_sub l).length_le
  refine (Go.Proofs.Tryz.slices_Compact_int g off cap l w h.holdsZ (by omega) hc.2.1).mono ?_
  rintro e w' ⟨rfl, n, rfl⟩
  obtain ⟨h1, h2, h3⟩ := h.putZ (Lib.compact l ++ List.replicate (l.length - (Lib.compact l).length) 0) (Lib.compact l) (by simp; omega) _ rfl n #[]
  rw [Go.Sort.grow_empty] at h1 h2
  exact ⟨rfl, h1, h2, h3⟩
end Go.Proofs.YtpngailmhdiiiaaGreat
/- Package gap: ends: an iterator over where something may change. -/
namespace Go.Proofs.YtpngailmhdiiiaaGreat
open Go.ChangeShapes Go.WideShapes Go.ChangeAt Go.RowKit
set_option linter.unusedVariables false
set_option linter.unusedSimpArgs false
set_option maxRecDepth 100000
attribute [local go_sem] Oper.semAt_some

/-- Where the nodes of so many of two digests begin and end. -/
def endsJ (l : Int) (r1 r2 : List Nd) (j : Nat) : List Int := match j with
  | 0 => [0]
  | 1 => 0 :: edgeL l r1
  | _ => gapE l r1 r2
/-- One of two digests, as the loop meets it. -/
structure GapDig (w : World) (s l : Nat) (r1 r2 : List Nd) (j g K : Nat) (k : Int) (r : List Nd) (F : Nat → Prop) : Prop where
  c : w.cell? ⟨s, j, none⟩ = some (.pointer (some ⟨g, 0, none⟩))
  d : DigAt w g K l k r F
  m : r.length ≤ 67108864
  e : endsJ l r1 r2 (j + 1) = endsJ l r1 r2 j ++ edgeL l r
  el : (endsJ l r1 r2 j).length ≤ 134217729
/-- What ends hands back. -/
def EndsPost (E : List Int) (w : World) (e : Ending) (w' : World) : Prop := ∃ (b : Nat) (A : Option Addr) (cap : Nat) (L : List Int), e = .returned (.func (.func 157) #[] #[.pointer (some ⟨b, 0, none⟩)]) ∧ w.heap.size ≤ b ∧ w'.heap[b]? = some (.cells #[.slice A L.length cap] 27 (0, 0)) ∧ Own w' w.heap.size 3 encZ (.slice A L.length cap) L ∧ Rising L E ∧ L.length ≤ E.length ∧ Below w.heap.size w w'
set_option maxHeartbeats 4000000 in
theorem gap_ends (w : World) (s g1 g2 K1 K2 l : Nat) (k1 k2 : Int) (r1 r2 : List Nd) (F1 F2 : Nat → Prop) (hs : w.heap[s]? = some (.cells #[.pointer (some ⟨g1, 0, none⟩), .pointer (some ⟨g2, 0, none⟩)] 33 (0, 0))) (h1 : DigAt w g1 K1 l k1 r1 F1) (h2 : DigAt w g2 K2 l k2 r2 F2) (m1 : r1.length ≤ 67108864) (m2 : r2.length ≤ 67108864) :
    Calls Tryz.prog 90 #[.slice (some ⟨s, 0, none⟩) 2 2] w (EndsPost (gapE l r1 r2) w) := by
  have HJ : Hid (∀ j, j < 2 → ∃ g K k r F, GapDig w s l r1 r2 j g K k r F) := Lib.hid fun j hj => by
    have c := blk_cell hs
    rcases (show j = 0 ∨ j = 1 by omega) with rfl | rfl
    · exact ⟨g1, K1, k1, r1, F1, c 0, h1, m1, rfl, by simp [endsJ]⟩
    · exact ⟨g2, K2, k2, r2, F2, c 1, h2, m2, by simp only [endsJ, gapE, edgeL_append]; rfl, by simp only [endsJ, List.length_cons, edgeL_len]; omega⟩
  have zs := lt_of_block hs
  have hl := h1.l_le
  have HE := Lib.hid (fun (W : World) (id : Int) (h : id ≤ 9223372036854775807) => twig_Ends W l id h)
  have HG2 := Lib.hid (gapE_len l r1 r2)
  clear hs h1 h2
  go_enter Tryz.func90, Tryz.ntmps90
  go_upto_region 2 with fail
  have O0 := Lib.hid (Own.lit (base := w.heap.size) w encZ [0] 3 (Nat.le_refl _) (by simp [maxLen]))
  simp only [List.flatMap_cons, List.flatMap_nil, List.append_nil, encZ, List.length_singleton] at O0
  have OB := Lib.hid (O0.out.alloc (.cells #[.slice (some ⟨w.heap.size, 0, none⟩) 1 1] 27))
  have KB := Lib.hid (heap_new_at (w.alloc (.cells #[.int .i64 0] 3)) (.cells #[.slice (some ⟨w.heap.size, 0, none⟩) 1 1] 27) (w.heap.size + 1) (by simp))
  have BA : Below w.heap.size w ((w.alloc (.cells #[.int .i64 0] 3)).alloc (.cells #[.slice (some ⟨w.heap.size, 0, none⟩) 1 1] 27)) := (by repeat (first | with_reducible exact Below.refl _ _ | with_reducible assumption | ((with_reducible refine Below.setCell ?_ ?_ _); rotate_left; · (first | omega | exact Nat.le_refl _ | (simp <;> omega))) | (with_reducible refine Below.allocW ?_ _) | (with_reducible refine Below.drew ?_) | (with_reducible refine Below.extW ?_ _)))
  have HBA := Lib.hid BA
  clear O0 BA
  generalize (w.alloc (.cells #[.int .i64 0] 3)).alloc (.cells #[.slice (some ⟨w.heap.size, 0, none⟩) 1 1] 27) = W0 at OB KB HBA ⊢
  go_wp2_with fail
  go_loopw [15] (fun i wr => ∃ j : Nat, j ≤ 2 ∧ i = .int .i64 j ∧ ∃ v, wr.heap[w.heap.size + 1]? = some (.cells #[v] 27 (0, 0)) ∧ Own wr w.heap.size 3 encZ v (endsJ l r1 r2 j) ∧ Below w.heap.size w wr) (fun i _ => 2 - (intOf i).toNat)
  case atStart => exact ⟨0, Nat.zero_le _, rfl, _, KB.out, OB.out, HBA.out⟩
  case round =>
    obtain ⟨j, hj, rfl, v, hbox, hown, hB⟩ := hrel
    by_cases hlt : j < 2
    · obtain ⟨g, K, k, r, F, G⟩ := HJ.out j hlt
      have hsz := hB.size
      have cs := (hB.cell (p := ⟨s, j, none⟩) zs).trans G.c
      have zs' : s < wr.heap.size := by omega
      have HD := Lib.hid (G.d.below hB)
      have hm := G.m
      have EJ := Lib.hid G.e
      have hel := G.el
      have hfit := G.d.fits
      have HX : Hid (∀ x ∈ r, x.1 ≤ 9223372036854775807) := Lib.hid fun x hx => by
        have a1 := hfit.lt x hx
        have a2 := pow_48 (n := l) hl.2
        omega
      have HBOX := Lib.hid hbox
      have HOWN := Lib.hid hown
      have HB := Lib.hid hB
      obtain ⟨D, hD⟩ : ∃ D, D = endsJ l r1 r2 j := ⟨_, rfl⟩
      rw [← hD] at HOWN EJ hel
      clear G hbox hown hB hD hfit
      have HBr := HB.out
      go_wp2_with fail
      refine (digest_Conf _ g K l k r F HD.out).mono ?_
      rintro e w1 ⟨rfl, hb1⟩
      have B1 : Below w.heap.size w w1 := Below.then_ (by repeat (first | with_reducible exact Below.refl _ _ | with_reducible assumption | ((with_reducible refine Below.setCell ?_ ?_ _); rotate_left; · (first | omega | exact Nat.le_refl _ | (simp <;> omega))) | (with_reducible refine Below.allocW ?_ _) | (with_reducible refine Below.drew ?_) | (with_reducible refine Below.extW ?_ _))) hb1
      have s1 : w.heap.size ≤ w1.heap.size := B1.size
      have BB1 := Lib.hid (HB.out.trans (hb1.mono HB.out.size))
      have HD1 := Lib.hid (HD.out.below hb1)
      have BX1 := Lib.hid (blk_below HBOX.out hb1)
      have OW1 := Lib.hid (HOWN.out.below hb1)
      clear hb1 HBr
      go_wp2_with fail
      refine (digest_Nodes _ g K l k r F HD1.out hm).mono ?_
      rintro e w2 ⟨vn, rfl, ho2, hb2⟩
      have BB2 := Lib.hid (BB1.out.trans (hb2.mono BB1.out.size))
      have BX2 := Lib.hid (blk_below BX1.out hb2)
      have OW2 := Lib.hid (OW1.out.below hb2)
      obtain ⟨An, cn, rfl, _⟩ := ho2.form
      have ON2 := Lib.hid (ho2.base_le (b := w.heap.size) BB1.out.size)
      clear hb2 ho2 HB HD HD1 BB1 BX1 OW1 HBOX HOWN
      go_wp2_with fail
      go_loopw [25] (fun i wr => ∃ q : Nat, q ≤ r.length ∧ i = .int .i64 q ∧ ∃ v, wr.heap[w.heap.size + 1]? = some (.cells #[v] 27 (0, 0)) ∧ Own wr w.heap.size 3 encZ v (D ++ edgeL l (r.take q)) ∧ Own wr w.heap.size 100 encN (.slice An r.length cn) r ∧ Below w.heap.size w wr) (fun i _ => r.length - (intOf i).toNat)
      case atStart => exact ⟨0, Nat.zero_le _, rfl, _, BX2.out, by simpa [edgeL] using OW2.out, ON2.out, BB2.out⟩
      case round =>
        obtain ⟨q, hq, rfl, v5, hbox, hown, hnod, hB⟩ := hrel
        have HBOX := Lib.hid hbox
        have HOWN := Lib.hid hown
        have HNOD := Lib.hid hnod
        have HB := Lib.hid hB
        have hsz5 := hB.size
        have hlen : (D ++ edgeL l (r.take q)).length ≤ 402653185 := by rw [List.length_append, edgeL_len, List.length_take, Nat.min_eq_left hq]; omega
        by_cases hlt5 : q < r.length
        · obtain ⟨c, off, rfl, hc, hcl⟩ := hnod.sl.at_ hlt5
          have d0 := hcl 0 (.int .i64 r[q].1) rfl
          have d1 := hcl 1 (.int .i64 r[q].2) rfl
          simp only [Nat.add_zero] at d0
          have hx := HX.out _ (List.getElem_mem hlt5)
          have E1 := Lib.hid (show D ++ edgeL l (r.take (q + 1)) = (D ++ edgeL l (r.take q)) ++ [(endsOf l r[q].1).1, (endsOf l r[q].1).2.1] by rw [edgeL_take (l : Int) r hlt5, List.append_assoc])
          obtain ⟨C, hC⟩ : ∃ C, C = D ++ edgeL l (r.take q) := ⟨_, rfl⟩
          rw [← hC] at HOWN hlen E1
          obtain ⟨y, hy⟩ : ∃ y, y = r[q] := ⟨_, rfl⟩
          rw [← hy] at d0 d1 hx E1
          have HEy := Lib.hid (HE.out · y.1 hx)
          generalize endsOf l y.1 = t at HEy E1
          obtain ⟨t1, t2, t3⟩ := t
          unfold endsV at HEy
          clear hcl hy hnod hx hB hC hbox hown
          go_wp2_with fail
          refine (HEy.out _).mono ?_
          rintro e w6 ⟨rfl, hb6⟩
          have BW : Below wr.heap.size wr w6 := ((Below.refl wr.heap.size wr).alloc (Nat.le_refl _) _).trans (hb6.mono (by simp))
          have k6 := blk_below HBOX.out BW
          have c6 := blk_cell k6
          have z6 := lt_of_block k6
          have K6 := Lib.hid k6
          obtain ⟨A6, n6, rfl, _⟩ := HOWN.out.form
          have O6 := Lib.hid (HOWN.out.below BW)
          have N6 := Lib.hid (HNOD.out.below BW)
          have B6 := Lib.hid (HB.out.trans (BW.mono hsz5))
          clear BW k6 hb6 HBOX HOWN HNOD HB
          go_wp2_with ((at_builtin; refine wpList_pushes tyZ rfl _ _ rfl encZ w6 w.heap.size (.slice A6 C.length n6) C rfl O6.out [t1, t2] 2 rfl (by go_simp) rfl ?c1 ?c2 ?c3 ?c4))
          case c1 => simp only [List.length_cons, List.length_nil]; omega
          case c2 => simp only [maxLen, List.length_cons, List.length_nil]; omega
          case c3 => exact B6.out.size
          case c4 =>
            intro v7 w7 ho7 hg7 hlt7 hlies hb7 _
            have N7 := Lib.hid (N6.out.kept hg7 (own_ne N6.out O6.out (by decide)))
            have K7 := Lib.hid (blk_grown K6.out O6.out hg7 (by decide))
            have B7 := Lib.hid (B6.out.trans hb7)
            obtain ⟨A7, n7, rfl, _⟩ := ho7.form
            have O7 := Lib.hid (show Own w7 w.heap.size 3 encZ (.slice A7 (C.length + 2) n7) (D ++ edgeL l (r.take (q + 1))) by rw [E1.out]; simpa using ho7)
            have c7 := blk_cell K7.out
            have f7 := blk_frozen K7.out
            have z7 := lt_of_block K7.out
            clear ho7 hg7 hlies hb7 K6 O6 N6 B6 c6 z6
            go_wp2_with fail
            go_roundw
            case rel => exact ⟨q + 1, by omega, by go_num, _, heap_set_at (i := 0) K7.out _, O7.out.setCell (fun h => O7.out.ne_block K7.out (by decide) h) _, N7.out.setCell (fun h => N7.out.ne_block K7.out (by decide) h) _, B7.out.setCell (p := ⟨w.heap.size + 1, 0, none⟩) (by simp) _⟩
            case measure => simp [intOf]; omega
        · obtain rfl : q = r.length := by omega
          rw [List.take_length] at HOWN
          rw [← EJ.out] at HOWN
          go_wp2_with fail
          go_roundw
          case rel => exact ⟨j + 1, by omega, by go_num, _, HBOX.out, HOWN.out, HB.out⟩
          case measure => simp [intOf]; omega
    · obtain rfl : j = 2 := by omega
      have HOWN := Lib.hid (show Own wr w.heap.size 3 encZ v (gapE l r1 r2) from hown)
      obtain ⟨E, hE⟩ : ∃ E, E = gapE l r1 r2 := ⟨_, rfl⟩
      have hE0 : 0 < E.length := by rw [hE, HG2.out]; omega
      have hEl : E.length ≤ 1000000000000 := by rw [hE, HG2.out]; omega
      rw [← hE] at HOWN
      have HE' := Lib.hid hE
      rcases HOWN.out with ⟨_, h0⟩ | ⟨ga, off, cap, cur, rfl, hga, _⟩
      · rw [h0] at hE0; simp at hE0
      · have HO := Lib.hid (show Own wr w.heap.size 3 encZ (.slice (some ⟨ga, off, none⟩) E.length cap) E from HOWN.out)
        have HBOX := Lib.hid hbox
        have HB := Lib.hid hB
        have cb := blk_cell hbox
        have zb := lt_of_block hbox
        clear hown hbox hB hE HOWN HJ HE
        go_wp2_with fail
        refine (sort_own _ w.heap.size ga off cap E HO.out HB.out.size hEl).mono ?_
        rintro e w1 ⟨rfl, hs1, ht1, _⟩
        have hne : w.heap.size + 1 ≠ ga := fun h => by
          have := HO.out.ne_block HBOX.out (by decide)
          exact this (by rw [h]; rfl)
        have K1 := Lib.hid (ht1.keep HBOX.out hne)
        have B1 := Lib.hid (HB.out.trans (ht1.below (base := w.heap.size) (fun b hb => by rw [hb]; exact hga) HB.out.size))
        have hl1 : (E.mergeSort fun x y => decide (x ≤ y)).length = E.length := List.length_mergeSort _
        have hr := compact_rising E
        have hle := compact_len_le E
        obtain ⟨S, hS⟩ : ∃ S, S = E.mergeSort fun x y => decide (x ≤ y) := ⟨_, rfl⟩
        rw [← hS] at hs1 hl1 hr hle
        have O1 := Lib.hid (show Own w1 w.heap.size 3 encZ (.slice (some ⟨ga, off, none⟩) S.length cap) S by rw [hl1]; exact hs1)
        have hc := compact_own w1 w.heap.size ga off cap S O1.out (by rw [hl1]; exact hEl)
        rw [hl1] at hc
        have HC := Lib.hid hc
        have c1 := blk_cell K1.out
        have f1 := blk_frozen K1.out
        have z1 := lt_of_block K1.out
        clear hs1 ht1 hl1 hS cb zb HBOX HB HO hc
        go_wp2_with fail
        refine HC.out.mono ?_
        rintro e w2 ⟨rfl, hc2, ht2, _⟩
        have K2 := Lib.hid (ht2.keep K1.out hne)
        have B2 := Lib.hid (B1.out.trans (ht2.below (base := w.heap.size) (fun b hb => by rw [hb]; exact hga) B1.out.size))
        obtain ⟨L, hL⟩ : ∃ L, L = Lib.compact S := ⟨_, rfl⟩
        rw [← hL] at hc2 hr hle ⊢
        have O2 := Lib.hid hc2
        have c2 := blk_cell K2.out
        have f2 := blk_frozen K2.out
        have z2 := lt_of_block K2.out
        clear hc2 ht2 hL c1 f1 z1 K1 O1 B1
        go_wp2_with fail
        go_ret
        exact ⟨w.heap.size + 1, some ⟨ga, off, none⟩, cap, L, rfl, by omega, heap_set_at (i := 0) K2.out _, O2.out.setCell (fun h => O2.out.ne_block K2.out (by decide) h) _, HE'.out ▸ hr, HE'.out ▸ hle, B2.out.setCell (p := ⟨w.heap.size + 1, 0, none⟩) (by simp) _⟩
end Go.Proofs.YtpngailmhdiiiaaGreat
/- Package gap: the iterator of ends. -/
namespace Go.Proofs.YtpngailmhdiiiaaGreat
open Go.ChangeShapes Go.WideShapes Go.ChangeAt Go.RowKit
set_option linter.unusedVariables false
set_option linter.unusedSimpArgs false
set_option maxRecDepth 100000
attribute [local go_sem] Oper.semAt_some

set_option maxHeartbeats 2000000 in
/-- All of these come, rising, or a part of them. -/
theorem ends_stops (n b z : Nat) (X : Nat → Prop) (A : Option Addr) (cap : Nat) (L : List Int) (w : World) (hn : 1 ≤ n) (hz : z ≤ w.heap.size)
    (hb : w.heap[b]? = some (.cells #[.slice A L.length cap] 27 (0, 0))) (hS : SlX w z X A L) (b1 : b < z) (b2 : ¬ X b) (hlen : L.length ≤ 1000000000000) :
    SeqStopsK Fence.wide n Tryz.prog 157 #[.pointer (some ⟨b, 0, none⟩)] (fun x : Int => #[Value.int .i64 x]) (KeepX z X) (fun ys => ys = L) (fun pre => pre <+: L) L.length w := fun q J Jx W hW hJ hJx hY h0 => by
  have hWz : Below z w W := hW.mono hz
  have kb := Lib.hid (blk_below hb hW)
  have KS := Lib.hid (hS.below hWz)
  have cb := blk_cell kb.out
  have zb := lt_of_block kb.out
  have HY := Lib.hid hY
  have H0 := Lib.hid h0
  clear hb hS hY hJ hJx h0
  refine callsIn_of_wp Tryz.func157 rfl trivial ?_ rfl
  simp only [Tryz.ntmps157, List.size_toArray, List.length_cons, List.length_nil, Nat.reduceAdd, Nat.reduceSub, Array.replicate_succ, Array.replicate_zero, List.push_toArray, List.append_toArray, List.nil_append, List.cons_append]
  gi_wp2_with fail
  gi_loopw [7] (fun i wr => ∃ k : Nat, k ≤ L.length ∧ i = .int .i64 k ∧ J (L.take k) wr ∧ KeepX z X W wr) (fun i _ => L.length - (intOf i).toNat)
  case atStart => exact ⟨0, Nat.zero_le _, rfl, H0.out, KeepX.refl _⟩
  case round =>
    obtain ⟨k, hk, rfl, hJk, hK⟩ := hrel
    have KJ := Lib.hid hJk
    have KK := Lib.hid hK
    by_cases hlt : k < L.length
    · obtain ⟨c, off, rfl, hc, hcl⟩ := (KS.out.keep hK).at_ hlt
      have zc : c < wr.heap.size := by have := hK.1; have := hW.size; omega
      have hT := List.take_succ_eq_append_getElem hlt
      obtain ⟨x, hx⟩ : ∃ x, x = L[k] := ⟨_, rfl⟩
      rw [← hx] at hcl hT
      obtain ⟨fn, tmps, assign, body, hy, hR⟩ := HY.out (L.take k) x _ KJ.out (by rw [List.length_take]; omega)
      rw [← hT] at hR
      clear hx hT hJk hK
      gi_wp2_with fail
      refine hR.mono ?_
      rintro e w3 (⟨rfl, hJ3, hk3⟩ | ⟨rfl, hJx3⟩)
      · have K3 := Lib.hid (keepX_t KK.out hk3)
        have J3 := Lib.hid hJ3
        clear hJ3 hk3
        gi_wp2_with fail
        go_roundw
        case rel => exact ⟨k + 1, by omega, by go_num, J3.out, K3.out⟩
        case measure => simp [intOf]; omega
      · have J3 := Lib.hid hJx3
        clear hJx3
        gi_wp2_with fail
        refine bodyPost_ret (results_none rfl _ _ _) rfl ?_
        exact ⟨⟨_, rfl⟩, .inr ⟨_, List.take_prefix _ _, J3.out⟩⟩
    · obtain rfl : k = L.length := by omega
      rw [List.take_length] at KJ
      gi_wp2_with fail
      go_end0
      exact ⟨⟨_, rfl⟩, .inl ⟨_, rfl, KJ.out⟩⟩
end Go.Proofs.YtpngailmhdiiiaaGreat
/- Chapter 21: two digests turned about: plain laws. -/
namespace Go.Proofs.YtpngailmhdiiiaaGreat
open Go.ChangeShapes Go.WideShapes Go.ChangeAt Go.RowKit
set_option linter.unusedVariables false

theorem sideV_turn {n m pl ph ql qh : Int} (h0 : 0 ≤ n) (h0' : 0 ≤ m) (h1 : pl ≤ ph) (h2 : ql ≤ qh) : sideV m n ql qh pl ph = - sideV n m pl ph ql qh := by
  unfold sideV
  have k1 := Int.mul_le_mul_of_nonneg_right h1 h0'
  have k2 := Int.mul_le_mul_of_nonneg_right h2 h0
  by_cases c1 : ph * m < ql * n
  · rw [if_pos c1, if_neg (by omega), if_pos c1]; rfl
  · rw [if_neg c1]
    by_cases c2 : qh * n < pl * m
    · rw [if_pos c2, if_pos c2]
    · rw [if_neg c2, if_neg c2, if_neg c1]; rfl
theorem sideV_same {n pl ph : Int} (h0 : 0 ≤ n) (h1 : pl ≤ ph) : sideV n n pl ph pl ph = 0 := by
  unfold sideV
  have k1 := Int.mul_le_mul_of_nonneg_right h1 h0
  rw [if_neg (by omega), if_neg (by omega)]
theorem sideOf_turn {l : Nat} {a b : List Nd} (ha : Roll a) (hb : Roll b) (ra : rightOf l a = true) (rb : rightOf l b = true) (x : Int) : sideOf l b a x = - sideOf l a b x :=
  sideV_turn (sumR_nonneg ha) (sumR_nonneg hb) (low_high ha ra x) (low_high hb rb x)
theorem sideOf_same {l : Nat} {a : List Nd} (ha : Roll a) (ra : rightOf l a = true) (x : Int) : sideOf l a a x = 0 := sideV_same (sumR_nonneg ha) (low_high ha ra x)
theorem apIs_turn {f g : Int → Int} {l : List Int} {r : Int × Int} (h : apIs f l r) (hg : ∀ x, g x = - f x) : apIs g l (r.1, - r.2) := by
  rcases h with ⟨h1, rfl⟩ | ⟨h1, h2, h3, h4⟩
  · exact .inl ⟨fun x hx => by rw [hg, h1 x hx]; rfl, rfl⟩
  · exact .inr ⟨h1, by rw [hg, h2], by simp only; omega, fun x hx h => h4 x hx (by rw [hg] at h; omega)⟩
theorem apFold_turn {f g : Int → Int} {l m : List Int} (hm : ∀ x, x ∈ m ↔ x ∈ l) (hg : ∀ x, g x = - f x) : apFold g m = ((apFold f l).1, - (apFold f l).2) :=
  apIs_unique hm (apFold_is g m) (apIs_turn (apFold_is f l) hg)
theorem apFold_none {f : Int → Int} {l : List Int} (h : ∀ x ∈ l, f x = 0) : apFold f l = (0, 0) := apIs_unique (fun _ => Iff.rfl) (apFold_is f l) (apIs_none h)
theorem gapStep_turn (l d : Int) (a b : List Nd) (o : Int × Int) (x : Int) : gapStep l d b a o x = gapStep l d a b o x := by
  unfold gapStep
  refine Prod.ext ?_ ?_
  · simp only; omega
  · simp only; omega
theorem gapFold_turn {l d : Int} {a b : List Nd} {e f : List Int} (h : ∀ x, x ∈ e ↔ x ∈ f) : gapFold l d b a e = gapFold l d a b f := by
  rw [gapFold_set h]
  unfold gapFold
  congr 1
  funext o x
  exact gapStep_turn l d a b o x
theorem upV_ge (a b c : Nat) : a * b / c ≤ upV a b c := by unfold upV; omega
theorem down_up {n d x y : Int} (hx : x ≤ y) : downV n d x ≤ upP n d y := by
  unfold downV upP
  have h1 : x.toNat ≤ y.toNat := by omega
  have h2 : x.toNat * d.toNat / n.toNat ≤ y.toNat * d.toNat / n.toNat := Nat.div_le_div_right (Nat.mul_le_mul_right _ h1)
  have h3 := upV_ge y.toNat d.toNat n.toNat
  omega
theorem gapFold_same {l : Nat} {d : Int} {a : List Nd} (ha : Roll a) (ra : rightOf l a = true) (e : List Int) : (gapFold l d a a e).1 = 0 := by
  have h := ((gapFold_le l d a a e 0 0).1).2 ⟨Int.le_refl _, fun x hx => by
    have := down_up (n := sumR a) (d := d) (low_high (l := l) ha ra x)
    simp only [gapStep]; omega⟩
  have h2 : 0 ≤ (gapFold l d a a e).1 := by
    suffices k : ∀ (e : List Int) (o : Int × Int), 0 ≤ o.1 → 0 ≤ (e.foldl (gapStep l d a a) o).1 from k e (0, 0) (Int.le_refl _)
    intro e
    induction e with
    | nil => intro o ho; exact ho
    | cons x e ih => intro o ho; exact ih _ (by simp only [gapStep]; omega)
  omega
theorem gapE_turn (l : Int) (a b : List Nd) (x : Int) : x ∈ gapE l b a ↔ x ∈ gapE l a b := by
  simp only [gapE, edgeL_append, List.mem_cons, List.mem_append]
  constructor <;> (rintro (h | h | h) <;> simp [h])
theorem gapErr_turn (l m : Int) (a b : List Nd) : gapErr m l b a = gapErr l m a b := by
  unfold gapErr
  by_cases h : l = m
  · subst h
    rw [if_neg (not_not_intro rfl), if_neg (not_not_intro rfl)]
    by_cases h1 : sumR a = 0 ∨ sumR b = 0
    · rw [if_pos h1, if_pos h1.symm]
    · rw [if_neg h1, if_neg (fun k => h1 k.symm)]
  · rw [if_pos h, if_pos (fun k => h k.symm)]
end Go.Proofs.YtpngailmhdiiiaaGreat
/- Package gap: Apart. -/
namespace Go.Proofs.YtpngailmhdiiiaaGreat
open Go.ChangeShapes Go.WideShapes Go.ChangeAt Go.RowKit
set_option linter.unusedVariables false
set_option linter.unusedSimpArgs false
set_option maxRecDepth 100000
attribute [local go_sem] Oper.semAt_some

/-- What Apart tells. -/
def apT (l m : Int) (a b : List Nd) : Int × Int := if gapErr l m a b = 0 then apFold (sideOf l a b) (gapE l a b) else (0, 0)
theorem gap_side_of {w : World} {L1 B1 g1 L2 B2 g2 l : Nat} {lt1 ft1 lt2 ft2 r1 r2 : List Nd} (x : Int) (h1 : TabAt w L1 B1 g1 (sumR r1) lt1 ft1) (h2 : TabAt w L2 B2 g2 (sumR r2) lt2 ft2) (b1 : B1 ≤ w.heap.size) (b2 : B2 ≤ w.heap.size)
    (t1 : Tab (lastL l r1) lt1) (f1 : Tab (firstL l r1) ft1) (t2 : Tab (lastL l r2) lt2) (f2 : Tab (firstL l r2) ft2) (m1 : lt1.length ≤ 67108864) (m1' : ft1.length ≤ 67108864) (m2 : lt2.length ≤ 67108864) (m2' : ft2.length ≤ 67108864) (fit1 : Fits l r1) (fit2 : Fits l r2) :
    Calls Tryz.prog 87 #[.pointer (some ⟨g1, 0, none⟩), .pointer (some ⟨g2, 0, none⟩), .int .i64 x] w fun e w' => e = .returned (.int .i64 (sideOf l r1 r2 x)) ∧ Below w.heap.size w w' := by
  have z1 := sumR_nonneg fit1.roll
  have z2 := sumR_nonneg fit2.roll
  have y1 := fit1.sum
  have y2 := fit2.sum
  have a1 := low_range (l := l) fit1.roll x
  have a2 := high_range' (l := l) fit1.roll x
  have a3 := low_range (l := l) fit2.roll x
  have a4 := high_range' (l := l) fit2.roll x
  obtain ⟨n, e1⟩ := Int.eq_ofNat_of_zero_le z1
  obtain ⟨m, e2⟩ := Int.eq_ofNat_of_zero_le z2
  obtain ⟨pl, e3⟩ := Int.eq_ofNat_of_zero_le a1.1
  obtain ⟨ph, e4⟩ := Int.eq_ofNat_of_zero_le a2.1
  obtain ⟨ql, e5⟩ := Int.eq_ofNat_of_zero_le a3.1
  obtain ⟨qh, e6⟩ := Int.eq_ofNat_of_zero_le a4.1
  unfold sideOf
  rw [e1] at h1
  rw [e2] at h2
  rw [e1, e2, e3, e4, e5, e6, sideV_nat]
  exact gap_side w x n m pl ph ql qh h1 h2 b1 b2 m1 t1.rise m1' f1.rise m2 t2.rise m2' f2.rise
    (by rw [t1.upT, low_up]; exact e3) (by rw [f1.upT, high_up]; exact e4) (by rw [t2.upT, low_up]; exact e5) (by rw [f2.upT, high_up]; exact e6) (by omega) (by omega) (by omega) (by omega) (by omega) (by omega)
/-- The boxes of Apart, between two rounds. -/
structure ApI (b4 bt bu t1 t2 L1 B1 L2 B2 : Nat) (n m : Int) (lt1 ft1 lt2 ft2 : List Nd) (W : World) : Prop where
  x4 : W.heap[b4]? = some (.cells #[.int .i64 0] 3 (0, 0))
  x5 : W.heap[b4 + 1]? = some (.cells #[.int .i64 0] 3 (0, 0))
  x6 : W.heap[b4 + 1 + 1]? = some (.cells #[.int .i64 0] 30 (0, 0))
  t : W.heap[bt]? = some (.cells #[.pointer (some ⟨t1, 0, none⟩)] 130 (0, 0))
  u : W.heap[bu]? = some (.cells #[.pointer (some ⟨t2, 0, none⟩)] 130 (0, 0))
  tab1 : TabAt W L1 B1 t1 n lt1 ft1
  tab2 : TabAt W L2 B2 t2 m lt2 ft2
theorem ApI.below {b4 bt bu t1 t2 L1 B1 L2 B2 : Nat} {n m : Int} {lt1 ft1 lt2 ft2 : List Nd} {W W' : World} (h : ApI b4 bt bu t1 t2 L1 B1 L2 B2 n m lt1 ft1 lt2 ft2 W) (hb : Below W.heap.size W W') (h1 : B1 ≤ W.heap.size) (h2 : B2 ≤ W.heap.size) : ApI b4 bt bu t1 t2 L1 B1 L2 B2 n m lt1 ft1 lt2 ft2 W' :=
  ⟨blk_below h.x4 hb, blk_below h.x5 hb, blk_below h.x6 hb, blk_below h.t hb, blk_below h.u hb, h.tab1.below (hb.mono h1), h.tab2.below (hb.mono h2)⟩
theorem ApI.grown {b4 bt bu t1 t2 L1 B1 L2 B2 : Nat} {n m : Int} {lt1 ft1 lt2 ft2 : List Nd} {A B : World} {row : Option Nat} (h : ApI b4 bt bu t1 t2 L1 B1 L2 B2 n m lt1 ft1 lt2 ft2 A) (hg : A.grownBy B row) (hr : ∀ r, row = some r → ∃ o : Obj, A.heap[r]? = some o ∧ o.isCells = false) : ApI b4 bt bu t1 t2 L1 B1 L2 B2 n m lt1 ft1 lt2 ft2 B :=
  ⟨row_grown h.x4 hg hr, row_grown h.x5 hg hr, row_grown h.x6 hg hr, row_grown h.t hg hr, row_grown h.u hg hr, tab_grown h.tab1 hg hr, tab_grown h.tab2 hg hr⟩
/-- Three results' boxes, written. -/
structure Res3 (b : Nat) (x y z : Value) (W : World) : Prop where
  r4 : W.heap[b]? = some (.cells #[x] 3 (0, 0))
  r5 : W.heap[b + 1]? = some (.cells #[y] 3 (0, 0))
  r6 : W.heap[b + 1 + 1]? = some (.cells #[z] 30 (0, 0))
theorem Res3.put {b : Nat} {x y z : Value} {W : World} (h : Res3 b x y z W) (x' y' z' : Value) : Res3 b x' y' z' (((W.setCell ⟨b, 0, none⟩ x').setCell ⟨b + 1, 0, none⟩ y').setCell ⟨b + 1 + 1, 0, none⟩ z') :=
  ⟨(Below.heap_setCell _ _ _ _ (show b ≠ b + 1 + 1 by omega)).trans ((Below.heap_setCell _ _ _ _ (show b ≠ b + 1 by omega)).trans (heap_set_at (i := 0) h.r4 _)),
   (Below.heap_setCell _ _ _ _ (show b + 1 ≠ b + 1 + 1 by omega)).trans (heap_set_at (i := 0) ((Below.heap_setCell _ _ _ _ (show b + 1 ≠ b by omega)).trans h.r5) _),
   heap_set_at (i := 0) ((Below.heap_setCell _ _ _ _ (show b + 1 + 1 ≠ b + 1 by omega)).trans ((Below.heap_setCell _ _ _ _ (show b + 1 + 1 ≠ b by omega)).trans h.r6)) _⟩
theorem Res3.below {b : Nat} {x y z : Value} {W W' : World} (h : Res3 b x y z W) (hb : Below W.heap.size W W') : Res3 b x y z W' := ⟨blk_below h.r4 hb, blk_below h.r5 hb, blk_below h.r6 hb⟩
theorem Res3.grown {b : Nat} {x y z : Value} {A B : World} {row : Option Nat} (h : Res3 b x y z A) (hg : A.grownBy B row) (hr : ∀ r, row = some r → ∃ o : Obj, A.heap[r]? = some o ∧ o.isCells = false) : Res3 b x y z B := ⟨row_grown h.r4 hg hr, row_grown h.r5 hg hr, row_grown h.r6 hg hr⟩
theorem Res3.new (w : World) : Res3 w.heap.size (.int .i64 0) (.int .i64 0) (.int .i64 0) (((w.alloc (.cells #[.int .i64 0] 3)).alloc (.cells #[.int .i64 0] 3)).alloc (.cells #[.int .i64 0] 30)) :=
  ⟨(heap_new_lt _ _ _ (by simp; omega)).trans ((heap_new_lt _ _ _ (by simp)).trans (heap_alloc_new w _)), (heap_new_lt _ _ _ (by simp)).trans (heap_new_at (w.alloc _) _ _ (by simp)), heap_new_at ((w.alloc _).alloc _) _ _ (by simp)⟩
theorem Res3.put_below {w W : World} {b : Nat} (hB : Below w.heap.size w W) (hb : w.heap.size ≤ b) (x' y' z' : Value) : Below w.heap.size w (((W.setCell ⟨b, 0, none⟩ x').setCell ⟨b + 1, 0, none⟩ y').setCell ⟨b + 1 + 1, 0, none⟩ z') :=
  ((hB.setCell (p := ⟨b, 0, none⟩) hb _).setCell (p := ⟨b + 1, 0, none⟩) (by simp only; omega) _).setCell (p := ⟨b + 1 + 1, 0, none⟩) (by simp only; omega) _
theorem gap_Apart_no (w : World) (g1 K1 l1 g2 K2 l2 : Nat) (k1 k2 : Int) (r1 r2 : List Nd) (F1 F2 : Nat → Prop) (h1 : DigAt w g1 K1 l1 k1 r1 F1) (h2 : DigAt w g2 K2 l2 k2 r2 F2) (he : gapErr l1 l2 r1 r2 ≠ 0) :
    Calls Tryz.prog 38 #[.pointer (some ⟨g1, 0, none⟩), .pointer (some ⟨g2, 0, none⟩)] w fun e w' => e = .returned (.tuple #[.int .i64 (apT l1 l2 r1 r2).1, .int .i64 (apT l1 l2 r1 r2).2, .int .i64 (gapErr l1 l2 r1 r2)]) ∧ Below w.heap.size w w' := by
  have hs : apT l1 l2 r1 r2 = (0, 0) := by unfold apT; rw [if_neg he]
  rw [hs]
  have HW := Lib.hid (gap_wrong _ g1 K1 l1 g2 K2 l2 k1 k2 r1 r2 F1 F2 (((h1.alloc (.cells #[.int .i64 0] 3)).alloc (.cells #[.int .i64 0] 3)).alloc (.cells #[.int .i64 0] 30)) (((h2.alloc (.cells #[.int .i64 0] 3)).alloc (.cells #[.int .i64 0] 3)).alloc (.cells #[.int .i64 0] 30)))
  have hne : (gapErr l1 l2 r1 r2 == 0) = false := by simpa using he
  clear hs he h1 h2
  generalize gapErr l1 l2 r1 r2 = er at HW hne ⊢
  refine (callsIn_wide (n := 3)).1 ?_
  refine callsIn_of_wp_marks Tryz.func38 rfl trivial ?_ rfl
  simp only [Tryz.ntmps38, List.size_toArray, List.length_cons, List.length_nil, Nat.reduceAdd, Nat.reduceSub, Array.replicate_succ, Array.replicate_zero, List.push_toArray, List.append_toArray, List.nil_append, List.cons_append]
  gi_wp2_with fail
  refine ⟨trivial, ?_⟩
  refine (callsIn_wide.2 HW.out).mono ?_
  rintro e w1 ⟨rfl, hb1⟩
  have B1 : Below w.heap.size w w1 := Below.then_ (by repeat (first | with_reducible exact Below.refl _ _ | with_reducible assumption | ((with_reducible refine Below.setCell ?_ ?_ _); rotate_left; · (first | omega | exact Nat.le_refl _ | (simp <;> omega))) | (with_reducible refine Below.allocW ?_ _) | (with_reducible refine Below.drew ?_) | (with_reducible refine Below.extW ?_ _))) hb1
  have R1 := (Res3.new w).below hb1
  have c4 := blk_cell R1.r4
  have c5 := blk_cell R1.r5
  have c6 := blk_cell R1.r6
  have f4 := blk_frozen R1.r4
  have f5 := blk_frozen R1.r5
  have f6 := blk_frozen R1.r6
  have z4 := lt_of_block R1.r4
  have z5 := lt_of_block R1.r5
  have z6 := lt_of_block R1.r6
  have R2 := Lib.hid (R1.put (.int .i64 0) (.int .i64 0) (.int .i64 er))
  have B2 := Lib.hid (Res3.put_below B1 (Nat.le_refl _) (.int .i64 0) (.int .i64 0) (.int .i64 er))
  clear R1 hb1
  gi_wp2_with fail
  generalize ((w1.setCell ⟨w.heap.size, 0, none⟩ (.int .i64 0)).setCell ⟨w.heap.size + 1, 0, none⟩ (.int .i64 0)).setCell ⟨w.heap.size + 1 + 1, 0, none⟩ (.int .i64 er) = W2 at R2 B2 ⊢
  have d4 := blk_cell R2.out.r4 0
  have d5 := blk_cell R2.out.r5 0
  have d6 := blk_cell R2.out.r6 0
  exact ⟨.tuple #[.int .i64 0, .int .i64 0, .int .i64 er], by simp [results, Tryz.f38, go_sem, d4, d5, d6], rfl, B2.out⟩
set_option maxHeartbeats 2000000 in
theorem gap_Apart_yes (w : World) (g1 K1 l g2 K2 : Nat) (k1 k2 : Int) (r1 r2 : List Nd) (F1 F2 : Nat → Prop) (h1 : DigAt w g1 K1 l k1 r1 F1) (h2 : DigAt w g2 K2 l k2 r2 F2) (m1 : r1.length ≤ 67108864) (m2 : r2.length ≤ 67108864) (he : gapErr l l r1 r2 = 0) :
    Calls Tryz.prog 38 #[.pointer (some ⟨g1, 0, none⟩), .pointer (some ⟨g2, 0, none⟩)] w fun e w' => e = .returned (.tuple #[.int .i64 (apT l l r1 r2).1, .int .i64 (apT l l r1 r2).2, .int .i64 0]) ∧ Below w.heap.size w w' := by
  have hs : apT l l r1 r2 = apFold (sideOf l r1 r2) (gapE l r1 r2) := by unfold apT; rw [if_pos he]
  rw [hs]
  have D1 := Lib.hid (((h1.alloc (.cells #[.int .i64 0] 3)).alloc (.cells #[.int .i64 0] 3)).alloc (.cells #[.int .i64 0] 30))
  have D2 := Lib.hid (((h2.alloc (.cells #[.int .i64 0] 3)).alloc (.cells #[.int .i64 0] 3)).alloc (.cells #[.int .i64 0] 30))
  have HW := Lib.hid (gap_wrong _ g1 K1 l g2 K2 l k1 k2 r1 r2 F1 F2 D1.out D2.out)
  rw [he] at HW
  have fit1 := h1.fits
  have fit2 := h2.fits
  have FIT := Lib.hid (And.intro fit1 fit2)
  have HGE := Lib.hid (gapE_len l r1 r2)
  clear hs he h1 h2 fit1 fit2
  refine (callsIn_wide (n := 3)).1 ?_
  refine callsIn_of_wp_marks Tryz.func38 rfl trivial ?_ rfl
  simp only [Tryz.ntmps38, List.size_toArray, List.length_cons, List.length_nil, Nat.reduceAdd, Nat.reduceSub, Array.replicate_succ, Array.replicate_zero, List.push_toArray, List.append_toArray, List.nil_append, List.cons_append]
  gi_wp2_with fail
  refine ⟨trivial, ?_⟩
  refine (callsIn_wide.2 HW.out).mono ?_
  rintro e w1 ⟨rfl, hb1⟩
  have B1 : Below w.heap.size w w1 := Below.then_ (by repeat (first | with_reducible exact Below.refl _ _ | with_reducible assumption | ((with_reducible refine Below.setCell ?_ ?_ _); rotate_left; · (first | omega | exact Nat.le_refl _ | (simp <;> omega))) | (with_reducible refine Below.allocW ?_ _) | (with_reducible refine Below.drew ?_) | (with_reducible refine Below.extW ?_ _))) hb1
  have R1 := Lib.hid ((Res3.new w).below hb1)
  have E1 := Lib.hid (D1.out.below hb1)
  have E2 := Lib.hid (D2.out.below hb1)
  have s1 := B1.size
  have s1' : w.heap.size + 3 ≤ w1.heap.size := by have := hb1.size; simp at this; omega
  clear hb1 HW D1 D2
  gi_wp2_with fail
  refine ⟨trivial, ?_⟩
  refine (callsIn_wide.2 (rank_Of _ g1 K1 l k1 r1 F1 E1.out m1)).mono ?_
  rintro e w2 ⟨t1, lt1, ft1, rfl, htab1, htl1, htf1, hl1, hl1', hb2⟩
  have B2 : Below w.heap.size w w2 := B1.trans (hb2.mono s1)
  have R2 := Lib.hid (R1.out.below hb2)
  have G1 := Lib.hid (E1.out.below hb2)
  have G2 := Lib.hid (E2.out.below hb2)
  have T1 := Lib.hid htab1
  have HT1 := Lib.hid (And.intro htl1 (And.intro htf1 (And.intro hl1 hl1')))
  have s2 := hb2.size
  clear hb2 htab1 htl1 htf1 hl1 hl1' E1 E2 R1
  gi_wp2_with fail
  refine ⟨trivial, ?_⟩
  refine (callsIn_wide.2 (rank_Of _ g2 K2 l k2 r2 F2 G2.out m2)).mono ?_
  rintro e w3 ⟨t2, lt2, ft2, rfl, htab2, htl2, htf2, hl2, hl2', hb3⟩
  have B3 : Below w.heap.size w w3 := B2.trans (hb3.mono B2.size)
  have R3 := Lib.hid (R2.out.below hb3)
  have J1 := Lib.hid (G1.out.below hb3)
  have J2 := Lib.hid (G2.out.below hb3)
  have U1 := Lib.hid (T1.out.below hb3)
  have U2 := Lib.hid htab2
  have HT2 := Lib.hid (And.intro htl2 (And.intro htf2 (And.intro hl2 hl2')))
  have s3 := hb3.size
  clear hb3 htab2 htl2 htf2 hl2 hl2' G1 G2 R2 T1
  gi_wp2_with fail
  have BA : Below w3.heap.size w3 (((w3.alloc (.cells #[.pointer (some ⟨t1, 0, none⟩)] 130)).alloc (.cells #[.pointer (some ⟨t2, 0, none⟩)] 130)).alloc (.cells #[.pointer (some ⟨g1, 0, none⟩), .pointer (some ⟨g2, 0, none⟩)] 33)) := ((((Below.refl w3.heap.size w3).alloc (Nat.le_refl _) _).alloc (by simp) _).alloc (by simp; omega) _)
  have kt := (heap_new_lt ((w3.alloc (.cells #[.pointer (some ⟨t1, 0, none⟩)] 130)).alloc (.cells #[.pointer (some ⟨t2, 0, none⟩)] 130)) (.cells #[.pointer (some ⟨g1, 0, none⟩), .pointer (some ⟨g2, 0, none⟩)] 33) w3.heap.size (by simp; omega)).trans ((heap_new_lt (w3.alloc (.cells #[.pointer (some ⟨t1, 0, none⟩)] 130)) (.cells #[.pointer (some ⟨t2, 0, none⟩)] 130) w3.heap.size (by simp)).trans (heap_alloc_new w3 (.cells #[.pointer (some ⟨t1, 0, none⟩)] 130)))
  have ku := (heap_new_lt ((w3.alloc (.cells #[.pointer (some ⟨t1, 0, none⟩)] 130)).alloc (.cells #[.pointer (some ⟨t2, 0, none⟩)] 130)) (.cells #[.pointer (some ⟨g1, 0, none⟩), .pointer (some ⟨g2, 0, none⟩)] 33) (w3.heap.size + 1) (by simp)).trans (heap_new_at (w3.alloc (.cells #[.pointer (some ⟨t1, 0, none⟩)] 130)) (.cells #[.pointer (some ⟨t2, 0, none⟩)] 130) (w3.heap.size + 1) (by simp))
  have ks := heap_new_at ((w3.alloc (.cells #[.pointer (some ⟨t1, 0, none⟩)] 130)).alloc (.cells #[.pointer (some ⟨t2, 0, none⟩)] 130)) (.cells #[.pointer (some ⟨g1, 0, none⟩), .pointer (some ⟨g2, 0, none⟩)] 33) (w3.heap.size + 1 + 1) (by simp)
  have I4 : ApI w.heap.size w3.heap.size (w3.heap.size + 1) t1 t2 w1.heap.size w2.heap.size w2.heap.size w3.heap.size (sumR r1) (sumR r2) lt1 ft1 lt2 ft2 (((w3.alloc (.cells #[.pointer (some ⟨t1, 0, none⟩)] 130)).alloc (.cells #[.pointer (some ⟨t2, 0, none⟩)] 130)).alloc (.cells #[.pointer (some ⟨g1, 0, none⟩), .pointer (some ⟨g2, 0, none⟩)] 33)) :=
    ⟨(R3.out.below BA).r4, (R3.out.below BA).r5, (R3.out.below BA).r6, kt, ku, U1.out.below (BA.mono s3), U2.out.below BA⟩
  have II := Lib.hid I4
  have KS := Lib.hid ks
  have M1 := Lib.hid (J1.out.below BA)
  have M2 := Lib.hid (J2.out.below BA)
  have BB := Lib.hid (B3.trans (BA.mono B3.size))
  have sA := BA.size
  have sA3 : w3.heap.size + 3 ≤ (((w3.alloc (.cells #[.pointer (some ⟨t1, 0, none⟩)] 130)).alloc (.cells #[.pointer (some ⟨t2, 0, none⟩)] 130)).alloc (.cells #[.pointer (some ⟨g1, 0, none⟩), .pointer (some ⟨g2, 0, none⟩)] 33)).heap.size := by simp
  clear BA kt ku ks I4 J1 J2 U1 U2 R3
  generalize ((w3.alloc (.cells #[.pointer (some ⟨t1, 0, none⟩)] 130)).alloc (.cells #[.pointer (some ⟨t2, 0, none⟩)] 130)).alloc (.cells #[.pointer (some ⟨g1, 0, none⟩), .pointer (some ⟨g2, 0, none⟩)] 33) = W4 at II KS M1 M2 BB sA sA3 ⊢
  refine ⟨trivial, ?_⟩
  refine (callsIn_wide.2 (gap_ends _ (w3.heap.size + 1 + 1) g1 g2 K1 K2 l k1 k2 r1 r2 F1 F2 KS.out M1.out M2.out m1 m2)).mono ?_
  rintro e w5 ⟨b, A, cap, L, rfl, hb0, kb, ho, hrise, hle, hb5⟩
  have I5 := Lib.hid (II.out.below hb5 (by omega) (by omega))
  have BB5 := Lib.hid (BB.out.trans (hb5.mono BB.out.size))
  have KB := Lib.hid kb
  have zb := lt_of_block kb
  have SX := Lib.hid (SlX.of (z := w5.heap.size) (X := fun _ => False) ho.sl (Nat.le_refl _) (fun _ _ h => h))
  have HR := Lib.hid hrise
  have hL : L.length ≤ 1000000000000 := by rw [HGE.out] at hle; omega
  have s5 := hb5.size
  clear kb ho hrise hle hb5 II KS M1 M2 BB
  gi_wp2_with fail
  have hKB := Lib.hid (fun (W : World) (q : Nat) (o o' : Obj) (h : W.heap[q]? = some o) (hc : o.isCells = false) => keepX_b (z := w5.heap.size) (X := fun _ => False) W q o o' h hc)
  obtain ⟨f, hf⟩ : ∃ f, f = sideOf l r1 r2 := ⟨_, rfl⟩
  have HS : Hid (∀ (x : Int) (W : World), ApI w.heap.size w3.heap.size (w3.heap.size + 1) t1 t2 w1.heap.size w2.heap.size w2.heap.size w3.heap.size (sumR r1) (sumR r2) lt1 ft1 lt2 ft2 W → Calls Tryz.prog 87 #[.pointer (some ⟨t1, 0, none⟩), .pointer (some ⟨t2, 0, none⟩), .int .i64 x] W fun e w' => e = .returned (.int .i64 (f x)) ∧ Below W.heap.size W w') := Lib.hid fun x W h => by
    have hz := lt_of_block h.t
    obtain ⟨q1, q2, q3, q4⟩ := HT1.out
    obtain ⟨p1, p2, p3, p4⟩ := HT2.out
    rw [hf]
    exact gap_side_of x h.tab1 h.tab2 (by omega) (by omega) q1 q2 p1 p2 (by omega) (by omega) (by omega) (by omega) FIT.out.1 FIT.out.2
  have HF := Lib.hid hf
  clear hf HT1 HT2 FIT HGE
  refine wpIn_rangeFunc_ownG rfl (by decide) (gf := 157) (lb := #[.pointer (some ⟨b, 0, none⟩)]) rfl trivial (enters_of Tryz.func157 (by kernel_rfl) rfl)
    (ends_stops (3 - 1) b w5.heap.size (fun _ => False) A cap L w5 (by decide) (Nat.le_refl _) KB.out SX.out zb (fun h => h) hL)
    keepX_t (fun W q o o' _ h hc _ => hKB.out W q o o' h hc) (Below.refl _ _) (fun _ => rfl)
    (fun pre W => ((∀ y ∈ pre, f y = 0) ∧ ApI w.heap.size w3.heap.size (w3.heap.size + 1) t1 t2 w1.heap.size w2.heap.size w2.heap.size w3.heap.size (sumR r1) (sumR r2) lt1 ft1 lt2 ft2 W) ∧ Below w.heap.size w W)
    (fun c pre W => (c = .ret ∧ ∃ pre' x, pre = pre' ++ [x] ∧ (∀ y ∈ pre', f y = 0) ∧ f x ≠ 0 ∧ Res3 w.heap.size (.int .i64 x) (.int .i64 (f x)) (.int .i64 0) W) ∧ Below w.heap.size w W)
    (OwnFrom.and (Go.Own.from (fun s A B row hs hg hr => ⟨hs.1, hs.2.grown hg hr⟩) _) (ownFrom_below (Nat.le_refl _) (by have := BB5.out.size; omega)))
    (fun c => OwnFrom.and (Go.Own.from (fun s A B row hs hg hr => by obtain ⟨h1, p, x, h2, h3, h4, h5⟩ := hs; exact ⟨h1, p, x, h2, h3, h4, h5.grown hg hr⟩) _) (ownFrom_below (Nat.le_refl _) (by have := BB5.out.size; omega)))
    ⟨⟨by simp, I5.out⟩, BB5.out⟩
    (fun x => { tmps := #[.pointer (some ⟨g1, 0, none⟩), .pointer (some ⟨g2, 0, none⟩), undef, undef, .pointer (some ⟨w.heap.size, 0, none⟩), .pointer (some ⟨w.heap.size + 1, 0, none⟩), .pointer (some ⟨w.heap.size + 1 + 1, 0, none⟩), .int .i64 0, .pointer (some ⟨w3.heap.size, 0, none⟩), .pointer (some ⟨w3.heap.size + 1, 0, none⟩), .int .i64 x, undef,
      .pointer (some ⟨g1, 0, none⟩), .pointer (some ⟨g2, 0, none⟩), .int .i64 0, .int .i64 0, .bool false, undef, .pointer (some ⟨g1, 0, none⟩), .pointer (some ⟨t1, 0, none⟩), .pointer (some ⟨g2, 0, none⟩), .pointer (some ⟨t2, 0, none⟩), .pointer (some ⟨g1, 0, none⟩), .pointer (some ⟨g2, 0, none⟩), .slice (some ⟨w3.heap.size + 1 + 1, 0, none⟩) 2 2,
      .func (.func 157) #[] #[.pointer (some ⟨b, 0, none⟩)], .int .i64 x, undef, undef, undef, undef, undef, undef, undef, undef], defers := [] }) ?assign ?body ?done ?stop
  case assign =>
    intro q x W Kc hK
    gi_wp2
    exact hK
  case body =>
    rintro q pre x W ⟨⟨hall, hI⟩, hB⟩ _
    have HALL := Lib.hid hall
    have HI := Lib.hid hI
    have HB := Lib.hid hB
    have ct := blk_cell hI.t
    have cu := blk_cell hI.u
    have zt := lt_of_block hI.t
    have zu := lt_of_block hI.u
    have HSx := Lib.hid (HS.out x)
    obtain ⟨n, hn⟩ : ∃ n, n = f x := ⟨_, rfl⟩
    rw [← hn] at HSx
    have HN := Lib.hid hn
    have zt0 := hI.t
    clear hall hI hB hn HS
    by_cases hz : n = 0
    · subst hz
      gi_wp2_with fail
      refine ⟨trivial, ?_⟩
      refine (CallsIn.inRound q (callsIn_wide.2 (HSx.out _ HI.out))).mono ?_
      rintro e w6 ⟨rfl, hb6⟩
      have KF := Lib.hid ((KeepsOthers.of_grownBy (grownBy_of_below hb6 none) (fun _ _ h => by cases h)).from w5.heap.size)
      have KK := Lib.hid (KeepX.of_below (z := w5.heap.size) (X := fun _ => False) hb6)
      have I6 := Lib.hid (HI.out.below hb6 (by omega) (by omega))
      have B6 := Lib.hid (HB.out.trans (hb6.mono HB.out.size))
      clear hb6
      gi_wp2_with fail
      refine ⟨KF.out, KK.out, ⟨fun y hy => ?_, I6.out⟩, B6.out⟩
      rcases List.mem_append.1 hy with hy | hy
      · exact HALL.out y hy
      · rw [List.mem_singleton.1 hy]; exact HN.out.symm
    · have h1 : (n == 0) = false := by simpa using hz
      have h2 : (n != 0) = true := by simpa using hz
      gi_wp2_with fail
      refine ⟨trivial, ?_⟩
      refine (CallsIn.inRound q (callsIn_wide.2 (HSx.out _ HI.out))).mono ?_
      rintro e w6 ⟨rfl, hb6⟩
      have KF := Lib.hid ((KeepsOthers.of_grownBy (grownBy_of_below hb6 none) (fun _ _ h => by cases h)).from w5.heap.size)
      have R6 : Res3 w.heap.size (.int .i64 0) (.int .i64 0) (.int .i64 0) w6 := ⟨blk_below HI.out.x4 hb6, blk_below HI.out.x5 hb6, blk_below HI.out.x6 hb6⟩
      have B6 := HB.out.trans (hb6.mono HB.out.size)
      have c4 := blk_cell R6.r4
      have c5 := blk_cell R6.r5
      have c6 := blk_cell R6.r6
      have f4 := blk_frozen R6.r4
      have f5 := blk_frozen R6.r5
      have f6 := blk_frozen R6.r6
      have z4 := lt_of_block R6.r4
      have z5 := lt_of_block R6.r5
      have z6 := lt_of_block R6.r6
      have R7 := Lib.hid (R6.put (.int .i64 x) (.int .i64 n) (.int .i64 0))
      have B7 := Lib.hid (Res3.put_below B6 (Nat.le_refl _) (.int .i64 x) (.int .i64 n) (.int .i64 0))
      clear hb6 R6 B6
      gi_wp2_with fail
      exact ⟨((KF.out.trans ((KeepsOthers.setCell _ _ _).from _)).trans ((KeepsOthers.setCell _ _ _).from _)).trans ((KeepsOthers.setCell _ _ _).from _), ⟨rfl, pre, x, rfl, HALL.out, by rw [← HN.out]; exact hz, by rw [← HN.out]; exact R7.out⟩, B7.out⟩
  case done =>
    rintro D ys W hD hys ⟨⟨hall, hI⟩, hB⟩ hK
    obtain rfl : ys = L := hys
    have hres : apFold (sideOf l r1 r2) (gapE l r1 r2) = (0, 0) := by
      rw [← HF.out]
      exact (apFold_rising HR.out (apIs_none hall)).symm
    have HRes := Lib.hid hres
    have R6 : Res3 w.heap.size (.int .i64 0) (.int .i64 0) (.int .i64 0) W := ⟨hI.x4, hI.x5, hI.x6⟩
    have c4 := blk_cell R6.r4
    have c5 := blk_cell R6.r5
    have c6 := blk_cell R6.r6
    have f4 := blk_frozen R6.r4
    have f5 := blk_frozen R6.r5
    have f6 := blk_frozen R6.r6
    have z4 := lt_of_block R6.r4
    have z5 := lt_of_block R6.r5
    have z6 := lt_of_block R6.r6
    have R7 := Lib.hid (R6.put (.int .i64 0) (.int .i64 0) (.int .i64 0))
    have B7 := Lib.hid (Res3.put_below hB (Nat.le_refl _) (.int .i64 0) (.int .i64 0) (.int .i64 0))
    have KO : KeepsOthers W (((W.setCell ⟨w.heap.size, 0, none⟩ (.int .i64 0)).setCell ⟨w.heap.size + 1, 0, none⟩ (.int .i64 0)).setCell ⟨w.heap.size + 1 + 1, 0, none⟩ (.int .i64 0)) := ((KeepsOthers.setCell _ _ _).trans (KeepsOthers.setCell _ _ _)).trans (KeepsOthers.setCell _ _ _)
    have hK' := Lib.hid (KO.same D _ hK rfl)
    have hDw : w.heap.size ≤ D := by have := BB5.out.size; omega
    clear hall hI hB hK R6 hres KO
    gi_wp2_with fail
    generalize ((W.setCell ⟨w.heap.size, 0, none⟩ (.int .i64 0)).setCell ⟨w.heap.size + 1, 0, none⟩ (.int .i64 0)).setCell ⟨w.heap.size + 1 + 1, 0, none⟩ (.int .i64 0) = W7 at R7 B7 hK' ⊢
    refine ⟨by simp, .inl ⟨_, _, rfl, run_takeDeferred hK'.out, ?_⟩⟩
    have R8 := R7.out.grown (grownBy_putObj' _ D (.deferred none)) (fun r e => by cases e; exact ⟨_, hK'.out, rfl⟩)
    have d4 := blk_cell R8.r4 0
    have d5 := blk_cell R8.r5 0
    have d6 := blk_cell R8.r6 0
    exact ⟨.tuple #[.int .i64 0, .int .i64 0, .int .i64 0], by simp [results, Tryz.f38, go_sem, d4, d5, d6], by rw [HRes.out], B7.out.trans (belowK_b (w := w) (Nat.le_refl _) W7 D _ _ hDw hK'.out rfl rfl)⟩
  case stop =>
    rintro D c pre W hD hpre ⟨⟨rfl, p', x, rfl, hall, hx, hR⟩, hB⟩ hK
    have hres : apFold (sideOf l r1 r2) (gapE l r1 r2) = (x, f x) := by
      rw [← HF.out]
      obtain ⟨suf, hsuf⟩ := hpre
      refine (apFold_rising HR.out ?_).symm
      rw [← hsuf, List.append_assoc]
      refine apIs_first ?_ hall hx
      have := HR.out.1
      rw [← hsuf, List.append_assoc] at this
      exact this
    have hDw : w.heap.size ≤ D := by have := BB5.out.size; omega
    gi_wp2_with fail
    refine ⟨by simp, .inl ⟨_, _, rfl, run_takeDeferred hK, ?_⟩⟩
    have R8 := hR.grown (grownBy_putObj' _ D (.deferred none)) (fun r e => by cases e; exact ⟨_, hK, rfl⟩)
    have d4 := blk_cell R8.r4 0
    have d5 := blk_cell R8.r5 0
    have d6 := blk_cell R8.r6 0
    exact ⟨.tuple #[.int .i64 x, .int .i64 (f x), .int .i64 0], by simp [results, Tryz.f38, go_sem, d4, d5, d6], by rw [hres], hB.trans (belowK_b (w := w) (Nat.le_refl _) W D _ _ hDw hK rfl rfl)⟩
theorem gap_Apart (w : World) (g1 K1 l1 g2 K2 l2 : Nat) (k1 k2 : Int) (r1 r2 : List Nd) (F1 F2 : Nat → Prop) (h1 : DigAt w g1 K1 l1 k1 r1 F1) (h2 : DigAt w g2 K2 l2 k2 r2 F2) (m1 : r1.length ≤ 67108864) (m2 : r2.length ≤ 67108864) :
    Calls Tryz.prog 38 #[.pointer (some ⟨g1, 0, none⟩), .pointer (some ⟨g2, 0, none⟩)] w fun e w' => e = .returned (.tuple #[.int .i64 (apT l1 l2 r1 r2).1, .int .i64 (apT l1 l2 r1 r2).2, .int .i64 (gapErr l1 l2 r1 r2)]) ∧ Below w.heap.size w w' := by
  by_cases he : gapErr l1 l2 r1 r2 = 0
  · have hll := gapErr_ok he
    obtain rfl : l1 = l2 := by omega
    rw [he]
    exact gap_Apart_yes w g1 K1 l1 g2 K2 k1 k2 r1 r2 F1 F2 h1 h2 m1 m2 he
  · exact gap_Apart_no w g1 K1 l1 g2 K2 l2 k1 k2 r1 r2 F1 F2 h1 h2 he
end Go.Proofs.YtpngailmhdiiiaaGreat
/- Package gap: Most. -/
namespace Go.Proofs.YtpngailmhdiiiaaGreat
open Go.ChangeShapes Go.WideShapes Go.ChangeAt Go.RowKit
set_option linter.unusedVariables false
set_option linter.unusedSimpArgs false
set_option maxRecDepth 100000
attribute [local go_sem] Oper.semAt_some

/-- What Most tells. -/
def gapMostErr (l m : Int) (a b : List Nd) (d : Int) : Int := if gapErr l m a b = 0 then (if d < 1 then 2 else 0) else gapErr l m a b
def gapMostT (l m : Int) (a b : List Nd) (d : Int) : Int × Int := if gapMostErr l m a b d = 0 then gapFold l d a b (gapE l a b) else (0, 0)
theorem SlX.own {w : World} {base n cap z : Nat} {X : Nat → Prop} {A : Option Addr} {es : List Int} (h : Own w base 3 encZ (.slice A n cap) es) (hz : w.heap.size ≤ z) (hX : ∀ b, base ≤ b → ¬ X b) : SlX w z X A es := by
  rcases h with ⟨_, h⟩ | ⟨g, off, cap', cur, hv, hb, hh, h1, h2, h3, hc⟩
  · exact .inl h
  · cases hv
    refine .inr ⟨g, off, rfl, by have := lt_of_block hh; omega, hX g hb, fun i x hi => ?_⟩
    rw [blk_cell hh]
    refine hc i _ ?_
    rw [flatZ, List.getElem?_map, hi]; rfl
theorem gap_more (w : World) (b : Nat) (lo hi a c : Int) (h : bothAt w b lo hi) :
    Calls Tryz.prog 92 #[.int .i64 a, .int .i64 c, .pointer (some ⟨b, 0, none⟩)] w fun e w' => e = .returned (.tuple #[]) ∧ (w.setCell ⟨b, 0, none⟩ (.int .i64 (max lo a))).setCell ⟨b, 1, none⟩ (.int .i64 (max hi c)) = w' := by
  have cb := blk_cell h
  have fb := blk_frozen h
  have zb := lt_of_block h
  clear h
  go_enter Tryz.func92, Tryz.ntmps92
  go_wp2_with fail
  go_end0
  exact ⟨rfl, rfl⟩
theorem gap_parts_of {w : World} {L1 B1 g1 l : Nat} {lt1 ft1 r1 : List Nd} (x : Int) (d : Nat) (h1 : TabAt w L1 B1 g1 (sumR r1) lt1 ft1) (b1 : B1 ≤ w.heap.size)
    (t1 : Tab (lastL l r1) lt1) (f1 : Tab (firstL l r1) ft1) (m1 : lt1.length ≤ 67108864) (m1' : ft1.length ≤ 67108864) (fit1 : Fits l r1) (hn : 1 ≤ sumR r1) (hd : d ≤ 9223372036854775807) :
    Calls Tryz.prog 93 #[.pointer (some ⟨g1, 0, none⟩), .int .i64 x, .int .i64 d] w fun e w' => e = .returned (.tuple #[.int .i64 (downV (sumR r1) d (lowOf l r1 x)), .int .i64 (upP (sumR r1) d (highOf l r1 x))]) ∧ Below w.heap.size w w' := by
  have y1 := fit1.sum
  have a1 := low_range (l := l) fit1.roll x
  have a2 := high_range' (l := l) fit1.roll x
  obtain ⟨n, e1⟩ := Int.eq_ofNat_of_zero_le (show 0 ≤ sumR r1 by omega)
  obtain ⟨pl, e3⟩ := Int.eq_ofNat_of_zero_le a1.1
  obtain ⟨ph, e4⟩ := Int.eq_ofNat_of_zero_le a2.1
  unfold downV upP
  rw [e1] at h1
  rw [e1, e3, e4]
  simp only [Int.toNat_natCast]
  exact gap_parts w x n d pl ph h1 b1 m1 t1.rise m1' f1.rise (by rw [t1.upT, low_up]; exact e3) (by rw [f1.upT, high_up]; exact e4) (by omega) (by omega) hd (by omega) (by omega)
theorem parts_range {n : Int} {d : Nat} {pl ph : Int} (hn : 1 ≤ n) (h1 : 0 ≤ pl ∧ pl ≤ n) (h2 : 0 ≤ ph ∧ ph ≤ n) : (0 ≤ downV n d pl ∧ downV n d pl ≤ d) ∧ (0 ≤ upP n d ph ∧ upP n d ph ≤ d) := by
  unfold downV upP
  have u1 := part_le (a := pl.toNat) (b := (d : Int).toNat) (c := n.toNat) (by omega) (by omega)
  have u2 := up_le (a := ph.toNat) (b := (d : Int).toNat) (c := n.toNat) (by omega) (by omega)
  simp only [Int.toNat_natCast] at u1 u2 ⊢
  generalize pl.toNat * d / n.toNat = u at u1 ⊢
  generalize upV ph.toNat d n.toNat = v at u2 ⊢
  omega
/-- The results' box of Most, and its number. -/
theorem gap_Most_no (w : World) (g1 K1 l1 g2 K2 l2 : Nat) (k1 k2 : Int) (r1 r2 : List Nd) (F1 F2 : Nat → Prop) (d : Int) (h1 : DigAt w g1 K1 l1 k1 r1 F1) (h2 : DigAt w g2 K2 l2 k2 r2 F2) (he : gapMostErr l1 l2 r1 r2 d ≠ 0) :
    Calls Tryz.prog 40 #[.pointer (some ⟨g1, 0, none⟩), .pointer (some ⟨g2, 0, none⟩), .int .i64 d] w fun e w' => e = .returned (.tuple #[.agg #[.int .i64 (gapMostT l1 l2 r1 r2 d).1, .int .i64 (gapMostT l1 l2 r1 r2 d).2], .int .i64 (gapMostErr l1 l2 r1 r2 d)]) ∧ Below w.heap.size w w' := by
  have hs : gapMostT l1 l2 r1 r2 d = (0, 0) := by unfold gapMostT; rw [if_neg he]
  rw [hs]
  have HW := Lib.hid (gap_wrong _ g1 K1 l1 g2 K2 l2 k1 k2 r1 r2 F1 F2 ((h1.alloc (.cells #[.int .i64 d] 3)).alloc (.cells #[.int .i64 0, .int .i64 0] 29)) ((h2.alloc (.cells #[.int .i64 d] 3)).alloc (.cells #[.int .i64 0, .int .i64 0] 29)))
  have kd := (heap_new_lt (w.alloc (.cells #[.int .i64 d] 3)) (.cells #[.int .i64 0, .int .i64 0] 29) w.heap.size (by simp)).trans (heap_alloc_new w (.cells #[.int .i64 d] 3))
  have kr : bothAt ((w.alloc (.cells #[.int .i64 d] 3)).alloc (.cells #[.int .i64 0, .int .i64 0] 29)) (w.heap.size + 1) 0 0 := heap_new_at (w.alloc (.cells #[.int .i64 d] 3)) (.cells #[.int .i64 0, .int .i64 0] 29) (w.heap.size + 1) (by simp)
  have KD := Lib.hid kd
  have KR := Lib.hid kr
  have hcase : (∃ er : Int, gapErr l1 l2 r1 r2 = er ∧ ¬ er = 0 ∧ gapMostErr l1 l2 r1 r2 d = er) ∨ (gapErr l1 l2 r1 r2 = 0 ∧ d < 1 ∧ gapMostErr l1 l2 r1 r2 d = 2) := by
    unfold gapMostErr at he ⊢
    by_cases c1 : gapErr l1 l2 r1 r2 = 0
    · rw [if_pos c1] at he ⊢
      by_cases c2 : d < 1
      · exact .inr ⟨c1, c2, by rw [if_pos c2]⟩
      · rw [if_neg c2] at he; exact absurd rfl he
    · rw [if_neg c1]
      exact .inl ⟨_, rfl, c1, rfl⟩
  clear hs he h1 h2 kd kr
  rcases hcase with ⟨er, f1, f2, f3⟩ | ⟨f1, f2, f3⟩
  · rw [f1] at HW
    rw [f3]
    have hne : (er == 0) = false := by simpa using f2
    have hne2 : (er != 0) = true := by simpa using f2
    clear f1 f3
    refine (callsIn_wide (n := 3)).1 ?_
    refine callsIn_of_wp_marks Tryz.func40 rfl trivial ?_ rfl
    simp only [Tryz.ntmps40, List.size_toArray, List.length_cons, List.length_nil, Nat.reduceAdd, Nat.reduceSub, Array.replicate_succ, Array.replicate_zero, List.push_toArray, List.append_toArray, List.nil_append, List.cons_append]
    gi_wp2_with fail
    refine ⟨trivial, ?_⟩
    refine (callsIn_wide.2 HW.out).mono ?_
    rintro e w1 ⟨rfl, hb1⟩
    have B1 : Below w.heap.size w w1 := Below.then_ (by repeat (first | with_reducible exact Below.refl _ _ | with_reducible assumption | ((with_reducible refine Below.setCell ?_ ?_ _); rotate_left; · (first | omega | exact Nat.le_refl _ | (simp <;> omega))) | (with_reducible refine Below.allocW ?_ _) | (with_reducible refine Below.drew ?_) | (with_reducible refine Below.extW ?_ _))) hb1
    have kd1 := blk_below KD.out hb1
    have kr1 := KR.out.below hb1
    have c0 := blk_cell kd1
    have z0 := lt_of_block kd1
    have c1 := blk_cell kr1
    have z1 := lt_of_block kr1
    have e1 := blk_frozen kr1
    have R2 := Lib.hid ((kr1.set0 0).set1 0)
    have B2 := Lib.hid ((B1.setCell (p := ⟨w.heap.size + 1, 0, none⟩) (by simp) (.int .i64 0)).setCell (p := ⟨w.heap.size + 1, 1, none⟩) (by simp) (.int .i64 0))
    clear hb1 kd1 kr1
    gi_wp2_with fail
    generalize (w1.setCell ⟨w.heap.size + 1, 0, none⟩ (.int .i64 0)).setCell ⟨w.heap.size + 1, 1, none⟩ (.int .i64 0) = W2 at R2 B2 ⊢
    have d0 := blk_cell R2.out 0
    have d1 := blk_cell R2.out 1
    exact ⟨.tuple #[.agg #[.int .i64 0, .int .i64 0], .int .i64 er], by (simp only [results, Tryz.f40]; go_simp), rfl, B2.out⟩
  · rw [f1] at HW
    rw [f3]
    clear f1 f3
    refine (callsIn_wide (n := 3)).1 ?_
    refine callsIn_of_wp_marks Tryz.func40 rfl trivial ?_ rfl
    simp only [Tryz.ntmps40, List.size_toArray, List.length_cons, List.length_nil, Nat.reduceAdd, Nat.reduceSub, Array.replicate_succ, Array.replicate_zero, List.push_toArray, List.append_toArray, List.nil_append, List.cons_append]
    gi_wp2_with fail
    refine ⟨trivial, ?_⟩
    refine (callsIn_wide.2 HW.out).mono ?_
    rintro e w1 ⟨rfl, hb1⟩
    have B1 : Below w.heap.size w w1 := Below.then_ (by repeat (first | with_reducible exact Below.refl _ _ | with_reducible assumption | ((with_reducible refine Below.setCell ?_ ?_ _); rotate_left; · (first | omega | exact Nat.le_refl _ | (simp <;> omega))) | (with_reducible refine Below.allocW ?_ _) | (with_reducible refine Below.drew ?_) | (with_reducible refine Below.extW ?_ _))) hb1
    have kd1 := blk_below KD.out hb1
    have kr1 := KR.out.below hb1
    have c0 := blk_cell kd1
    have z0 := lt_of_block kd1
    have c1 := blk_cell kr1
    have z1 := lt_of_block kr1
    have e1 := blk_frozen kr1
    have R2 := Lib.hid ((kr1.set0 0).set1 0)
    have B2 := Lib.hid ((B1.setCell (p := ⟨w.heap.size + 1, 0, none⟩) (by simp) (.int .i64 0)).setCell (p := ⟨w.heap.size + 1, 1, none⟩) (by simp) (.int .i64 0))
    clear hb1 kd1 kr1
    gi_wp2_with fail
    generalize (w1.setCell ⟨w.heap.size + 1, 0, none⟩ (.int .i64 0)).setCell ⟨w.heap.size + 1, 1, none⟩ (.int .i64 0) = W2 at R2 B2 ⊢
    have d0 := blk_cell R2.out 0
    have d1 := blk_cell R2.out 1
    exact ⟨.tuple #[.agg #[.int .i64 0, .int .i64 0], .int .i64 2], by (simp only [results, Tryz.f40]; go_simp), rfl, B2.out⟩
end Go.Proofs.YtpngailmhdiiiaaGreat
/- Package gap: Most, where it tells. -/
namespace Go.Proofs.YtpngailmhdiiiaaGreat
open Go.ChangeShapes Go.WideShapes Go.ChangeAt Go.RowKit
set_option linter.unusedVariables false
set_option linter.unusedSimpArgs false
set_option maxRecDepth 100000
attribute [local go_sem] Oper.semAt_some

/-- The boxes of Most, between two rounds; but for the box of what is told. -/
structure MoI (bw bo bt t1 t2 L1 B1 L2 B2 : Nat) (d n m : Int) (lt1 ft1 lt2 ft2 : List Nd) (W : World) : Prop where
  d : W.heap[bw]? = some (.cells #[.int .i64 d] 3 (0, 0))
  r : bothAt W (bw + 1) 0 0
  f : W.heap[bo + 1]? = some (.cells #[.func (.func 92) #[] #[.pointer (some ⟨bo, 0, none⟩)]] 142 (0, 0))
  t : W.heap[bt]? = some (.cells #[.pointer (some ⟨t1, 0, none⟩)] 130 (0, 0))
  u : W.heap[bt + 1]? = some (.cells #[.pointer (some ⟨t2, 0, none⟩)] 130 (0, 0))
  tab1 : TabAt W L1 B1 t1 n lt1 ft1
  tab2 : TabAt W L2 B2 t2 m lt2 ft2
section
variable {bw bo bt t1 t2 L1 B1 L2 B2 : Nat} {d n m : Int} {lt1 ft1 lt2 ft2 : List Nd} {W W' : World}
theorem MoI.below (h : MoI bw bo bt t1 t2 L1 B1 L2 B2 d n m lt1 ft1 lt2 ft2 W) (hb : Below W.heap.size W W') (h1 : B1 ≤ W.heap.size) (h2 : B2 ≤ W.heap.size) : MoI bw bo bt t1 t2 L1 B1 L2 B2 d n m lt1 ft1 lt2 ft2 W' :=
  ⟨blk_below h.d hb, h.r.below hb, blk_below h.f hb, blk_below h.t hb, blk_below h.u hb, h.tab1.below (hb.mono h1), h.tab2.below (hb.mono h2)⟩
theorem MoI.grown {row : Option Nat} (h : MoI bw bo bt t1 t2 L1 B1 L2 B2 d n m lt1 ft1 lt2 ft2 W) (hg : W.grownBy W' row) (hr : ∀ r, row = some r → ∃ o : Obj, W.heap[r]? = some o ∧ o.isCells = false) : MoI bw bo bt t1 t2 L1 B1 L2 B2 d n m lt1 ft1 lt2 ft2 W' :=
  ⟨row_grown h.d hg hr, row_grown h.r hg hr, row_grown h.f hg hr, row_grown h.t hg hr, row_grown h.u hg hr, tab_grown h.tab1 hg hr, tab_grown h.tab2 hg hr⟩
/-- A store to the box of what is told. -/
theorem MoI.set (h : MoI bw bo bt t1 t2 L1 B1 L2 B2 d n m lt1 ft1 lt2 ft2 W) {o : Nat} {v : Value} (h0 : bw + 1 < bo) (h1 : bo + 1 < bt) (h2 : bo < L1) (h3 : bo < L2) : MoI bw bo bt t1 t2 L1 B1 L2 B2 d n m lt1 ft1 lt2 ft2 (W.setCell ⟨bo, o, none⟩ v) :=
  ⟨(Below.heap_setCell _ _ _ _ (show bw ≠ bo by omega)).trans h.d, (Below.heap_setCell _ _ _ _ (show bw + 1 ≠ bo by omega)).trans h.r, (Below.heap_setCell _ _ _ _ (show bo + 1 ≠ bo by omega)).trans h.f, (Below.heap_setCell _ _ _ _ (show bt ≠ bo by omega)).trans h.t, (Below.heap_setCell _ _ _ _ (show bt + 1 ≠ bo by omega)).trans h.u, h.tab1.set h2 v, h.tab2.set h3 v⟩
end
set_option maxHeartbeats 4000000 in
theorem gap_Most_yes (w : World) (g1 K1 l g2 K2 d : Nat) (k1 k2 : Int) (r1 r2 : List Nd) (F1 F2 : Nat → Prop) (h1 : DigAt w g1 K1 l k1 r1 F1) (h2 : DigAt w g2 K2 l k2 r2 F2) (m1 : r1.length ≤ 67108864) (m2 : r2.length ≤ 67108864) (he : gapErr l l r1 r2 = 0) (hd : 1 ≤ d) (hd2 : d ≤ 9223372036854775807) :
    Calls Tryz.prog 40 #[.pointer (some ⟨g1, 0, none⟩), .pointer (some ⟨g2, 0, none⟩), .int .i64 d] w fun e w' => e = .returned (.tuple #[.agg #[.int .i64 (gapFold l d r1 r2 (gapE l r1 r2)).1, .int .i64 (gapFold l d r1 r2 (gapE l r1 r2)).2], .int .i64 0]) ∧ Below w.heap.size w w' := by
  have hsum : sumR r1 ≠ 0 ∧ sumR r2 ≠ 0 := by
    unfold gapErr at he
    rw [if_neg (not_not_intro rfl)] at he
    by_cases c : sumR r1 = 0 ∨ sumR r2 = 0
    · rw [if_pos c] at he; cases he
    · exact ⟨fun h => c (.inl h), fun h => c (.inr h)⟩
  have D1 := Lib.hid ((h1.alloc (.cells #[.int .i64 d] 3)).alloc (.cells #[.int .i64 0, .int .i64 0] 29))
  have D2 := Lib.hid ((h2.alloc (.cells #[.int .i64 d] 3)).alloc (.cells #[.int .i64 0, .int .i64 0] 29))
  have HW := Lib.hid (gap_wrong _ g1 K1 l g2 K2 l k1 k2 r1 r2 F1 F2 D1.out D2.out)
  rw [he] at HW
  have kd := (heap_new_lt (w.alloc (.cells #[.int .i64 d] 3)) (.cells #[.int .i64 0, .int .i64 0] 29) w.heap.size (by simp)).trans (heap_alloc_new w (.cells #[.int .i64 d] 3))
  have kr : bothAt ((w.alloc (.cells #[.int .i64 d] 3)).alloc (.cells #[.int .i64 0, .int .i64 0] 29)) (w.heap.size + 1) 0 0 := heap_new_at (w.alloc (.cells #[.int .i64 d] 3)) (.cells #[.int .i64 0, .int .i64 0] 29) (w.heap.size + 1) (by simp)
  have KD := Lib.hid kd
  have KR := Lib.hid kr
  have fit1 := h1.fits
  have fit2 := h2.fits
  have n1 := sumR_nonneg fit1.roll
  have n2 := sumR_nonneg fit2.roll
  have SUM : Hid (1 ≤ sumR r1 ∧ 1 ≤ sumR r2) := Lib.hid ⟨by omega, by omega⟩
  have FIT := Lib.hid (And.intro fit1 fit2)
  have HGE := Lib.hid (gapE_len l r1 r2)
  have hd1 : decide ((d : Int) < 1) = false := by simp; omega
  clear he h1 h2 fit1 fit2 kd kr hsum n1 n2
  refine (callsIn_wide (n := 3)).1 ?_
  refine callsIn_of_wp_marks Tryz.func40 rfl trivial ?_ rfl
  simp only [Tryz.ntmps40, List.size_toArray, List.length_cons, List.length_nil, Nat.reduceAdd, Nat.reduceSub, Array.replicate_succ, Array.replicate_zero, List.push_toArray, List.append_toArray, List.nil_append, List.cons_append]
  gi_wp2_with fail
  refine ⟨trivial, ?_⟩
  refine (callsIn_wide.2 HW.out).mono ?_
  rintro e w1 ⟨rfl, hb1⟩
  have B1 : Below w.heap.size w w1 := Below.then_ (by repeat (first | with_reducible exact Below.refl _ _ | with_reducible assumption | ((with_reducible refine Below.setCell ?_ ?_ _); rotate_left; · (first | omega | exact Nat.le_refl _ | (simp <;> omega))) | (with_reducible refine Below.allocW ?_ _) | (with_reducible refine Below.drew ?_) | (with_reducible refine Below.extW ?_ _))) hb1
  have kd1 := blk_below KD.out hb1
  have c0 := blk_cell kd1
  have z0 := lt_of_block kd1
  have KD1 := Lib.hid kd1
  have KR1 := Lib.hid (KR.out.below hb1)
  have E1 := Lib.hid (D1.out.below hb1)
  have E2 := Lib.hid (D2.out.below hb1)
  have s1 : w.heap.size + 2 ≤ w1.heap.size := by have := hb1.size; simp at this; omega
  clear hb1 HW D1 D2 KD KR kd1
  gi_wp2_with fail
  have BA : Below w1.heap.size w1 ((w1.alloc (.cells #[.int .i64 0, .int .i64 0] 29)).alloc (.cells #[.func (.func 92) #[] #[.pointer (some ⟨w1.heap.size, 0, none⟩)]] 142)) := ((Below.refl w1.heap.size w1).alloc (Nat.le_refl _) _).alloc (by simp) _
  have ko : bothAt ((w1.alloc (.cells #[.int .i64 0, .int .i64 0] 29)).alloc (.cells #[.func (.func 92) #[] #[.pointer (some ⟨w1.heap.size, 0, none⟩)]] 142)) w1.heap.size 0 0 := (heap_new_lt (w1.alloc (.cells #[.int .i64 0, .int .i64 0] 29)) (.cells #[.func (.func 92) #[] #[.pointer (some ⟨w1.heap.size, 0, none⟩)]] 142) w1.heap.size (by simp)).trans (heap_alloc_new w1 (.cells #[.int .i64 0, .int .i64 0] 29))
  have kf := heap_new_at (w1.alloc (.cells #[.int .i64 0, .int .i64 0] 29)) (.cells #[.func (.func 92) #[] #[.pointer (some ⟨w1.heap.size, 0, none⟩)]] 142) (w1.heap.size + 1) (by simp)
  have KO := Lib.hid ko
  have KF := Lib.hid kf
  have KD2 := Lib.hid (blk_below KD1.out BA)
  have KR2 := Lib.hid (KR1.out.below BA)
  have G1 := Lib.hid (E1.out.below BA)
  have G2 := Lib.hid (E2.out.below BA)
  have BV := Lib.hid (B1.trans (BA.mono B1.size))
  have sV : w1.heap.size + 2 ≤ ((w1.alloc (.cells #[.int .i64 0, .int .i64 0] 29)).alloc (.cells #[.func (.func 92) #[] #[.pointer (some ⟨w1.heap.size, 0, none⟩)]] 142)).heap.size := by simp
  clear BA ko kf KD1 KR1 E1 E2 c0 z0
  generalize (w1.alloc (.cells #[.int .i64 0, .int .i64 0] 29)).alloc (.cells #[.func (.func 92) #[] #[.pointer (some ⟨w1.heap.size, 0, none⟩)]] 142) = V1 at KO KF KD2 KR2 G1 G2 BV sV ⊢
  refine ⟨trivial, ?_⟩
  refine (callsIn_wide.2 (rank_Of _ g1 K1 l k1 r1 F1 G1.out m1)).mono ?_
  rintro e w2 ⟨t1, lt1, ft1, rfl, htab1, htl1, htf1, hl1, hl1', hb2⟩
  have B2 := Lib.hid (BV.out.trans (hb2.mono BV.out.size))
  have T1 := Lib.hid htab1
  have HT1 := Lib.hid (And.intro htl1 (And.intro htf1 (And.intro hl1 hl1')))
  have s2 := hb2.size
  have HB2 := Lib.hid hb2
  clear hb2 htab1 htl1 htf1 hl1 hl1'
  gi_wp2_with fail
  refine ⟨trivial, ?_⟩
  refine (callsIn_wide.2 (rank_Of _ g2 K2 l k2 r2 F2 (G2.out.below HB2.out) m2)).mono ?_
  rintro e w3 ⟨t2, lt2, ft2, rfl, htab2, htl2, htf2, hl2, hl2', hb3⟩
  have B3 := B2.out.trans (hb3.mono B2.out.size)
  have s3 := hb3.size
  have BB3 := HB2.out.trans (hb3.mono s2)
  have KO3 := Lib.hid (KO.out.below BB3)
  have KF3 := Lib.hid (blk_below KF.out BB3)
  have KD3 := Lib.hid (blk_below KD2.out BB3)
  have KR3 := Lib.hid (KR2.out.below BB3)
  have J1 := Lib.hid (G1.out.below BB3)
  have J2 := Lib.hid (G2.out.below BB3)
  have U1 := Lib.hid (T1.out.below hb3)
  have U2 := Lib.hid htab2
  have HT2 := Lib.hid (And.intro htl2 (And.intro htf2 (And.intro hl2 hl2')))
  clear hb3 htab2 htl2 htf2 hl2 hl2' G1 G2 T1 KO KF KD2 KR2 BB3 HB2 B2 BV B1
  gi_wp2_with fail
  have BA : Below w3.heap.size w3 (((w3.alloc (.cells #[.pointer (some ⟨t1, 0, none⟩)] 130)).alloc (.cells #[.pointer (some ⟨t2, 0, none⟩)] 130)).alloc (.cells #[.pointer (some ⟨g1, 0, none⟩), .pointer (some ⟨g2, 0, none⟩)] 33)) := ((((Below.refl w3.heap.size w3).alloc (Nat.le_refl _) _).alloc (by simp) _).alloc (by simp; omega) _)
  have kt := (heap_new_lt ((w3.alloc (.cells #[.pointer (some ⟨t1, 0, none⟩)] 130)).alloc (.cells #[.pointer (some ⟨t2, 0, none⟩)] 130)) (.cells #[.pointer (some ⟨g1, 0, none⟩), .pointer (some ⟨g2, 0, none⟩)] 33) w3.heap.size (by simp; omega)).trans ((heap_new_lt (w3.alloc (.cells #[.pointer (some ⟨t1, 0, none⟩)] 130)) (.cells #[.pointer (some ⟨t2, 0, none⟩)] 130) w3.heap.size (by simp)).trans (heap_alloc_new w3 (.cells #[.pointer (some ⟨t1, 0, none⟩)] 130)))
  have ku := (heap_new_lt ((w3.alloc (.cells #[.pointer (some ⟨t1, 0, none⟩)] 130)).alloc (.cells #[.pointer (some ⟨t2, 0, none⟩)] 130)) (.cells #[.pointer (some ⟨g1, 0, none⟩), .pointer (some ⟨g2, 0, none⟩)] 33) (w3.heap.size + 1) (by simp)).trans (heap_new_at (w3.alloc (.cells #[.pointer (some ⟨t1, 0, none⟩)] 130)) (.cells #[.pointer (some ⟨t2, 0, none⟩)] 130) (w3.heap.size + 1) (by simp))
  have ks := heap_new_at ((w3.alloc (.cells #[.pointer (some ⟨t1, 0, none⟩)] 130)).alloc (.cells #[.pointer (some ⟨t2, 0, none⟩)] 130)) (.cells #[.pointer (some ⟨g1, 0, none⟩), .pointer (some ⟨g2, 0, none⟩)] 33) (w3.heap.size + 1 + 1) (by simp)
  have I4 : MoI w.heap.size w1.heap.size w3.heap.size t1 t2 V1.heap.size w2.heap.size w2.heap.size w3.heap.size d (sumR r1) (sumR r2) lt1 ft1 lt2 ft2 (((w3.alloc (.cells #[.pointer (some ⟨t1, 0, none⟩)] 130)).alloc (.cells #[.pointer (some ⟨t2, 0, none⟩)] 130)).alloc (.cells #[.pointer (some ⟨g1, 0, none⟩), .pointer (some ⟨g2, 0, none⟩)] 33)) :=
    ⟨blk_below KD3.out BA, KR3.out.below BA, blk_below KF3.out BA, kt, ku, U1.out.below (BA.mono s3), U2.out.below BA⟩
  have II := Lib.hid I4
  have OO := Lib.hid (KO3.out.below BA)
  have KS := Lib.hid ks
  have M1 := Lib.hid (J1.out.below BA)
  have M2 := Lib.hid (J2.out.below BA)
  have BB := Lib.hid (B3.trans (BA.mono B3.size))
  have sA := BA.size
  have sA3 : w3.heap.size + 3 ≤ (((w3.alloc (.cells #[.pointer (some ⟨t1, 0, none⟩)] 130)).alloc (.cells #[.pointer (some ⟨t2, 0, none⟩)] 130)).alloc (.cells #[.pointer (some ⟨g1, 0, none⟩), .pointer (some ⟨g2, 0, none⟩)] 33)).heap.size := by simp
  clear BA kt ku ks I4 J1 J2 U1 U2 KO3 KF3 KD3 KR3 B3
  generalize ((w3.alloc (.cells #[.pointer (some ⟨t1, 0, none⟩)] 130)).alloc (.cells #[.pointer (some ⟨t2, 0, none⟩)] 130)).alloc (.cells #[.pointer (some ⟨g1, 0, none⟩), .pointer (some ⟨g2, 0, none⟩)] 33) = W4 at II OO KS M1 M2 BB sA sA3 ⊢
  refine ⟨trivial, ?_⟩
  refine (callsIn_wide.2 (gap_ends _ (w3.heap.size + 1 + 1) g1 g2 K1 K2 l k1 k2 r1 r2 F1 F2 KS.out M1.out M2.out m1 m2)).mono ?_
  rintro e w5 ⟨b, A, cap, L, rfl, hb0, kb, ho, hrise, hle, hb5⟩
  have I5 := Lib.hid (II.out.below hb5 (by omega) (by omega))
  have O5 := Lib.hid (OO.out.below hb5)
  have BB5 := Lib.hid (BB.out.trans (hb5.mono BB.out.size))
  have KB := Lib.hid kb
  have zb := lt_of_block kb
  have SX := Lib.hid (SlX.own (z := w5.heap.size) (X := fun b => b = w1.heap.size) ho (Nat.le_refl _) (fun c hc => by omega))
  have HR := Lib.hid hrise
  have hL : L.length ≤ 1000000000000 := by rw [HGE.out] at hle; omega
  have s5 := hb5.size
  clear kb ho hrise hle hb5 II OO KS M1 M2 BB
  gi_wp2_with fail
  have hKB := Lib.hid (fun (W : World) (q : Nat) (o o' : Obj) (h : W.heap[q]? = some o) (hc : o.isCells = false) => keepX_b (z := w5.heap.size) (X := fun b => b = w1.heap.size) W q o o' h hc)
  have HP1 : Hid (∀ (x : Int) (W : World), MoI w.heap.size w1.heap.size w3.heap.size t1 t2 V1.heap.size w2.heap.size w2.heap.size w3.heap.size d (sumR r1) (sumR r2) lt1 ft1 lt2 ft2 W → Calls Tryz.prog 93 #[.pointer (some ⟨t1, 0, none⟩), .int .i64 x, .int .i64 d] W fun e w' => e = .returned (.tuple #[.int .i64 (downV (sumR r1) d (lowOf l r1 x)), .int .i64 (upP (sumR r1) d (highOf l r1 x))]) ∧ Below W.heap.size W w') := Lib.hid fun x W h => by
    have hz := lt_of_block h.t
    obtain ⟨q1, q2, q3, q4⟩ := HT1.out
    exact gap_parts_of x d h.tab1 (by omega) q1 q2 (by omega) (by omega) FIT.out.1 SUM.out.1 hd2
  have HP2 : Hid (∀ (x : Int) (W : World), MoI w.heap.size w1.heap.size w3.heap.size t1 t2 V1.heap.size w2.heap.size w2.heap.size w3.heap.size d (sumR r1) (sumR r2) lt1 ft1 lt2 ft2 W → Calls Tryz.prog 93 #[.pointer (some ⟨t2, 0, none⟩), .int .i64 x, .int .i64 d] W fun e w' => e = .returned (.tuple #[.int .i64 (downV (sumR r2) d (lowOf l r2 x)), .int .i64 (upP (sumR r2) d (highOf l r2 x))]) ∧ Below W.heap.size W w') := Lib.hid fun x W h => by
    have hz := lt_of_block h.t
    obtain ⟨q1, q2, q3, q4⟩ := HT2.out
    exact gap_parts_of x d h.tab2 (by omega) q1 q2 (by omega) (by omega) FIT.out.2 SUM.out.2 hd2
  have HPR := Lib.hid (fun x => And.intro (parts_range (d := d) SUM.out.1 (low_range (l := l) FIT.out.1.roll x) (high_range' (l := l) FIT.out.1.roll x)) (parts_range (d := d) SUM.out.2 (low_range (l := l) FIT.out.2.roll x) (high_range' (l := l) FIT.out.2.roll x)))
  clear HT1 HT2 FIT HGE SUM
  refine wpIn_rangeFunc_ownG rfl (by decide) (gf := 157) (lb := #[.pointer (some ⟨b, 0, none⟩)]) rfl trivial (enters_of Tryz.func157 (by kernel_rfl) rfl)
    (ends_stops (3 - 1) b w5.heap.size (fun b => b = w1.heap.size) A cap L w5 (by decide) (Nat.le_refl _) KB.out SX.out zb (fun h => by omega) hL)
    keepX_t (fun W q o o' _ h hc _ => hKB.out W q o o' h hc) (Below.refl _ _) (fun _ => rfl)
    (fun pre W => (MoI w.heap.size w1.heap.size w3.heap.size t1 t2 V1.heap.size w2.heap.size w2.heap.size w3.heap.size d (sumR r1) (sumR r2) lt1 ft1 lt2 ft2 W ∧ bothAt W w1.heap.size (gapFold l d r1 r2 pre).1 (gapFold l d r1 r2 pre).2) ∧ Below w.heap.size w W)
    (fun _ _ _ => False)
    (OwnFrom.and (Go.Own.from (fun s A B row hs hg hr => ⟨hs.1.grown hg hr, row_grown hs.2 hg hr⟩) _) (ownFrom_below (Nat.le_refl _) (by have := BB5.out.size; omega)))
    (fun c => fun _ _ _ _ hs _ _ => hs)
    ⟨⟨I5.out, O5.out⟩, BB5.out⟩
    (fun x => { tmps := #[.pointer (some ⟨g1, 0, none⟩), .pointer (some ⟨g2, 0, none⟩), .int .i64 d, undef, undef, .pointer (some ⟨w.heap.size, 0, none⟩), .pointer (some ⟨w.heap.size + 1, 0, none⟩), .int .i64 0, .int .i64 0, .pointer (some ⟨w1.heap.size, 0, none⟩), .pointer (some ⟨w1.heap.size + 1, 0, none⟩), .pointer (some ⟨w3.heap.size, 0, none⟩), .pointer (some ⟨w3.heap.size + 1, 0, none⟩), .int .i64 x, undef, undef, undef, undef, .pointer (some ⟨g1, 0, none⟩), .pointer (some ⟨g2, 0, none⟩), .int .i64 0, .int .i64 0, .bool true, .bool true, .int .i64 d, .bool false, .bool false, .int .i64 0, .bool false, undef, undef, .func (.func 92) #[] #[.pointer (some ⟨w1.heap.size, 0, none⟩)], .pointer (some ⟨g1, 0, none⟩), .pointer (some ⟨t1, 0, none⟩), .pointer (some ⟨g2, 0, none⟩), .pointer (some ⟨t2, 0, none⟩), .pointer (some ⟨g1, 0, none⟩), .pointer (some ⟨g2, 0, none⟩), .slice (some ⟨w3.heap.size + 1 + 1, 0, none⟩) 2 2, .func (.func 157) #[] #[.pointer (some ⟨b, 0, none⟩)], .int .i64 x, undef, undef, undef, undef, undef, undef, undef, undef, undef, undef, undef, undef, undef, undef, undef, undef, undef, undef, undef, undef, undef, undef, undef, undef, undef, undef, undef, undef, undef, undef, undef], defers := [] }) ?assign ?body ?done ?stop
  case assign =>
    intro q x W Kc hK
    gi_wp2
    exact hK
  case body =>
    rintro q pre x W ⟨⟨hI, hO⟩, hB⟩ _
    have HI := Lib.hid hI
    have HO := Lib.hid hO
    have HB := Lib.hid hB
    have ct := blk_cell hI.t
    have cd := blk_cell hI.d
    have zt := lt_of_block hI.t
    have zd := lt_of_block hI.d
    have h1 := Lib.hid (HP1.out x)
    have h2 := Lib.hid (HP2.out x)
    have hsn := gapFold_snoc l d r1 r2 pre x
    have hst : ∀ o : Int × Int, gapStep l d r1 r2 o x = (max (max o.1 (downV (sumR r1) d (lowOf l r1 x) - upP (sumR r2) d (highOf l r2 x))) (downV (sumR r2) d (lowOf l r2 x) - upP (sumR r1) d (highOf l r1 x)), max (max o.2 (upP (sumR r1) d (highOf l r1 x) - downV (sumR r2) d (lowOf l r2 x))) (upP (sumR r2) d (highOf l r2 x) - downV (sumR r1) d (lowOf l r1 x))) := fun o => rfl
    rw [hst] at hsn
    have hpr := HPR.out x
    generalize downV (sumR r1) d (lowOf l r1 x) = p at h1 hsn hpr
    generalize upP (sumR r1) d (highOf l r1 x) = u at h1 hsn hpr
    generalize downV (sumR r2) d (lowOf l r2 x) = r at h2 hsn hpr
    generalize upP (sumR r2) d (highOf l r2 x) = s at h2 hsn hpr
    have HSN := Lib.hid hsn
    generalize gapFold l d r1 r2 pre = o at HSN HO
    obtain ⟨lo, hi⟩ := o
    simp only at HSN HO
    clear hI hO hB hsn hst HP1 HP2 HPR
    gi_wp2_with fail
    refine ⟨trivial, ?_⟩
    refine (CallsIn.inRound q (callsIn_wide.2 (h1.out _ HI.out))).mono ?_
    rintro e w6 ⟨rfl, hb6⟩
    have KF6 := Lib.hid ((KeepsOthers.of_grownBy (grownBy_of_below hb6 none) (fun _ _ h => by cases h)).from w5.heap.size)
    have KK6 := Lib.hid (KeepX.of_below (z := w5.heap.size) (X := fun b => b = w1.heap.size) hb6)
    have I6 := Lib.hid (HI.out.below hb6 (by omega) (by omega))
    have O6 := Lib.hid (HO.out.below hb6)
    have B6 := Lib.hid (HB.out.trans (hb6.mono HB.out.size))
    have s6 := hb6.size
    have cu6 := blk_cell I6.out.u
    have cd6 := blk_cell I6.out.d
    have zu6 := lt_of_block I6.out.u
    have zd6 := lt_of_block I6.out.d
    clear hb6 HI HO HB ct cd
    gi_wp2_with fail
    refine ⟨trivial, ?_⟩
    refine (CallsIn.inRound q (callsIn_wide.2 (h2.out _ I6.out))).mono ?_
    rintro e w7 ⟨rfl, hb7⟩
    have KF7 := Lib.hid (KF6.out.trans ((KeepsOthers.of_grownBy (grownBy_of_below hb7 none) (fun _ _ h => by cases h)).from w5.heap.size))
    have KK7 := Lib.hid (keepX_t KK6.out (KeepX.of_below (z := w5.heap.size) (X := fun b => b = w1.heap.size) hb7))
    have I7 := Lib.hid (I6.out.below hb7 (by omega) (by omega))
    have O7 := Lib.hid (O6.out.below hb7)
    have B7 := Lib.hid (B6.out.trans (hb7.mono B6.out.size))
    have cf7 := blk_cell I7.out.f
    have zf7 := lt_of_block I7.out.f
    clear hb7 I6 O6 B6 KF6 KK6 cu6 cd6
    gi_wp2_with fail
    refine ⟨trivial, ?_⟩
    refine (CallsIn.inRound q (callsIn_wide.2 (gap_more w7 w1.heap.size lo hi (p - s) (u - r) O7.out))).mono ?_
    rintro e w8 ⟨rfl, hw8⟩
    have i8 := (I7.out.set (o := 0) (v := .int .i64 (max lo (p - s))) (by omega) (by omega) (by omega) (by omega)).set (o := 1) (v := .int .i64 (max hi (u - r))) (by omega) (by omega) (by omega) (by omega)
    have o8 := (O7.out.set0 (max lo (p - s))).set1 (max hi (u - r))
    have b8 := (B7.out.setCell (p := ⟨w1.heap.size, 0, none⟩) (by simp only; omega) (.int .i64 (max lo (p - s)))).setCell (p := ⟨w1.heap.size, 1, none⟩) (by simp only; omega) (.int .i64 (max hi (u - r)))
    have kf8 := (KF7.out.trans ((KeepsOthers.setCell w7 ⟨w1.heap.size, 0, none⟩ (.int .i64 (max lo (p - s)))).from w5.heap.size)).trans ((KeepsOthers.setCell _ ⟨w1.heap.size, 1, none⟩ (.int .i64 (max hi (u - r)))).from w5.heap.size)
    have kk8 := (KK7.out.set (p := ⟨w1.heap.size, 0, none⟩) (.inl rfl) (.int .i64 (max lo (p - s)))).set (p := ⟨w1.heap.size, 1, none⟩) (.inl rfl) (.int .i64 (max hi (u - r)))
    rw [hw8] at i8 o8 b8 kf8 kk8
    have I8 := Lib.hid i8
    have O8 := Lib.hid o8
    have B8 := Lib.hid b8
    have KF8 := Lib.hid kf8
    have KK8 := Lib.hid kk8
    have cf8 := blk_cell I8.out.f
    have zf8 := lt_of_block I8.out.f
    clear hw8 i8 o8 b8 kf8 kk8 I7 O7 B7 KF7 KK7 cf7 zf7
    gi_wp2_with fail
    refine ⟨trivial, ?_⟩
    refine (CallsIn.inRound q (callsIn_wide.2 (gap_more w8 w1.heap.size (max lo (p - s)) (max hi (u - r)) (r - u) (s - p) O8.out))).mono ?_
    rintro e w9 ⟨rfl, hw9⟩
    have i9 := (I8.out.set (o := 0) (v := .int .i64 (max (max lo (p - s)) (r - u))) (by omega) (by omega) (by omega) (by omega)).set (o := 1) (v := .int .i64 (max (max hi (u - r)) (s - p))) (by omega) (by omega) (by omega) (by omega)
    have o9 := (O8.out.set0 (max (max lo (p - s)) (r - u))).set1 (max (max hi (u - r)) (s - p))
    have b9 := (B8.out.setCell (p := ⟨w1.heap.size, 0, none⟩) (by simp only; omega) (.int .i64 (max (max lo (p - s)) (r - u)))).setCell (p := ⟨w1.heap.size, 1, none⟩) (by simp only; omega) (.int .i64 (max (max hi (u - r)) (s - p)))
    have kf9 := (KF8.out.trans ((KeepsOthers.setCell w8 ⟨w1.heap.size, 0, none⟩ (.int .i64 (max (max lo (p - s)) (r - u)))).from w5.heap.size)).trans ((KeepsOthers.setCell _ ⟨w1.heap.size, 1, none⟩ (.int .i64 (max (max hi (u - r)) (s - p)))).from w5.heap.size)
    have kk9 := (KK8.out.set (p := ⟨w1.heap.size, 0, none⟩) (.inl rfl) (.int .i64 (max (max lo (p - s)) (r - u)))).set (p := ⟨w1.heap.size, 1, none⟩) (.inl rfl) (.int .i64 (max (max hi (u - r)) (s - p)))
    rw [hw9] at i9 o9 b9 kf9 kk9
    have I9 := Lib.hid i9
    have O9 := Lib.hid o9
    have B9 := Lib.hid b9
    have KF9 := Lib.hid kf9
    have KK9 := Lib.hid kk9
    have cf9 := blk_cell I9.out.f
    have zf9 := lt_of_block I9.out.f
    clear hw9 i9 o9 b9 kf9 kk9 I8 O8 B8 KF8 KK8 cf8 zf8
    gi_wp2_with fail
    exact ⟨KF9.out, KK9.out, ⟨I9.out, by rw [HSN.out]; exact O9.out⟩, B9.out⟩
  case done =>
    rintro D ys W hD hys ⟨⟨hI, hO⟩, hB⟩ hK
    obtain rfl : ys = L := hys
    have hres : gapFold l d r1 r2 ys = gapFold l d r1 r2 (gapE l r1 r2) := gapFold_rising HR.out
    rw [hres] at hO
    obtain ⟨o, ho⟩ : ∃ o, o = gapFold l d r1 r2 (gapE l r1 r2) := ⟨_, rfl⟩
    rw [← ho] at hO
    have HOE := Lib.hid ho
    have co := blk_cell hO
    have zo := lt_of_block hO
    have cr := blk_cell hI.r
    have fr := blk_frozen hI.r
    have zr := lt_of_block hI.r
    have R7 := Lib.hid ((hI.r.set0 o.1).set1 o.2)
    have B7 := Lib.hid ((hB.setCell (p := ⟨w.heap.size + 1, 0, none⟩) (by simp) (.int .i64 o.1)).setCell (p := ⟨w.heap.size + 1, 1, none⟩) (by simp) (.int .i64 o.2))
    have KO : KeepsOthers W ((W.setCell ⟨w.heap.size + 1, 0, none⟩ (.int .i64 o.1)).setCell ⟨w.heap.size + 1, 1, none⟩ (.int .i64 o.2)) := (KeepsOthers.setCell _ _ _).trans (KeepsOthers.setCell _ _ _)
    have hK' := Lib.hid (KO.same D _ hK rfl)
    have hDw : w.heap.size ≤ D := by have := BB5.out.size; omega
    clear hI hO hB hK KO hres ho
    gi_wp2_with fail
    generalize (W.setCell ⟨w.heap.size + 1, 0, none⟩ (.int .i64 o.1)).setCell ⟨w.heap.size + 1, 1, none⟩ (.int .i64 o.2) = W7 at R7 B7 hK' ⊢
    refine ⟨by simp, .inl ⟨_, _, rfl, run_takeDeferred hK'.out, ?_⟩⟩
    have R8 : bothAt (W7.putObj D (.deferred none)) (w.heap.size + 1) o.1 o.2 := row_grown R7.out (grownBy_putObj' _ D (.deferred none)) (fun r e => by cases e; exact ⟨_, hK'.out, rfl⟩)
    have d0 := blk_cell R8 0
    have d1 := blk_cell R8 1
    exact ⟨.tuple #[.agg #[.int .i64 o.1, .int .i64 o.2], .int .i64 0], by (simp only [results, Tryz.f40]; go_simp), by rw [HOE.out], B7.out.trans (belowK_b (w := w) (Nat.le_refl _) W7 D _ _ hDw hK'.out rfl rfl)⟩
  case stop =>
    rintro D c pre W hD hpre h hK
    exact h.elim
theorem gap_Most (w : World) (g1 K1 l1 g2 K2 l2 : Nat) (k1 k2 : Int) (r1 r2 : List Nd) (F1 F2 : Nat → Prop) (d : Int) (h1 : DigAt w g1 K1 l1 k1 r1 F1) (h2 : DigAt w g2 K2 l2 k2 r2 F2) (m1 : r1.length ≤ 67108864) (m2 : r2.length ≤ 67108864) (hd : d ≤ 9223372036854775807) :
    Calls Tryz.prog 40 #[.pointer (some ⟨g1, 0, none⟩), .pointer (some ⟨g2, 0, none⟩), .int .i64 d] w fun e w' => e = .returned (.tuple #[.agg #[.int .i64 (gapMostT l1 l2 r1 r2 d).1, .int .i64 (gapMostT l1 l2 r1 r2 d).2], .int .i64 (gapMostErr l1 l2 r1 r2 d)]) ∧ Below w.heap.size w w' := by
  by_cases he : gapMostErr l1 l2 r1 r2 d = 0
  · have h0 : gapErr l1 l2 r1 r2 = 0 ∧ ¬ d < 1 := by
      unfold gapMostErr at he
      by_cases c : gapErr l1 l2 r1 r2 = 0
      · rw [if_pos c] at he
        by_cases c2 : d < 1
        · rw [if_pos c2] at he; cases he
        · exact ⟨c, c2⟩
      · rw [if_neg c] at he; exact absurd he c
    have hll := gapErr_ok h0.1
    obtain rfl : l1 = l2 := by omega
    obtain ⟨n, rfl⟩ := Int.eq_ofNat_of_zero_le (show 0 ≤ d by omega)
    have ht : gapMostT l1 l1 r1 r2 n = gapFold l1 n r1 r2 (gapE l1 r1 r2) := by unfold gapMostT; rw [if_pos he]
    rw [ht, he]
    exact gap_Most_yes w g1 K1 l1 g2 K2 n k1 k2 r1 r2 F1 F2 h1 h2 m1 m2 h0.1 (by omega) (by omega)
  · exact gap_Most_no w g1 K1 l1 g2 K2 l2 k1 k2 r1 r2 F1 F2 d h1 h2 he
end Go.Proofs.YtpngailmhdiiiaaGreat
/- Chapter 21: nil is held against nothing; the chapter's example. -/
namespace Go.Proofs.YtpngailmhdiiiaaGreat
open Go.ChangeShapes Go.WideShapes Go.ChangeAt Go.RowKit
set_option linter.unusedVariables false
set_option linter.unusedSimpArgs false
set_option maxRecDepth 100000
attribute [local go_sem] Oper.semAt_some

theorem gap_wrong_nil (w : World) (p q : Option Nat) (h : p = none ∨ q = none) :
    Calls Tryz.prog 86 #[.pointer (p.map fun g => ⟨g, 0, none⟩), .pointer (q.map fun g => ⟨g, 0, none⟩)] w fun e w' => e = .returned (.int .i64 1) ∧ Below w.heap.size w w' := by
  cases p with
  | none =>
    clear h
    simp only [Option.map_none]
    go_enter Tryz.func86, Tryz.ntmps86
    go_wp2_with fail
    go_ret
    exact ⟨rfl, (by repeat (first | with_reducible exact Below.refl _ _ | with_reducible assumption | ((with_reducible refine Below.setCell ?_ ?_ _); rotate_left; · (first | omega | exact Nat.le_refl _ | (simp <;> omega))) | (with_reducible refine Below.allocW ?_ _) | (with_reducible refine Below.drew ?_) | (with_reducible refine Below.extW ?_ _)))⟩
  | some g =>
    obtain rfl : q = none := by simpa using h
    clear h
    simp only [Option.map_none, Option.map_some]
    go_enter Tryz.func86, Tryz.ntmps86
    go_wp2_with fail
    go_ret
    exact ⟨rfl, (by repeat (first | with_reducible exact Below.refl _ _ | with_reducible assumption | ((with_reducible refine Below.setCell ?_ ?_ _); rotate_left; · (first | omega | exact Nat.le_refl _ | (simp <;> omega))) | (with_reducible refine Below.allocW ?_ _) | (with_reducible refine Below.drew ?_) | (with_reducible refine Below.extW ?_ _)))⟩
theorem gap_Side_nil (w : World) (p q : Option Nat) (x : Int) (h : p = none ∨ q = none) :
    Calls Tryz.prog 36 #[.pointer (p.map fun g => ⟨g, 0, none⟩), .pointer (q.map fun g => ⟨g, 0, none⟩), .int .i64 x] w fun e w' => e = .returned (.tuple #[.int .i64 0, .int .i64 1]) ∧ Below w.heap.size w w' := by
  have HW := Lib.hid (gap_wrong_nil · p q h)
  clear h
  generalize (p.map fun g => (⟨g, 0, none⟩ : Addr)) = a at HW ⊢
  generalize (q.map fun g => (⟨g, 0, none⟩ : Addr)) = b at HW ⊢
  go_enter Tryz.func36, Tryz.ntmps36
  go_wp2_with fail
  refine (HW.out _).mono ?_
  rintro e w1 ⟨rfl, hb1⟩
  have B1 : Below w.heap.size w w1 := Below.then_ (by repeat (first | with_reducible exact Below.refl _ _ | with_reducible assumption | ((with_reducible refine Below.setCell ?_ ?_ _); rotate_left; · (first | omega | exact Nat.le_refl _ | (simp <;> omega))) | (with_reducible refine Below.allocW ?_ _) | (with_reducible refine Below.drew ?_) | (with_reducible refine Below.extW ?_ _))) hb1
  have s1 : w.heap.size ≤ w1.heap.size := B1.size
  go_wp2_with fail
  go_ret2
  exact ⟨rfl, B1⟩
theorem gap_Apart_nil (w : World) (p q : Option Nat) (h : p = none ∨ q = none) :
    Calls Tryz.prog 38 #[.pointer (p.map fun g => ⟨g, 0, none⟩), .pointer (q.map fun g => ⟨g, 0, none⟩)] w fun e w' => e = .returned (.tuple #[.int .i64 0, .int .i64 0, .int .i64 1]) ∧ Below w.heap.size w w' := by
  have HW := Lib.hid (gap_wrong_nil (((w.alloc (.cells #[.int .i64 0] 3)).alloc (.cells #[.int .i64 0] 3)).alloc (.cells #[.int .i64 0] 30)) p q h)
  clear h
  generalize (p.map fun g => (⟨g, 0, none⟩ : Addr)) = pa at HW ⊢
  generalize (q.map fun g => (⟨g, 0, none⟩ : Addr)) = pb at HW ⊢
  refine (callsIn_wide (n := 3)).1 ?_
  refine callsIn_of_wp_marks Tryz.func38 rfl trivial ?_ rfl
  simp only [Tryz.ntmps38, List.size_toArray, List.length_cons, List.length_nil, Nat.reduceAdd, Nat.reduceSub, Array.replicate_succ, Array.replicate_zero, List.push_toArray, List.append_toArray, List.nil_append, List.cons_append]
  gi_wp2_with fail
  refine ⟨trivial, ?_⟩
  refine (callsIn_wide.2 HW.out).mono ?_
  rintro e w1 ⟨rfl, hb1⟩
  have B1 : Below w.heap.size w w1 := Below.then_ (by repeat (first | with_reducible exact Below.refl _ _ | with_reducible assumption | ((with_reducible refine Below.setCell ?_ ?_ _); rotate_left; · (first | omega | exact Nat.le_refl _ | (simp <;> omega))) | (with_reducible refine Below.allocW ?_ _) | (with_reducible refine Below.drew ?_) | (with_reducible refine Below.extW ?_ _))) hb1
  have R1 := (Res3.new w).below hb1
  have c4 := blk_cell R1.r4
  have c5 := blk_cell R1.r5
  have c6 := blk_cell R1.r6
  have f4 := blk_frozen R1.r4
  have f5 := blk_frozen R1.r5
  have f6 := blk_frozen R1.r6
  have z4 := lt_of_block R1.r4
  have z5 := lt_of_block R1.r5
  have z6 := lt_of_block R1.r6
  have R2 := Lib.hid (R1.put (.int .i64 0) (.int .i64 0) (.int .i64 1))
  have B2 := Lib.hid (Res3.put_below B1 (Nat.le_refl _) (.int .i64 0) (.int .i64 0) (.int .i64 1))
  clear R1 hb1
  gi_wp2_with fail
  generalize ((w1.setCell ⟨w.heap.size, 0, none⟩ (.int .i64 0)).setCell ⟨w.heap.size + 1, 0, none⟩ (.int .i64 0)).setCell ⟨w.heap.size + 1 + 1, 0, none⟩ (.int .i64 1) = W2 at R2 B2 ⊢
  have d4 := blk_cell R2.out.r4 0
  have d5 := blk_cell R2.out.r5 0
  have d6 := blk_cell R2.out.r6 0
  exact ⟨.tuple #[.int .i64 0, .int .i64 0, .int .i64 1], by simp [results, Tryz.f38, go_sem, d4, d5, d6], rfl, B2.out⟩
theorem gap_Most_nil (w : World) (p q : Option Nat) (d : Int) (h : p = none ∨ q = none) :
    Calls Tryz.prog 40 #[.pointer (p.map fun g => ⟨g, 0, none⟩), .pointer (q.map fun g => ⟨g, 0, none⟩), .int .i64 d] w fun e w' => e = .returned (.tuple #[.agg #[.int .i64 0, .int .i64 0], .int .i64 1]) ∧ Below w.heap.size w w' := by
  have HW := Lib.hid (gap_wrong_nil ((w.alloc (.cells #[.int .i64 d] 3)).alloc (.cells #[.int .i64 0, .int .i64 0] 29)) p q h)
  have kd := (heap_new_lt (w.alloc (.cells #[.int .i64 d] 3)) (.cells #[.int .i64 0, .int .i64 0] 29) w.heap.size (by simp)).trans (heap_alloc_new w (.cells #[.int .i64 d] 3))
  have kr : bothAt ((w.alloc (.cells #[.int .i64 d] 3)).alloc (.cells #[.int .i64 0, .int .i64 0] 29)) (w.heap.size + 1) 0 0 := heap_new_at (w.alloc (.cells #[.int .i64 d] 3)) (.cells #[.int .i64 0, .int .i64 0] 29) (w.heap.size + 1) (by simp)
  have KD := Lib.hid kd
  have KR := Lib.hid kr
  clear h kd kr
  generalize (p.map fun g => (⟨g, 0, none⟩ : Addr)) = pa at HW ⊢
  generalize (q.map fun g => (⟨g, 0, none⟩ : Addr)) = pb at HW ⊢
  refine (callsIn_wide (n := 3)).1 ?_
  refine callsIn_of_wp_marks Tryz.func40 rfl trivial ?_ rfl
  simp only [Tryz.ntmps40, List.size_toArray, List.length_cons, List.length_nil, Nat.reduceAdd, Nat.reduceSub, Array.replicate_succ, Array.replicate_zero, List.push_toArray, List.append_toArray, List.nil_append, List.cons_append]
  gi_wp2_with fail
  refine ⟨trivial, ?_⟩
  refine (callsIn_wide.2 HW.out).mono ?_
  rintro e w1 ⟨rfl, hb1⟩
  have B1 : Below w.heap.size w w1 := Below.then_ (by repeat (first | with_reducible exact Below.refl _ _ | with_reducible assumption | ((with_reducible refine Below.setCell ?_ ?_ _); rotate_left; · (first | omega | exact Nat.le_refl _ | (simp <;> omega))) | (with_reducible refine Below.allocW ?_ _) | (with_reducible refine Below.drew ?_) | (with_reducible refine Below.extW ?_ _))) hb1
  have kd1 := blk_below KD.out hb1
  have kr1 := KR.out.below hb1
  have c0 := blk_cell kd1
  have z0 := lt_of_block kd1
  have c1 := blk_cell kr1
  have z1 := lt_of_block kr1
  have e1 := blk_frozen kr1
  have R2 := Lib.hid ((kr1.set0 0).set1 0)
  have B2 := Lib.hid ((B1.setCell (p := ⟨w.heap.size + 1, 0, none⟩) (by simp) (.int .i64 0)).setCell (p := ⟨w.heap.size + 1, 1, none⟩) (by simp) (.int .i64 0))
  clear hb1 kd1 kr1
  gi_wp2_with fail
  generalize (w1.setCell ⟨w.heap.size + 1, 0, none⟩ (.int .i64 0)).setCell ⟨w.heap.size + 1, 1, none⟩ (.int .i64 0) = W2 at R2 B2 ⊢
  have d0 := blk_cell R2.out 0
  have d1 := blk_cell R2.out 1
  exact ⟨.tuple #[.agg #[.int .i64 0, .int .i64 0], .int .i64 1], by (simp only [results, Tryz.f40]; go_simp), rfl, B2.out⟩

/-- The chapter's digests. -/
def nodesA : List Nd := [(2, 1), (3, 1)]
def nodesB : List Nd := [(3, 5)]
theorem nodesA_ints : ints nodesA := by
  intro x hx
  simp only [nodesA, List.mem_cons, List.not_mem_nil, or_false] at hx
  rcases hx with rfl | rfl <;> (unfold i64; simp)
theorem nodesB_ints : ints nodesB := by
  intro x hx
  simp only [nodesB, List.mem_cons, List.not_mem_nil, or_false] at hx
  subst hx; unfold i64; simp
theorem loadA : loadErr 1 4 2 nodesA = 0 := by decide +kernel
theorem loadB : loadErr 1 4 1 nodesB = 0 := by decide +kernel
theorem side21 : sideT ((1 : Nat) : Int) ((1 : Nat) : Int) nodesA nodesB 0 = 1 := by decide +kernel
theorem err21 : gapErr ((1 : Nat) : Int) ((1 : Nat) : Int) nodesA nodesB = 0 := by decide +kernel
theorem ap21 : apT ((1 : Nat) : Int) ((1 : Nat) : Int) nodesA nodesB = (0, 1) := by decide +kernel
theorem merr21 : gapMostErr ((1 : Nat) : Int) ((1 : Nat) : Int) nodesA nodesB 100 = 0 := by decide +kernel
theorem most21 : gapMostT ((1 : Nat) : Int) ((1 : Nat) : Int) nodesA nodesB 100 = (50, 50) := by decide +kernel
end Go.Proofs.YtpngailmhdiiiaaGreat
/- Chapter 21: the example, and the law GapNobody. -/
namespace Go.Proofs.YtpngailmhdiiiaaGreat
open Go.ChangeShapes Go.WideShapes Go.ChangeAt Go.RowKit
set_option linter.unusedVariables false
set_option linter.unusedSimpArgs false
set_option maxRecDepth 100000

set_option maxHeartbeats 2000000 in
theorem alive21 (w : World) : Calls Tryz.prog 35 #[] w fun e w' => e = .returned (.bool true) ∧ Below w.heap.size w w' := by
  have HS := Lib.hid (sl_lit w encN nodesA 100 _ rfl)
  have HC := Lib.hid (digest_Load · 1 2 4 (some ⟨w.heap.size, 0, none⟩) 2 nodesA loadA · nodesA_ints (by decide))
  go_enter Tryz.func35, Tryz.ntmps35
  go_wp2_with fail
  refine (HC.out _ (HS.out.keep (by simp) fun p hp => rfl)).mono ?_
  rintro e w1 ⟨g1, F1, rfl, hD1, _, hb1⟩
  have B1 : Below w.heap.size w w1 := Below.then_ (by repeat (first | with_reducible exact Below.refl _ _ | with_reducible assumption | ((with_reducible refine Below.setCell ?_ ?_ _); rotate_left; · (first | omega | exact Nat.le_refl _ | (simp <;> omega))) | (with_reducible refine Below.allocW ?_ _) | (with_reducible refine Below.drew ?_) | (with_reducible refine Below.extW ?_ _))) hb1
  have s1 : w.heap.size ≤ w1.heap.size := B1.size
  have KD1 := Lib.hid (hD1.alloc (.cells #[.int .i64 3, .int .i64 5] 100))
  have HS2 := Lib.hid (sl_lit w1 encN nodesB 100 _ rfl)
  have HC2 := Lib.hid (digest_Load · 1 1 4 (some ⟨w1.heap.size, 0, none⟩) 1 nodesB loadB · nodesB_ints (by decide))
  clear hD1
  go_wp2_with fail
  refine (HC2.out _ (HS2.out.keep (by simp) fun p hp => rfl)).mono ?_
  rintro e w2 ⟨g2, F2, rfl, hD2, _, hb2⟩
  have B2 : Below w.heap.size w w2 := Below.then_ (by repeat (first | with_reducible exact Below.refl _ _ | with_reducible assumption | ((with_reducible refine Below.setCell ?_ ?_ _); rotate_left; · (first | omega | exact Nat.le_refl _ | (simp <;> omega))) | (with_reducible refine Below.allocW ?_ _) | (with_reducible refine Below.drew ?_) | (with_reducible refine Below.extW ?_ _))) hb2
  have s2 : w.heap.size ≤ w2.heap.size := B2.size
  have J1 := Lib.hid (KD1.out.below hb2)
  have J2 := Lib.hid hD2
  clear hD2
  go_wp2_with fail
  refine (gap_Side _ g1 2 1 g2 1 1 4 4 nodesA nodesB F1 F2 0 J1.out J2.out (by decide) (by decide)).mono ?_
  rintro e w3 ⟨rfl, hb3⟩
  have B3 : Below w.heap.size w w3 := Below.then_ (by repeat (first | with_reducible exact Below.refl _ _ | with_reducible assumption | ((with_reducible refine Below.setCell ?_ ?_ _); rotate_left; · (first | omega | exact Nat.le_refl _ | (simp <;> omega))) | (with_reducible refine Below.allocW ?_ _) | (with_reducible refine Below.drew ?_) | (with_reducible refine Below.extW ?_ _))) hb3
  have s3 : w.heap.size ≤ w3.heap.size := B3.size
  rw [side21, err21]
  have M1 := Lib.hid (J1.out.below hb3)
  have M2 := Lib.hid (J2.out.below hb3)
  go_wp2_with fail
  refine (gap_Apart _ g1 2 1 g2 1 1 4 4 nodesA nodesB F1 F2 M1.out M2.out (by decide) (by decide)).mono ?_
  rintro e w4 ⟨rfl, hb4⟩
  have B4 : Below w.heap.size w w4 := Below.then_ (by repeat (first | with_reducible exact Below.refl _ _ | with_reducible assumption | ((with_reducible refine Below.setCell ?_ ?_ _); rotate_left; · (first | omega | exact Nat.le_refl _ | (simp <;> omega))) | (with_reducible refine Below.allocW ?_ _) | (with_reducible refine Below.drew ?_) | (with_reducible refine Below.extW ?_ _))) hb4
  have s4 : w.heap.size ≤ w4.heap.size := B4.size
  rw [ap21, err21]
  have N1 := Lib.hid (M1.out.below hb4)
  have N2 := Lib.hid (M2.out.below hb4)
  go_wp2_with fail
  refine (gap_Most _ g1 2 1 g2 1 1 4 4 nodesA nodesB F1 F2 100 N1.out N2.out (by decide) (by decide) (by decide)).mono ?_
  rintro e w5 ⟨rfl, hb5⟩
  have B5 : Below w.heap.size w w5 := Below.then_ (by repeat (first | with_reducible exact Below.refl _ _ | with_reducible assumption | ((with_reducible refine Below.setCell ?_ ?_ _); rotate_left; · (first | omega | exact Nat.le_refl _ | (simp <;> omega))) | (with_reducible refine Below.allocW ?_ _) | (with_reducible refine Below.drew ?_) | (with_reducible refine Below.extW ?_ _))) hb5
  have s5 : w.heap.size ≤ w5.heap.size := B5.size
  rw [most21, merr21]
  go_wp2_with fail
  go_ret
  exact ⟨rfl, (by repeat (first | with_reducible exact Below.refl _ _ | with_reducible assumption | ((with_reducible refine Below.setCell ?_ ?_ _); rotate_left; · (first | omega | exact Nat.le_refl _ | (simp <;> omega))) | (with_reducible refine Below.allocW ?_ _) | (with_reducible refine Below.drew ?_) | (with_reducible refine Below.extW ?_ _)))⟩
set_option maxHeartbeats 2000000 in
theorem law_GapNobody (l k K : Int) (r : List Nd) (A : Option Addr) (cap : Nat) (x : Int) (w : World) (hS : Sl w w.heap.size encN A r) (hI : ints r) (_ : i64 l) (_ : i64 k) (_ : i64 K) (hm : r.length ≤ maxLen) (_ : (Lit.int .i64 x).wf = true) :
    Calls Tryz.prog 10 #[loadedV l k K A r.length cap, .int .i64 x] w fun e w' => e = .returned (.bool true) ∧ Below w.heap.size w w' := by
  have B0 : Below w.heap.size w (w.alloc (.cells #[.int .i64 l, .int .i64 k, .int .i64 K, .slice A r.length cap] 26)) := (by repeat (first | with_reducible exact Below.refl _ _ | with_reducible assumption | ((with_reducible refine Below.setCell ?_ ?_ _); rotate_left; · (first | omega | exact Nat.le_refl _ | (simp <;> omega))) | (with_reducible refine Below.allocW ?_ _) | (with_reducible refine Below.drew ?_) | (with_reducible refine Below.extW ?_ _)))
  have HS := Lib.hid (hS.keep (B' := (w.alloc (.cells #[.int .i64 l, .int .i64 k, .int .i64 K, .slice A r.length cap] 26)).heap.size) B0.size fun p hp => B0.cell hp)
  by_cases h : goodL l k K r
  · obtain ⟨l, K, rfl, rfl⟩ := goodL_nat h.2.2
    have HC := Lib.hid (law16_Load · l K k A cap r h · hI)
    unfold loadedV refDig LPost at HC
    unfold loadedV
    clear h hS hI
    go_enter Tryz.func10, Tryz.ntmps10
    go_wp2_with fail
    refine (HC.out _ HS.out).mono ?_
    rintro e w1 ⟨g, F, rfl, _, _, hb1⟩
    have B1 : Below w.heap.size w w1 := Below.then_ (by repeat (first | with_reducible exact Below.refl _ _ | with_reducible assumption | ((with_reducible refine Below.setCell ?_ ?_ _); rotate_left; · (first | omega | exact Nat.le_refl _ | (simp <;> omega))) | (with_reducible refine Below.allocW ?_ _) | (with_reducible refine Below.drew ?_) | (with_reducible refine Below.extW ?_ _))) hb1
    have s1 : w.heap.size ≤ w1.heap.size := B1.size
    have H1 : Hid (∀ W, Calls Tryz.prog 36 #[.pointer (some ⟨g, 0, none⟩), .pointer none, .int .i64 x] W fun e w' => e = .returned (.tuple #[.int .i64 0, .int .i64 1]) ∧ Below W.heap.size W w') := Lib.hid fun W => gap_Side_nil W (some g) none x (.inr rfl)
    have H2 : Hid (∀ W, Calls Tryz.prog 38 #[.pointer none, .pointer (some ⟨g, 0, none⟩)] W fun e w' => e = .returned (.tuple #[.int .i64 0, .int .i64 0, .int .i64 1]) ∧ Below W.heap.size W w') := Lib.hid fun W => gap_Apart_nil W none (some g) (.inl rfl)
    have H3 : Hid (∀ W, Calls Tryz.prog 40 #[.pointer none, .pointer none, .int .i64 x] W fun e w' => e = .returned (.tuple #[.agg #[.int .i64 0, .int .i64 0], .int .i64 1]) ∧ Below W.heap.size W w') := Lib.hid fun W => gap_Most_nil W none none x (.inl rfl)
    go_wp2_with fail
    refine (H1.out _).mono ?_
    rintro e w2 ⟨rfl, hb2⟩
    have B2 : Below w.heap.size w w2 := Below.then_ (by repeat (first | with_reducible exact Below.refl _ _ | with_reducible assumption | ((with_reducible refine Below.setCell ?_ ?_ _); rotate_left; · (first | omega | exact Nat.le_refl _ | (simp <;> omega))) | (with_reducible refine Below.allocW ?_ _) | (with_reducible refine Below.drew ?_) | (with_reducible refine Below.extW ?_ _))) hb2
    have s2 : w.heap.size ≤ w2.heap.size := B2.size
    go_wp2_with fail
    refine (H2.out _).mono ?_
    rintro e w3 ⟨rfl, hb3⟩
    have B3 : Below w.heap.size w w3 := Below.then_ (by repeat (first | with_reducible exact Below.refl _ _ | with_reducible assumption | ((with_reducible refine Below.setCell ?_ ?_ _); rotate_left; · (first | omega | exact Nat.le_refl _ | (simp <;> omega))) | (with_reducible refine Below.allocW ?_ _) | (with_reducible refine Below.drew ?_) | (with_reducible refine Below.extW ?_ _))) hb3
    have s3 : w.heap.size ≤ w3.heap.size := B3.size
    go_wp2_with fail
    refine (H3.out _).mono ?_
    rintro e w4 ⟨rfl, hb4⟩
    have B4 : Below w.heap.size w w4 := Below.then_ (by repeat (first | with_reducible exact Below.refl _ _ | with_reducible assumption | ((with_reducible refine Below.setCell ?_ ?_ _); rotate_left; · (first | omega | exact Nat.le_refl _ | (simp <;> omega))) | (with_reducible refine Below.allocW ?_ _) | (with_reducible refine Below.drew ?_) | (with_reducible refine Below.extW ?_ _))) hb4
    have s4 : w.heap.size ≤ w4.heap.size := B4.size
    go_wp2_with fail
    refine (alive21 _).mono ?_
    rintro e w5 ⟨rfl, hb5⟩
    have B5 : Below w.heap.size w w5 := Below.then_ (by repeat (first | with_reducible exact Below.refl _ _ | with_reducible assumption | ((with_reducible refine Below.setCell ?_ ?_ _); rotate_left; · (first | omega | exact Nat.le_refl _ | (simp <;> omega))) | (with_reducible refine Below.allocW ?_ _) | (with_reducible refine Below.drew ?_) | (with_reducible refine Below.extW ?_ _))) hb5
    have s5 : w.heap.size ≤ w5.heap.size := B5.size
    go_wp2_with fail
    go_ret
    exact ⟨rfl, (by repeat (first | with_reducible exact Below.refl _ _ | with_reducible assumption | ((with_reducible refine Below.setCell ?_ ?_ _); rotate_left; · (first | omega | exact Nat.le_refl _ | (simp <;> omega))) | (with_reducible refine Below.allocW ?_ _) | (with_reducible refine Below.drew ?_) | (with_reducible refine Below.extW ?_ _)))⟩
  · have HC := Lib.hid (law16_Load_no · l k K A cap r h · hI hm)
    unfold loadedV refDig at HC
    unfold loadedV
    clear h hS hI
    go_enter Tryz.func10, Tryz.ntmps10
    go_wp2_with fail
    refine (HC.out _ HS.out).mono ?_
    rintro e w1 ⟨rfl, hb1⟩
    have B1 : Below w.heap.size w w1 := Below.then_ (by repeat (first | with_reducible exact Below.refl _ _ | with_reducible assumption | ((with_reducible refine Below.setCell ?_ ?_ _); rotate_left; · (first | omega | exact Nat.le_refl _ | (simp <;> omega))) | (with_reducible refine Below.allocW ?_ _) | (with_reducible refine Below.drew ?_) | (with_reducible refine Below.extW ?_ _))) hb1
    have s1 : w.heap.size ≤ w1.heap.size := B1.size
    have H1 : Hid (∀ W, Calls Tryz.prog 36 #[.pointer none, .pointer none, .int .i64 x] W fun e w' => e = .returned (.tuple #[.int .i64 0, .int .i64 1]) ∧ Below W.heap.size W w') := Lib.hid fun W => gap_Side_nil W none none x (.inr rfl)
    have H2 : Hid (∀ W, Calls Tryz.prog 38 #[.pointer none, .pointer none] W fun e w' => e = .returned (.tuple #[.int .i64 0, .int .i64 0, .int .i64 1]) ∧ Below W.heap.size W w') := Lib.hid fun W => gap_Apart_nil W none none (.inl rfl)
    have H3 : Hid (∀ W, Calls Tryz.prog 40 #[.pointer none, .pointer none, .int .i64 x] W fun e w' => e = .returned (.tuple #[.agg #[.int .i64 0, .int .i64 0], .int .i64 1]) ∧ Below W.heap.size W w') := Lib.hid fun W => gap_Most_nil W none none x (.inl rfl)
    go_wp2_with fail
    refine (H1.out _).mono ?_
    rintro e w2 ⟨rfl, hb2⟩
    have B2 : Below w.heap.size w w2 := Below.then_ (by repeat (first | with_reducible exact Below.refl _ _ | with_reducible assumption | ((with_reducible refine Below.setCell ?_ ?_ _); rotate_left; · (first | omega | exact Nat.le_refl _ | (simp <;> omega))) | (with_reducible refine Below.allocW ?_ _) | (with_reducible refine Below.drew ?_) | (with_reducible refine Below.extW ?_ _))) hb2
    have s2 : w.heap.size ≤ w2.heap.size := B2.size
    go_wp2_with fail
    refine (H2.out _).mono ?_
    rintro e w3 ⟨rfl, hb3⟩
    have B3 : Below w.heap.size w w3 := Below.then_ (by repeat (first | with_reducible exact Below.refl _ _ | with_reducible assumption | ((with_reducible refine Below.setCell ?_ ?_ _); rotate_left; · (first | omega | exact Nat.le_refl _ | (simp <;> omega))) | (with_reducible refine Below.allocW ?_ _) | (with_reducible refine Below.drew ?_) | (with_reducible refine Below.extW ?_ _))) hb3
    have s3 : w.heap.size ≤ w3.heap.size := B3.size
    go_wp2_with fail
    refine (H3.out _).mono ?_
    rintro e w4 ⟨rfl, hb4⟩
    have B4 : Below w.heap.size w w4 := Below.then_ (by repeat (first | with_reducible exact Below.refl _ _ | with_reducible assumption | ((with_reducible refine Below.setCell ?_ ?_ _); rotate_left; · (first | omega | exact Nat.le_refl _ | (simp <;> omega))) | (with_reducible refine Below.allocW ?_ _) | (with_reducible refine Below.drew ?_) | (with_reducible refine Below.extW ?_ _))) hb4
    have s4 : w.heap.size ≤ w4.heap.size := B4.size
    go_wp2_with fail
    refine (alive21 _).mono ?_
    rintro e w5 ⟨rfl, hb5⟩
    have B5 : Below w.heap.size w w5 := Below.then_ (by repeat (first | with_reducible exact Below.refl _ _ | with_reducible assumption | ((with_reducible refine Below.setCell ?_ ?_ _); rotate_left; · (first | omega | exact Nat.le_refl _ | (simp <;> omega))) | (with_reducible refine Below.allocW ?_ _) | (with_reducible refine Below.drew ?_) | (with_reducible refine Below.extW ?_ _))) hb5
    have s5 : w.heap.size ≤ w5.heap.size := B5.size
    go_wp2_with fail
    go_ret
    exact ⟨rfl, (by repeat (first | with_reducible exact Below.refl _ _ | with_reducible assumption | ((with_reducible refine Below.setCell ?_ ?_ _); rotate_left; · (first | omega | exact Nat.le_refl _ | (simp <;> omega))) | (with_reducible refine Below.allocW ?_ _) | (with_reducible refine Below.drew ?_) | (with_reducible refine Below.extW ?_ _)))⟩
end Go.Proofs.YtpngailmhdiiiaaGreat
