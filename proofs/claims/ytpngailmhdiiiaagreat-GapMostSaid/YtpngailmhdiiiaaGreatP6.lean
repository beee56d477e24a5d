/-
  Texts of this proof, one behind the other: GapRefE, GapRefA, GapRefM, GapTwo, GapSidesW, GapMostW.
-/
import Derived.Test.YtpngailmhdiiiaaGreatP2
import Derived.Test.YtpngailmhdiiiaaGreatP3
import Derived.Test.YtpngailmhdiiiaaGreatP5
/- The reference of layer 21 (gap): Side, ends. -/
set_option linter.unusedSimpArgs false namespace Go.Proofs.YtpngailmhdiiiaaGreat
open Go.ChangeShapes Go.WideShapes Go.ChangeAt Go.RowKit
set_option linter.unusedVariables false
set_option linter.unusedSimpArgs false
set_option maxRecDepth 100000

/-- The records' boxes, laid. -/
abbrev twoBox (w : World) (k1 u1 : Int) (A1 : Option Addr) (n1 cap1 : Nat) (k2 u2 : Int) (A2 : Option Addr) (n2 cap2 : Nat) : World := (w.alloc (.cells #[.int .i64 k1, .int .i64 u1, .slice A1 n1 cap1] 37)).alloc (.cells #[.int .i64 k2, .int .i64 u2, .slice A2 n2 cap2] 37)
theorem twoBox_below (w : World) (k1 u1 : Int) (A1 : Option Addr) (n1 cap1 : Nat) (k2 u2 : Int) (A2 : Option Addr) (n2 cap2 : Nat) : Below w.heap.size w (twoBox w k1 u1 A1 n1 cap1 k2 u2 A2 n2 cap2) := (by repeat (first | with_reducible exact Below.refl _ _ | with_reducible assumption | ((with_reducible refine Below.setCell ?_ ?_ _); rotate_left; · (first | omega | exact Nat.le_refl _ | (simp <;> omega))) | (with_reducible refine Below.allocW ?_ _) | (with_reducible refine Below.drew ?_) | (with_reducible refine Below.extW ?_ _)))
theorem twoBox_1 (w : World) (k1 u1 : Int) (A1 : Option Addr) (n1 cap1 : Nat) (k2 u2 : Int) (A2 : Option Addr) (n2 cap2 : Nat) : digBox (twoBox w k1 u1 A1 n1 cap1 k2 u2 A2 n2 cap2) w.heap.size k1 u1 A1 n1 cap1 := (heap_new_lt _ _ _ (by simp)).trans (heap_alloc_new w _)
theorem twoBox_2 (w : World) (k1 u1 : Int) (A1 : Option Addr) (n1 cap1 : Nat) (k2 u2 : Int) (A2 : Option Addr) (n2 cap2 : Nat) : digBox (twoBox w k1 u1 A1 n1 cap1 k2 u2 A2 n2 cap2) (w.heap.size + 1) k2 u2 A2 n2 cap2 := heap_new_at (w.alloc _) _ (w.heap.size + 1) (by simp)
theorem twoBox_size (w : World) (k1 u1 : Int) (A1 : Option Addr) (n1 cap1 : Nat) (k2 u2 : Int) (A2 : Option Addr) (n2 cap2 : Nat) : (twoBox w k1 u1 A1 n1 cap1 k2 u2 A2 n2 cap2).heap.size = w.heap.size + 2 := by simp
theorem ref21_Side (w : World) (k1 k2 : Int) (l1 l2 : Nat) (A1 A2 : Option Addr) (cap1 cap2 : Nat) (r1 r2 : List Nd) (x : Int) (h1 : l1 ≤ 48) (h2 : l2 ≤ 48) (hS1 : Sl w w.heap.size encN A1 r1) (hS2 : Sl w w.heap.size encN A2 r2) (hI1 : ints r1) (hI2 : ints r2) (m1 : r1.length ≤ 67108864) (m2 : r2.length ≤ 67108864)
    (f1 : Fits l1 r1) (f2 : Fits l2 r2) (t1 : (totalOf r1).1 = sumR r1) (t2 : (totalOf r2).1 = sumR r2) :
    Calls Tryz.prog 37 #[.agg #[.int .i64 k1, .int .i64 l1, .slice A1 r1.length cap1], .agg #[.int .i64 k2, .int .i64 l2, .slice A2 r2.length cap2], .int .i64 x] w fun e w' => e = .returned (.tuple #[.int .i64 (sideT l1 l2 r1 r2 x), .int .i64 (gapErr l1 l2 r1 r2)]) ∧ Below w.heap.size w w' := by
  have B0 := twoBox_below w k1 l1 A1 r1.length cap1 k2 l2 A2 r2.length cap2
  have S1 := Lib.hid (hS1.keep (B' := (twoBox w k1 l1 A1 r1.length cap1 k2 l2 A2 r2.length cap2).heap.size) B0.size fun p hp => B0.cell hp)
  have S2 := Lib.hid (hS2.keep (B' := (twoBox w k1 l1 A1 r1.length cap1 k2 l2 A2 r2.length cap2).heap.size) B0.size fun p hp => B0.cell hp)
  have HW := Lib.hid (fun (W : World) (a : Sl W W.heap.size encN A1 r1) (b : Sl W W.heap.size encN A2 r2) => ref21_wrong W k1 k2 l1 l2 A1 A2 cap1 cap2 r1 r2 h1 h2 a b hI1 hI2 m1 m2 t1 t2)
  have HT := Lib.hid (fun (W : World) (a : Sl W W.heap.size encN A1 r1) (b : Sl W W.heap.size encN A2 r2) => ref21_at W k1 k2 l1 l2 A1 A2 cap1 cap2 r1 r2 x a b hI1 hI2 m1 m2 f1.roll f2.roll f1.sum f2.sum t1 t2)
  have K1 := Lib.hid (twoBox_1 w k1 l1 A1 r1.length cap1 k2 l2 A2 r2.length cap2)
  have K2 := Lib.hid (twoBox_2 w k1 l1 A1 r1.length cap1 k2 l2 A2 r2.length cap2)
  clear hS1 hS2 hI1 hI2 t1 t2 f1 f2 B0
  by_cases he : gapErr l1 l2 r1 r2 = 0
  · have hll := gapErr_ok he
    obtain rfl : l1 = l2 := by omega
    have hs : sideT l1 l1 r1 r2 x = sideOf l1 r1 r2 x := by unfold sideT; rw [if_pos he]
    rw [he] at HW
    rw [he, hs]
    unfold sideOf
    generalize sideV (sumR r1) (sumR r2) (lowOf l1 r1 x) (highOf l1 r1 x) (lowOf l1 r2 x) (highOf l1 r2 x) = res at HT ⊢
    clear he hs hll
    go_enter Tryz.func37, Tryz.ntmps37
    go_wp2_with fail
    refine (HW.out _ S1.out S2.out).mono ?_
    rintro e w1 ⟨rfl, hb1⟩
    have B1 : Below w.heap.size w w1 := Below.then_ (by repeat (first | with_reducible exact Below.refl _ _ | with_reducible assumption | ((with_reducible refine Below.setCell ?_ ?_ _); rotate_left; · (first | omega | exact Nat.le_refl _ | (simp <;> omega))) | (with_reducible refine Below.allocW ?_ _) | (with_reducible refine Below.drew ?_) | (with_reducible refine Below.extW ?_ _))) hb1
    have s1 : w.heap.size ≤ w1.heap.size := B1.size
    have z1_0 : w.heap.size < w1.heap.size := by have := hb1.size; (try simp at this); omega
    have y1_0 : w.heap.size ≤ w1.heap.size := Nat.le_of_lt z1_0
    have c1_0 := fun o => hb1.cell (p := ⟨w.heap.size, o, none⟩) (by first | omega | (simp <;> omega))
    have f1_0 := fun o => hb1.frozen (p := ⟨w.heap.size, o, none⟩) (by first | omega | (simp <;> omega))
    have z1_1 : w.heap.size + 1 < w1.heap.size := by have := hb1.size; (try simp at this); omega
    have y1_1 : w.heap.size + 1 ≤ w1.heap.size := Nat.le_of_lt z1_1
    have c1_1 := fun o => hb1.cell (p := ⟨w.heap.size + 1, o, none⟩) (by first | omega | (simp <;> omega))
    have f1_1 := fun o => hb1.frozen (p := ⟨w.heap.size + 1, o, none⟩) (by first | omega | (simp <;> omega))
    have T1 := Lib.hid (S1.out.keep (B' := w1.heap.size) hb1.size fun p hp => hb1.cell hp)
    have T2 := Lib.hid (S2.out.keep (B' := w1.heap.size) hb1.size fun p hp => hb1.cell hp)
    go_wp2_with fail
    refine (HT.out _ T1.out T2.out).mono ?_
    rintro e w2 ⟨rfl, hb2⟩
    have B2 : Below w.heap.size w w2 := Below.then_ (by repeat (first | with_reducible exact Below.refl _ _ | with_reducible assumption | ((with_reducible refine Below.setCell ?_ ?_ _); rotate_left; · (first | omega | exact Nat.le_refl _ | (simp <;> omega))) | (with_reducible refine Below.allocW ?_ _) | (with_reducible refine Below.drew ?_) | (with_reducible refine Below.extW ?_ _))) hb2
    have s2 : w.heap.size ≤ w2.heap.size := B2.size
    go_wp2_with fail
    go_ret2
    exact ⟨rfl, (by repeat (first | with_reducible exact Below.refl _ _ | with_reducible assumption | ((with_reducible refine Below.setCell ?_ ?_ _); rotate_left; · (first | omega | exact Nat.le_refl _ | (simp <;> omega))) | (with_reducible refine Below.allocW ?_ _) | (with_reducible refine Below.drew ?_) | (with_reducible refine Below.extW ?_ _)))⟩
  · have hs : sideT l1 l2 r1 r2 x = 0 := by unfold sideT; rw [if_neg he]
    rw [hs]
    have hne : (gapErr l1 l2 r1 r2 == 0) = false := by simpa using he
    clear hs he
    generalize gapErr l1 l2 r1 r2 = er at HW hne
    go_enter Tryz.func37, Tryz.ntmps37
    go_wp2_with fail
    refine (HW.out _ S1.out S2.out).mono ?_
    rintro e w1 ⟨rfl, hb1⟩
    have B1 : Below w.heap.size w w1 := Below.then_ (by repeat (first | with_reducible exact Below.refl _ _ | with_reducible assumption | ((with_reducible refine Below.setCell ?_ ?_ _); rotate_left; · (first | omega | exact Nat.le_refl _ | (simp <;> omega))) | (with_reducible refine Below.allocW ?_ _) | (with_reducible refine Below.drew ?_) | (with_reducible refine Below.extW ?_ _))) hb1
    have s1 : w.heap.size ≤ w1.heap.size := B1.size
    go_wp2_with fail
    go_ret2
    exact ⟨rfl, B1⟩
set_option maxHeartbeats 4000000 in
theorem ref21_ends (w : World) (k1 k2 u1 u2 : Int) (A1 A2 : Option Addr) (cap1 cap2 : Nat) (r1 r2 : List Nd) (hS1 : Sl w w.heap.size encN A1 r1) (hS2 : Sl w w.heap.size encN A2 r2) (hI1 : ints r1) (hI2 : ints r2) (m1 : r1.length ≤ 67108864) (m2 : r2.length ≤ 67108864) :
    Calls Tryz.prog 91 #[.agg #[.int .i64 k1, .int .i64 u1, .slice A1 r1.length cap1], .agg #[.int .i64 k2, .int .i64 u2, .slice A2 r2.length cap2]] w (OwnPost 3 encZ (gapE u1 r1 r2) w) := by
  have B0 := (twoBox_below w k1 u1 A1 r1.length cap1 k2 u2 A2 r2.length cap2)
  have hsz := twoBox_size w k1 u1 A1 r1.length cap1 k2 u2 A2 r2.length cap2
  have K1 := Lib.hid (twoBox_1 w k1 u1 A1 r1.length cap1 k2 u2 A2 r2.length cap2)
  have K2 := Lib.hid (twoBox_2 w k1 u1 A1 r1.length cap1 k2 u2 A2 r2.length cap2)
  have S1 := Lib.hid (hS1.keep (B' := (twoBox w k1 u1 A1 r1.length cap1 k2 u2 A2 r2.length cap2).heap.size) B0.size fun p hp => B0.cell hp)
  have S2 := Lib.hid (hS2.keep (B' := (twoBox w k1 u1 A1 r1.length cap1 k2 u2 A2 r2.length cap2).heap.size) B0.size fun p hp => B0.cell hp)
  have HE := Lib.hid (fun (W : World) (id : Int) (h : id ≤ 9223372036854775807) => ref2_Ends W u1 id h)
  have HI : ∀ x ∈ r1 ++ r2, x.1 ≤ 9223372036854775807 := fun x hx => by
    rcases List.mem_append.1 hx with h | h
    · exact (hI1 x h).1.2
    · exact (hI2 x h).1.2
  have HX := Lib.hid HI
  clear hS1 hS2 hI1 hI2 HI
  go_enter Tryz.func91, Tryz.ntmps91
  go_upto_region 1 with fail
  change Code.wp _ _ _ _ (twoBox w k1 u1 A1 r1.length cap1 k2 u2 A2 r2.length cap2)
  generalize twoBox w k1 u1 A1 r1.length cap1 k2 u2 A2 r2.length cap2 = W0 at B0 hsz K1 K2 S1 S2 ⊢
  have HSZ := Lib.hid hsz
  clear hsz
  have BA : Below W0.heap.size W0 (W0.alloc (.cells #[.int .i64 0] 3)) := (Below.refl _ _).alloc (Nat.le_refl _) _
  have k1' := K1.out.below BA
  have k2' := K2.out.below BA
  have c1' := blk_cell k1'
  have z1' := lt_of_block k1'
  have KK1 := Lib.hid k1'
  have KK2 := Lib.hid k2'
  have T1 := Lib.hid (S1.out.keep (B' := (W0.alloc (.cells #[.int .i64 0] 3)).heap.size) BA.size fun p hp => BA.cell hp)
  have T2 := Lib.hid (S2.out.keep (B' := (W0.alloc (.cells #[.int .i64 0] 3)).heap.size) BA.size fun p hp => BA.cell hp)
  have O0 := Lib.hid (Own.lit (base := W0.heap.size) W0 encZ [0] 3 (Nat.le_refl _) (by simp [maxLen]))
  simp only [List.flatMap_cons, List.flatMap_nil, List.append_nil, encZ, List.length_singleton] at O0
  have HBA := Lib.hid BA
  have HS01 := Lib.hid (show (W0.alloc (.cells #[.int .i64 0] 3)).heap.size = W0.heap.size + 1 by simp)
  clear BA k1' k2'
  go_upto_region 2 with fail
  generalize W0.alloc (.cells #[.int .i64 0] 3) = W1 at T1 T2 O0 HBA KK1 KK2 c1' z1' HS01 ⊢
  go_wp2_with ((at_builtin; refine wpList_app tyN rfl _ _ rfl encN W1.heap.size (.slice none 0 0) [] rfl (Own.nil _ _ _ _) A1 cap1 r1 _ (by go_simp) T1.out ?c1 ?c2 ?c3 ?c4))
  case c1 => simp only [List.length_nil]; omega
  case c2 => simp only [maxLen, List.length_nil]; omega
  case c3 => exact Nat.le_refl _
  case c4 =>
    intro v3 w3 ho3 hg3 _ hb3 _
    obtain ⟨A3, c3, rfl, _⟩ := ho3.form
    have O3 := Lib.hid (show Own w3 W1.heap.size 100 encN (.slice A3 r1.length c3) r1 from ho3)
    have k3 := KK2.out.below hb3
    have c3' := blk_cell k3
    have z3' := lt_of_block k3
    have U2 := Lib.hid (T2.out.keep (B' := w3.heap.size) hb3.size fun p hp => hb3.cell hp)
    have HB3 := Lib.hid hb3
    have s3 := hb3.size
    clear ho3 hg3 hb3 k3 c1' z1'
    go_wp2_with ((at_builtin; refine wpList_app tyN rfl _ _ rfl encN W1.heap.size (.slice A3 r1.length c3) r1 rfl O3.out A2 cap2 r2 _ (by go_simp) U2.out ?c1 ?c2 ?c3 ?c4))
    case c1 => omega
    case c2 => simp only [maxLen]; omega
    case c3 => exact s3
    case c4 =>
      intro v4 w4 ho4 hg4 _ hb4 _
      obtain ⟨L, hL⟩ : ∃ L, L = r1 ++ r2 := ⟨_, rfl⟩
      have hLl : L.length ≤ 134217728 := by rw [hL, List.length_append]; omega
      have hg : gapE u1 r1 r2 = 0 :: edgeL u1 L := by rw [hL]; rfl
      rw [← hL] at ho4 HX
      have HG := Lib.hid hg
      obtain ⟨A4, c4, rfl, _⟩ := ho4.form
      have BB := HB3.out.trans hb4
      have O4 := Lib.hid ho4
      have OO4 := Lib.hid (O0.out.below BB)
      have HB4 := Lib.hid ((HBA.out.trans (BB.mono HBA.out.size)))
      have K4 := Lib.hid (KK1.out.below BB)
      have s4 := BB.size
      have s04 : W0.heap.size < w4.heap.size := by have := HS01.out; omega
      clear ho4 hb4 hL hg BB T1 T2 U2 c3' z3' hg4
      have O4 := Lib.hid (O4.out.base_le (b := W0.heap.size + 1) (by have := HS01.out; omega))
      go_wp2_with fail
      go_loopw [5, 7] (fun o i wr => ∃ q : Nat, q ≤ L.length ∧ i = .int .i64 q ∧ Own wr W0.heap.size 3 encZ o (0 :: edgeL u1 (L.take q)) ∧ Own wr (W0.heap.size + 1) 100 encN (.slice A4 L.length c4) L ∧ Below W0.heap.size W0 wr ∧ W0.heap.size < wr.heap.size) (fun _ i _ => L.length - (intOf i).toNat)
      case atStart => exact ⟨0, Nat.zero_le _, rfl, OO4.out, O4.out, HB4.out, s04⟩
      case round =>
        obtain ⟨q, hq, rfl, ho, hall, hB, hs⟩ := hrel
        have HO := Lib.hid ho
        have HALL := Lib.hid hall
        have kb := K1.out.below hB
        have cb := blk_cell kb
        have zb := lt_of_block kb
        have HB := Lib.hid hB
        have hlen : (0 :: edgeL u1 (L.take q)).length = 2 * q + 1 := by rw [List.length_cons, edgeL_len, List.length_take, Nat.min_eq_left hq]
        clear ho kb
        by_cases hlt : q < L.length
        · obtain ⟨c, off, rfl, hc, hcl⟩ := hall.sl.at_ hlt
          have d0 := hcl 0 (.int .i64 L[q].1) rfl
          simp only [Nat.add_zero] at d0
          have hx := HX.out _ (List.getElem_mem hlt)
          have E1 := Lib.hid (show 0 :: edgeL u1 (L.take (q + 1)) = (0 :: edgeL u1 (L.take q)) ++ [(endsOf u1 L[q].1).1, (endsOf u1 L[q].1).2.1] by rw [edgeL_take u1 L hlt]; rfl)
          obtain ⟨D, hD⟩ : ∃ D, D = 0 :: edgeL u1 (L.take q) := ⟨_, rfl⟩
          rw [← hD] at HO hlen E1
          obtain ⟨y, hy⟩ : ∃ y, y = L[q].1 := ⟨_, rfl⟩
          rw [← hy] at d0 hx E1
          have HEy := Lib.hid (HE.out · y hx)
          generalize endsOf u1 y = t at HEy E1
          obtain ⟨t1, t2, t3⟩ := t
          unfold endsV at HEy
          clear hcl hy hall hx hB hD
          go_wp2_with fail
          refine wp_region_ext (by kernel_rfl) (by kernel_rfl) ?_
          repeat (go_big_quiet_step (first | (go_at_call 57; exact quiet_ext (HEy.out _))))
          refine wpQuiet_nil ?_
          intro w5 hb5
          replace hb5 := below_of_ext hb5
          have s5 := hb5.size
          obtain ⟨A6, c6, rfl, _⟩ := HO.out.form
          have O5 := Lib.hid (HO.out.below hb5)
          have ALL5 := Lib.hid (HALL.out.below hb5)
          have HB5 := Lib.hid (HB.out.trans (hb5.mono HB.out.size))
          have HDl := Lib.hid hlen
          clear hb5 hlen
          go_wp2_with ((at_builtin; refine wpList_pushes tyZ rfl _ _ rfl encZ w5 W0.heap.size (.slice A6 D.length c6) D rfl O5.out [t1, t2] 2 rfl (by go_simp) rfl ?c1 ?c2 ?c3 ?c4))
          case c1 => have := HDl.out; simp only [List.length_cons, List.length_nil]; omega
          case c2 => have := HDl.out; simp only [maxLen, List.length_cons, List.length_nil]; omega
          case c3 => exact HB5.out.size
          case c4 =>
            intro v7 w7 ho7 hg7 hlt7 hlies hb7 _
            have O7 := Lib.hid (show Own w7 W0.heap.size 3 encZ v7 (0 :: edgeL u1 (L.take (q + 1))) by rw [E1.out]; exact ho7)
            have A7 := Lib.hid (ALL5.out.kept hg7 (own_ne ALL5.out O5.out (by decide)))
            have B7 := Lib.hid (HB5.out.trans hb7)
            clear ho7 hg7 hlies hb7
            go_wp2_with fail
            go_roundw
            case rel => exact ⟨q + 1, by omega, by go_num, O7.out, A7.out, B7.out, by omega⟩
            case measure => simp [intOf]; omega
        · obtain rfl : q = L.length := by omega
          rw [List.take_length] at HO
          obtain ⟨A6, c6, rfl, _⟩ := HO.out.form
          go_wp2_with fail
          go_ret
          exact ⟨_, rfl, by rw [HG.out]; exact HO.out.base_le B0.size, B0.trans (HB.out.mono B0.size)⟩
end Go.Proofs.YtpngailmhdiiiaaGreat
/- The reference of layer 21 (gap): Apart. -/
namespace Go.Proofs.YtpngailmhdiiiaaGreat
open Go.ChangeShapes Go.WideShapes Go.ChangeAt Go.RowKit
set_option linter.unusedVariables false
set_option linter.unusedSimpArgs false
set_option maxRecDepth 100000

theorem own_at {w : World} {base : Nat} {A : Option Addr} {n cap : Nat} {l : List Int} (h : Own w base 3 encZ (.slice A n cap) l) {k : Nat} (hk : k < l.length) : ∃ b off, A = some ⟨b, off, none⟩ ∧ b < w.heap.size ∧ w.cell? ⟨b, off + k, none⟩ = some (.int .i64 l[k]) := by
  obtain ⟨b, off, hA, hb, hc⟩ := h.sl.at_ hk
  refine ⟨b, off, hA, hb, ?_⟩
  have := hc 0 (.int .i64 l[k]) rfl
  simpa using this
set_option maxHeartbeats 4000000 in
theorem ref21_Apart (w : World) (k1 k2 : Int) (l1 l2 : Nat) (A1 A2 : Option Addr) (cap1 cap2 : Nat) (r1 r2 : List Nd) (h1 : l1 ≤ 48) (h2 : l2 ≤ 48) (hS1 : Sl w w.heap.size encN A1 r1) (hS2 : Sl w w.heap.size encN A2 r2) (hI1 : ints r1) (hI2 : ints r2) (m1 : r1.length ≤ 67108864) (m2 : r2.length ≤ 67108864)
    (f1 : Fits l1 r1) (f2 : Fits l2 r2) (t1 : (totalOf r1).1 = sumR r1) (t2 : (totalOf r2).1 = sumR r2) :
    Calls Tryz.prog 39 #[.agg #[.int .i64 k1, .int .i64 l1, .slice A1 r1.length cap1], .agg #[.int .i64 k2, .int .i64 l2, .slice A2 r2.length cap2]] w fun e w' => e = .returned (.tuple #[.int .i64 (apT l1 l2 r1 r2).1, .int .i64 (apT l1 l2 r1 r2).2, .int .i64 (gapErr l1 l2 r1 r2)]) ∧ Below w.heap.size w w' := by
  have B0 := twoBox_below w k1 l1 A1 r1.length cap1 k2 l2 A2 r2.length cap2
  have S1 := Lib.hid (hS1.keep (B' := (twoBox w k1 l1 A1 r1.length cap1 k2 l2 A2 r2.length cap2).heap.size) B0.size fun p hp => B0.cell hp)
  have S2 := Lib.hid (hS2.keep (B' := (twoBox w k1 l1 A1 r1.length cap1 k2 l2 A2 r2.length cap2).heap.size) B0.size fun p hp => B0.cell hp)
  have HW := Lib.hid (fun (W : World) (a : Sl W W.heap.size encN A1 r1) (b : Sl W W.heap.size encN A2 r2) => ref21_wrong W k1 k2 l1 l2 A1 A2 cap1 cap2 r1 r2 h1 h2 a b hI1 hI2 m1 m2 t1 t2)
  have HN := Lib.hid (fun (W : World) (a : Sl W W.heap.size encN A1 r1) (b : Sl W W.heap.size encN A2 r2) => ref21_ends W k1 k2 l1 l2 A1 A2 cap1 cap2 r1 r2 a b hI1 hI2 m1 m2)
  have HT := Lib.hid (fun (x : Int) (W : World) (a : Sl W W.heap.size encN A1 r1) (b : Sl W W.heap.size encN A2 r2) => ref21_at W k1 k2 l1 l2 A1 A2 cap1 cap2 r1 r2 x a b hI1 hI2 m1 m2 f1.roll f2.roll f1.sum f2.sum t1 t2)
  have K1 := Lib.hid (twoBox_1 w k1 l1 A1 r1.length cap1 k2 l2 A2 r2.length cap2)
  have K2 := Lib.hid (twoBox_2 w k1 l1 A1 r1.length cap1 k2 l2 A2 r2.length cap2)
  clear hS1 hS2 hI1 hI2 t1 t2 f1 f2 B0
  by_cases he : gapErr l1 l2 r1 r2 = 0
  · have hll := gapErr_ok he
    obtain rfl : l1 = l2 := by omega
    have hs : apT l1 l1 r1 r2 = apFold (sideOf l1 r1 r2) (gapE l1 r1 r2) := by unfold apT; rw [if_pos he]
    rw [he] at HW
    rw [he, hs]
    have HF : Hid (∀ (x : Int) (W : World), Sl W W.heap.size encN A1 r1 → Sl W W.heap.size encN A2 r2 → Calls Tryz.prog 89 #[.agg #[.int .i64 k1, .int .i64 l1, .slice A1 r1.length cap1], .agg #[.int .i64 k2, .int .i64 l1, .slice A2 r2.length cap2], .int .i64 x] W fun e w' => e = .returned (.int .i64 (sideOf l1 r1 r2 x)) ∧ Below W.heap.size W w') := HT
    have hlen := gapE_len l1 r1 r2
    obtain ⟨f, hf⟩ : ∃ f, f = sideOf l1 r1 r2 := ⟨_, rfl⟩
    obtain ⟨L, hL⟩ : ∃ L, L = gapE l1 r1 r2 := ⟨_, rfl⟩
    rw [← hf] at HF ⊢
    rw [← hL] at HN hlen ⊢
    have hL64 : L.length ≤ 268435457 := by omega
    clear he hs hll HT hf hL hlen
    go_enter Tryz.func39, Tryz.ntmps39
    go_wp2_with fail
    refine (HW.out _ S1.out S2.out).mono ?_
    rintro e w1 ⟨rfl, hb1⟩
    have B1 : Below w.heap.size w w1 := Below.then_ (by repeat (first | with_reducible exact Below.refl _ _ | with_reducible assumption | ((with_reducible refine Below.setCell ?_ ?_ _); rotate_left; · (first | omega | exact Nat.le_refl _ | (simp <;> omega))) | (with_reducible refine Below.allocW ?_ _) | (with_reducible refine Below.drew ?_) | (with_reducible refine Below.extW ?_ _))) hb1
    have s1 : w.heap.size ≤ w1.heap.size := B1.size
    have z1_0 : w.heap.size < w1.heap.size := by have := hb1.size; (try simp at this); omega
    have y1_0 : w.heap.size ≤ w1.heap.size := Nat.le_of_lt z1_0
    have c1_0 := fun o => hb1.cell (p := ⟨w.heap.size, o, none⟩) (by first | omega | (simp <;> omega))
    have f1_0 := fun o => hb1.frozen (p := ⟨w.heap.size, o, none⟩) (by first | omega | (simp <;> omega))
    have z1_1 : w.heap.size + 1 < w1.heap.size := by have := hb1.size; (try simp at this); omega
    have y1_1 : w.heap.size + 1 ≤ w1.heap.size := Nat.le_of_lt z1_1
    have c1_1 := fun o => hb1.cell (p := ⟨w.heap.size + 1, o, none⟩) (by first | omega | (simp <;> omega))
    have f1_1 := fun o => hb1.frozen (p := ⟨w.heap.size + 1, o, none⟩) (by first | omega | (simp <;> omega))
    have T1 := Lib.hid (S1.out.keep (B' := w1.heap.size) hb1.size fun p hp => hb1.cell hp)
    have T2 := Lib.hid (S2.out.keep (B' := w1.heap.size) hb1.size fun p hp => hb1.cell hp)
    have J1 := Lib.hid (K1.out.below hb1)
    have J2 := Lib.hid (K2.out.below hb1)
    go_wp2_with fail
    refine (HN.out _ T1.out T2.out).mono ?_
    rintro e w2 ⟨v, rfl, ho, hb2⟩
    have B2 : Below w.heap.size w w2 := B1.trans (hb2.mono s1)
    have U1 := Lib.hid (T1.out.keep (B' := w2.heap.size) hb2.size fun p hp => hb2.cell hp)
    have U2 := Lib.hid (T2.out.keep (B' := w2.heap.size) hb2.size fun p hp => hb2.cell hp)
    have L1 := Lib.hid (J1.out.below hb2)
    have L2 := Lib.hid (J2.out.below hb2)
    obtain ⟨A5, c5, rfl, _⟩ := ho.form
    have HO := Lib.hid ho
    have HB2 := Lib.hid B2
    have s2 := B2.size
    clear ho hb1 hb2 B1 z1_0 y1_0 c1_0 f1_0 z1_1 y1_1 c1_1 f1_1 T1 T2 J1 J2 S1 S2 K1 K2 HW HN B2
    go_wp2_with fail
    go_loopw [8, 9, 11] (fun x s i wr => ∃ q : Nat, q ≤ L.length ∧ i = .int .i64 q ∧ x = .int .i64 (apFold f (L.take q)).1 ∧ s = .int .i64 (apFold f (L.take q)).2 ∧ Below w2.heap.size w2 wr) (fun _ _ i _ => L.length - (intOf i).toNat)
    case atStart => exact ⟨0, Nat.zero_le _, rfl, rfl, rfl, Below.refl _ _⟩
    case round =>
      obtain ⟨q, hq, rfl, rfl, rfl, hB⟩ := hrel
      have hsz := hB.size
      have k1' := L1.out.below hB
      have k2' := L2.out.below hB
      have e1 := blk_cell k1'
      have e2 := blk_cell k2'
      have y1 := lt_of_block k1'
      have y2 := lt_of_block k2'
      have V1 := Lib.hid (U1.out.keep (B' := wr.heap.size) hB.size fun p hp => hB.cell hp)
      have V2 := Lib.hid (U2.out.keep (B' := wr.heap.size) hB.size fun p hp => hB.cell hp)
      have KO := Lib.hid (HO.out.below hB)
      have HB := Lib.hid hB
      have KK1 := Lib.hid k1'
      have KK2 := Lib.hid k2'
      by_cases hlt : q < L.length
      · obtain ⟨b, off, rfl, hb, d0⟩ := own_at KO.out hlt
        have i1 : (q : Int) < (L.length : Int) := by omega
        have E := Lib.hid (apFold_succ (f := f) hlt)
        have HX := Lib.hid (HF.out L[q])
        have hstep : ∀ a : Int × Int, apStep f a L[q] = if f L[q] ≠ 0 ∧ (a.2 = 0 ∨ L[q] < a.1) then (L[q], f L[q]) else a := fun a => rfl
        have HS := Lib.hid (hstep (apFold f (L.take q)))
        obtain ⟨y, hy⟩ : ∃ y, y = L[q] := ⟨_, rfl⟩
        rw [← hy] at d0 E HX HS
        rw [HS.out] at E
        generalize f y = n at E HX
        generalize apFold f (L.take q) = a at E ⊢
        obtain ⟨a1, a2⟩ := a
        simp only at E ⊢
        clear hstep HS hy k1' k2' hB
        have hway : (n = 0 ∧ apFold f (L.take (q + 1)) = (a1, a2)) ∨ ((n == 0) = false ∧ a2 = 0 ∧ apFold f (L.take (q + 1)) = (y, n)) ∨ ((n == 0) = false ∧ (a2 == 0) = false ∧ y < a1 ∧ apFold f (L.take (q + 1)) = (y, n)) ∨ ((n == 0) = false ∧ (a2 == 0) = false ∧ decide (y < a1) = false ∧ apFold f (L.take (q + 1)) = (a1, a2)) := by
          have E := E.out
          by_cases c1 : n = 0
          · exact .inl ⟨c1, by rw [E, if_neg (fun h => h.1 c1)]⟩
          · have c1' : (n == 0) = false := by simpa using c1
            by_cases c2 : a2 = 0
            · exact .inr (.inl ⟨c1', c2, by rw [E, if_pos ⟨c1, .inl c2⟩]⟩)
            · have c2' : (a2 == 0) = false := by simpa using c2
              by_cases c3 : y < a1
              · exact .inr (.inr (.inl ⟨c1', c2', c3, by rw [E, if_pos ⟨c1, .inr c3⟩]⟩))
              · exact .inr (.inr (.inr ⟨c1', c2', by simpa using c3, by rw [E, if_neg (fun h => h.2.elim c2 c3)]⟩))
        clear E
        rcases hway with ⟨c1, E⟩ | ⟨c1, c2, E⟩ | ⟨c1, c2, c3, E⟩ | ⟨c1, c2, c3, E⟩
        all_goals (
          (try subst c1)
          (try subst c2)
          (try have c1b : (n != 0) = true := by simpa using c1)
          (try have c1c : ¬ n = 0 := by simpa using c1)
          have EE := Lib.hid E
          clear E
          go_wp2_with fail
          refine wp_region_ext (by kernel_rfl) (by kernel_rfl) ?_
          repeat (go_big_quiet_step (first | (go_at_call 89; exact quiet_ext (HX.out _ (SlU.ext V1.out _) (SlU.ext V2.out _)))))
          refine wpQuiet_nil ?_
          intro w5 hb5
          replace hb5 := below_of_ext hb5
          have d5 := (hb5.cell (p := ⟨b, off + q, none⟩) hb).trans d0
          have z5 : b < w5.heap.size := by have := hb5.size; omega
          have HB5 := Lib.hid (HB.out.trans (hb5.mono HB.out.size))
          clear hb5
          go_wp2_with fail
          go_roundw
          case rel => exact ⟨q + 1, by omega, by go_num, by rw [EE.out], by rw [EE.out], HB5.out⟩
          case measure => simp [intOf]; omega)
      · obtain rfl : q = L.length := by omega
        rw [List.take_length]
        go_wp2_with fail
        exact bodyPost_ret (v := .tuple #[.int .i64 (apFold f L).1, .int .i64 (apFold f L).2, .int .i64 0]) (by simp only [results, Tryz.results39]; go_simp) rfl ⟨rfl, HB2.out.trans (hB.mono s2)⟩
  · have hs : apT l1 l2 r1 r2 = (0, 0) := by unfold apT; rw [if_neg he]
    rw [hs]
    have hne : (gapErr l1 l2 r1 r2 == 0) = false := by simpa using he
    clear hs he
    generalize gapErr l1 l2 r1 r2 = er at HW hne
    go_enter Tryz.func39, Tryz.ntmps39
    go_wp2_with fail
    refine (HW.out _ S1.out S2.out).mono ?_
    rintro e w1 ⟨rfl, hb1⟩
    have B1 : Below w.heap.size w w1 := Below.then_ (by repeat (first | with_reducible exact Below.refl _ _ | with_reducible assumption | ((with_reducible refine Below.setCell ?_ ?_ _); rotate_left; · (first | omega | exact Nat.le_refl _ | (simp <;> omega))) | (with_reducible refine Below.allocW ?_ _) | (with_reducible refine Below.drew ?_) | (with_reducible refine Below.extW ?_ _))) hb1
    have s1 : w.heap.size ≤ w1.heap.size := B1.size
    go_wp2_with fail
    exact bodyPost_ret (v := .tuple #[.int .i64 0, .int .i64 0, .int .i64 er]) (by simp only [results, Tryz.results39]; go_simp) rfl ⟨rfl, B1⟩
end Go.Proofs.YtpngailmhdiiiaaGreat
/- The reference of layer 21 (gap): Most. -/
namespace Go.Proofs.YtpngailmhdiiiaaGreat
open Go.ChangeShapes Go.WideShapes Go.ChangeAt Go.RowKit
set_option linter.unusedVariables false
set_option linter.unusedSimpArgs false
set_option maxRecDepth 100000

/-- The boxes of two records, and of a result. -/
structure Box3 (w W : World) (k1 u1 : Int) (A1 : Option Addr) (n1 cap1 : Nat) (k2 u2 : Int) (A2 : Option Addr) (n2 cap2 : Nat) : Prop where
  a : digBox W w.heap.size k1 u1 A1 n1 cap1
  b : digBox W (w.heap.size + 1) k2 u2 A2 n2 cap2
  r : bothAt W (w.heap.size + 1 + 1) 0 0
  blw : Below w.heap.size w W
theorem Box3.new (w : World) (k1 u1 : Int) (A1 : Option Addr) (n1 cap1 : Nat) (k2 u2 : Int) (A2 : Option Addr) (n2 cap2 : Nat) : Box3 w ((twoBox w k1 u1 A1 n1 cap1 k2 u2 A2 n2 cap2).alloc (.cells #[.int .i64 0, .int .i64 0] 29)) k1 u1 A1 n1 cap1 k2 u2 A2 n2 cap2 :=
  ⟨(twoBox_1 w k1 u1 A1 n1 cap1 k2 u2 A2 n2 cap2).below ((Below.refl _ _).alloc (Nat.le_refl _) _), (twoBox_2 w k1 u1 A1 n1 cap1 k2 u2 A2 n2 cap2).below ((Below.refl _ _).alloc (Nat.le_refl _) _), heap_new_at (twoBox w k1 u1 A1 n1 cap1 k2 u2 A2 n2 cap2) _ _ (by simp), (twoBox_below w k1 u1 A1 n1 cap1 k2 u2 A2 n2 cap2).alloc (twoBox_below w k1 u1 A1 n1 cap1 k2 u2 A2 n2 cap2).size _⟩
theorem Box3.below {w W W' : World} {k1 u1 : Int} {A1 : Option Addr} {n1 cap1 : Nat} {k2 u2 : Int} {A2 : Option Addr} {n2 cap2 : Nat} (h : Box3 w W k1 u1 A1 n1 cap1 k2 u2 A2 n2 cap2) (hb : Below W.heap.size W W') : Box3 w W' k1 u1 A1 n1 cap1 k2 u2 A2 n2 cap2 :=
  ⟨h.a.below hb, h.b.below hb, h.r.below hb, h.blw.trans (hb.mono h.blw.size)⟩
theorem gt_or (a b : Int) : (a < b ∧ max a b = b) ∨ (decide (a < b) = false ∧ max a b = a) := by
  by_cases h : a < b
  · exact .inl ⟨h, by omega⟩
  · exact .inr ⟨by simpa using h, by omega⟩
theorem ref21_Most_no (w : World) (k1 k2 : Int) (l1 l2 : Nat) (A1 A2 : Option Addr) (cap1 cap2 : Nat) (r1 r2 : List Nd) (d : Int) (h1 : l1 ≤ 48) (h2 : l2 ≤ 48) (hS1 : Sl w w.heap.size encN A1 r1) (hS2 : Sl w w.heap.size encN A2 r2) (hI1 : ints r1) (hI2 : ints r2) (m1 : r1.length ≤ 67108864) (m2 : r2.length ≤ 67108864)
    (t1 : (totalOf r1).1 = sumR r1) (t2 : (totalOf r2).1 = sumR r2) (he : gapMostErr l1 l2 r1 r2 d ≠ 0) :
    Calls Tryz.prog 41 #[.agg #[.int .i64 k1, .int .i64 l1, .slice A1 r1.length cap1], .agg #[.int .i64 k2, .int .i64 l2, .slice A2 r2.length cap2], .int .i64 d] w fun e w' => e = .returned (.tuple #[.agg #[.int .i64 (gapMostT l1 l2 r1 r2 d).1, .int .i64 (gapMostT l1 l2 r1 r2 d).2], .int .i64 (gapMostErr l1 l2 r1 r2 d)]) ∧ Below w.heap.size w w' := by
  have hs : gapMostT l1 l2 r1 r2 d = (0, 0) := by unfold gapMostT; rw [if_neg he]
  rw [hs]
  have HX := Lib.hid (Box3.new w k1 l1 A1 r1.length cap1 k2 l2 A2 r2.length cap2)
  have HW := Lib.hid (fun (W : World) (a : Sl W W.heap.size encN A1 r1) (b : Sl W W.heap.size encN A2 r2) => ref21_wrong W k1 k2 l1 l2 A1 A2 cap1 cap2 r1 r2 h1 h2 a b hI1 hI2 m1 m2 t1 t2)
  have HS := Lib.hid (And.intro hS1 hS2)
  have hcase : (∃ er : Int, gapErr l1 l2 r1 r2 = er ∧ ¬ er = 0 ∧ gapMostErr l1 l2 r1 r2 d = er) ∨ (gapErr l1 l2 r1 r2 = 0 ∧ d < 1 ∧ gapMostErr l1 l2 r1 r2 d = 2) := by
    unfold gapMostErr at he ⊢
    by_cases c1 : gapErr l1 l2 r1 r2 = 0
    · rw [if_pos c1] at he ⊢
      by_cases c2 : d < 1
      · exact .inr ⟨c1, c2, by rw [if_pos c2]⟩
      · rw [if_neg c2] at he; exact absurd rfl he
    · rw [if_neg c1]
      exact .inl ⟨_, rfl, c1, rfl⟩
  clear hs he hS1 hS2 hI1 hI2 t1 t2
  rcases hcase with ⟨er, f1, f2, f3⟩ | ⟨f1, f2, f3⟩
  · rw [f1] at HW
    rw [f3]
    have hne : (er == 0) = false := by simpa using f2
    have hne2 : (er != 0) = true := by simpa using f2
    clear f1 f3
    go_enter Tryz.func41, Tryz.ntmps41
    go_upto_region 1 with fail
    change Code.wp _ _ _ _ ((twoBox w k1 l1 A1 r1.length cap1 k2 l2 A2 r2.length cap2).alloc (.cells #[.int .i64 0, .int .i64 0] 29))
    generalize (twoBox w k1 l1 A1 r1.length cap1 k2 l2 A2 r2.length cap2).alloc (.cells #[.int .i64 0, .int .i64 0] 29) = W0 at HX ⊢
    have ca := blk_cell HX.out.a
    have cb := blk_cell HX.out.b
    have za := lt_of_block HX.out.a
    have zb := lt_of_block HX.out.b
    have B0 := HX.out.blw
    go_wp2_with fail
    refine (HW.out _ (HS.out.1.keep B0.size fun p hp => B0.cell hp) (HS.out.2.keep B0.size fun p hp => B0.cell hp)).mono ?_
    rintro e w1 ⟨rfl, hb1⟩
    have X1 := Lib.hid (HX.out.below hb1)
    have cr := blk_cell X1.out.r
    have fr := blk_frozen X1.out.r
    have zr := lt_of_block X1.out.r
    have R2 := Lib.hid ((X1.out.r.set0 0).set1 0)
    have B2 := Lib.hid ((X1.out.blw.setCell (p := ⟨w.heap.size + 1 + 1, 0, none⟩) (by simp; omega) (.int .i64 0)).setCell (p := ⟨w.heap.size + 1 + 1, 1, none⟩) (by simp; omega) (.int .i64 0))
    clear hb1 ca cb za zb B0
    go_wp2_with fail
    generalize (w1.setCell ⟨w.heap.size + 1 + 1, 0, none⟩ (.int .i64 0)).setCell ⟨w.heap.size + 1 + 1, 1, none⟩ (.int .i64 0) = W2 at R2 B2 ⊢
    have d0 := blk_cell R2.out 0
    have d1 := blk_cell R2.out 1
    exact bodyPost_ret (v := .tuple #[.agg #[.int .i64 0, .int .i64 0], .int .i64 er]) (by simp only [results, Tryz.results41]; go_simp) rfl ⟨rfl, B2.out⟩
  · rw [f1] at HW
    rw [f3]
    clear f1 f3
    go_enter Tryz.func41, Tryz.ntmps41
    go_upto_region 1 with fail
    change Code.wp _ _ _ _ ((twoBox w k1 l1 A1 r1.length cap1 k2 l2 A2 r2.length cap2).alloc (.cells #[.int .i64 0, .int .i64 0] 29))
    generalize (twoBox w k1 l1 A1 r1.length cap1 k2 l2 A2 r2.length cap2).alloc (.cells #[.int .i64 0, .int .i64 0] 29) = W0 at HX ⊢
    have ca := blk_cell HX.out.a
    have cb := blk_cell HX.out.b
    have za := lt_of_block HX.out.a
    have zb := lt_of_block HX.out.b
    have B0 := HX.out.blw
    go_wp2_with fail
    refine (HW.out _ (HS.out.1.keep B0.size fun p hp => B0.cell hp) (HS.out.2.keep B0.size fun p hp => B0.cell hp)).mono ?_
    rintro e w1 ⟨rfl, hb1⟩
    have X1 := Lib.hid (HX.out.below hb1)
    have cr := blk_cell X1.out.r
    have fr := blk_frozen X1.out.r
    have zr := lt_of_block X1.out.r
    have R2 := Lib.hid ((X1.out.r.set0 0).set1 0)
    have B2 := Lib.hid ((X1.out.blw.setCell (p := ⟨w.heap.size + 1 + 1, 0, none⟩) (by simp; omega) (.int .i64 0)).setCell (p := ⟨w.heap.size + 1 + 1, 1, none⟩) (by simp; omega) (.int .i64 0))
    clear hb1 ca cb za zb B0
    go_wp2_with fail
    generalize (w1.setCell ⟨w.heap.size + 1 + 1, 0, none⟩ (.int .i64 0)).setCell ⟨w.heap.size + 1 + 1, 1, none⟩ (.int .i64 0) = W2 at R2 B2 ⊢
    have d0 := blk_cell R2.out 0
    have d1 := blk_cell R2.out 1
    exact bodyPost_ret (v := .tuple #[.agg #[.int .i64 0, .int .i64 0], .int .i64 2]) (by simp only [results, Tryz.results41]; go_simp) rfl ⟨rfl, B2.out⟩
set_option maxHeartbeats 8000000 in
theorem ref21_Most_yes (w : World) (k1 k2 : Int) (l d : Nat) (A1 A2 : Option Addr) (cap1 cap2 : Nat) (r1 r2 : List Nd) (h1 : l ≤ 48) (hS1 : Sl w w.heap.size encN A1 r1) (hS2 : Sl w w.heap.size encN A2 r2) (hI1 : ints r1) (hI2 : ints r2) (m1 : r1.length ≤ 67108864) (m2 : r2.length ≤ 67108864)
    (f1 : Fits l r1) (f2 : Fits l r2) (t1 : (totalOf r1).1 = sumR r1) (t2 : (totalOf r2).1 = sumR r2) (he : gapErr l l r1 r2 = 0) (hd : 1 ≤ d) (hd2 : d ≤ 9223372036854775807) :
    Calls Tryz.prog 41 #[.agg #[.int .i64 k1, .int .i64 l, .slice A1 r1.length cap1], .agg #[.int .i64 k2, .int .i64 l, .slice A2 r2.length cap2], .int .i64 d] w fun e w' => e = .returned (.tuple #[.agg #[.int .i64 (gapFold l d r1 r2 (gapE l r1 r2)).1, .int .i64 (gapFold l d r1 r2 (gapE l r1 r2)).2], .int .i64 0]) ∧ Below w.heap.size w w' := by
  have hsum : 1 ≤ sumR r1 ∧ 1 ≤ sumR r2 := by
    have n1 := sumR_nonneg f1.roll
    have n2 := sumR_nonneg f2.roll
    unfold gapErr at he
    rw [if_neg (not_not_intro rfl)] at he
    by_cases c : sumR r1 = 0 ∨ sumR r2 = 0
    · rw [if_pos c] at he; cases he
    · omega
  have HX := Lib.hid (Box3.new w k1 l A1 r1.length cap1 k2 l A2 r2.length cap2)
  have HW := Lib.hid (fun (W : World) (a : Sl W W.heap.size encN A1 r1) (b : Sl W W.heap.size encN A2 r2) => ref21_wrong W k1 k2 l l A1 A2 cap1 cap2 r1 r2 h1 h1 a b hI1 hI2 m1 m2 t1 t2)
  rw [he] at HW
  have HN := Lib.hid (fun (W : World) (a : Sl W W.heap.size encN A1 r1) (b : Sl W W.heap.size encN A2 r2) => ref21_ends W k1 k2 l l A1 A2 cap1 cap2 r1 r2 a b hI1 hI2 m1 m2)
  have HP1 := Lib.hid (fun (x : Int) (W : World) (a : Sl W W.heap.size encN A1 r1) => ref21_parts W k1 l A1 cap1 r1 x d a hI1 m1 f1.roll f1.sum t1 hsum.1 hd2)
  have HP2 := Lib.hid (fun (x : Int) (W : World) (a : Sl W W.heap.size encN A2 r2) => ref21_parts W k2 l A2 cap2 r2 x d a hI2 m2 f2.roll f2.sum t2 hsum.2 hd2)
  have HPR := Lib.hid (fun x => And.intro (parts_range (d := d) hsum.1 (low_range (l := l) f1.roll x) (high_range' (l := l) f1.roll x)) (parts_range (d := d) hsum.2 (low_range (l := l) f2.roll x) (high_range' (l := l) f2.roll x)))
  have HS := Lib.hid (And.intro hS1 hS2)
  have hd1 : decide ((d : Int) < 1) = false := by simp; omega
  have hlen := gapE_len l r1 r2
  have hL64 : (gapE l r1 r2).length ≤ 268435457 := by omega
  obtain ⟨L, hL⟩ : ∃ L, L = gapE l r1 r2 := ⟨_, rfl⟩
  rw [← hL] at HN hL64 ⊢
  clear he hS1 hS2 hI1 hI2 t1 t2 f1 f2 hsum hlen hL
  go_enter Tryz.func41, Tryz.ntmps41
  go_upto_region 1 with fail
  change Code.wp _ _ _ _ ((twoBox w k1 l A1 r1.length cap1 k2 l A2 r2.length cap2).alloc (.cells #[.int .i64 0, .int .i64 0] 29))
  generalize (twoBox w k1 l A1 r1.length cap1 k2 l A2 r2.length cap2).alloc (.cells #[.int .i64 0, .int .i64 0] 29) = W0 at HX ⊢
  have ca := blk_cell HX.out.a
  have cb := blk_cell HX.out.b
  have za := lt_of_block HX.out.a
  have zb := lt_of_block HX.out.b
  have B0 := HX.out.blw
  have S1 := Lib.hid (HS.out.1.keep (B' := W0.heap.size) B0.size fun p hp => B0.cell hp)
  have S2 := Lib.hid (HS.out.2.keep (B' := W0.heap.size) B0.size fun p hp => B0.cell hp)
  go_wp2_with fail
  refine (HW.out _ S1.out S2.out).mono ?_
  rintro e w1 ⟨rfl, hb1⟩
  have X1 := Lib.hid (HX.out.below (hb1.alloc hb1.size (.cells #[.int .i64 0, .int .i64 0] 29)))
  have S3 := Lib.hid (SlU.alloc (S1.out.keep (B' := w1.heap.size) hb1.size fun p hp => hb1.cell hp) (.cells #[.int .i64 0, .int .i64 0] 29))
  have S4 := Lib.hid (SlU.alloc (S2.out.keep (B' := w1.heap.size) hb1.size fun p hp => hb1.cell hp) (.cells #[.int .i64 0, .int .i64 0] 29))
  have ca := blk_cell X1.out.a
  have cb := blk_cell X1.out.b
  have za := lt_of_block X1.out.a
  have zb := lt_of_block X1.out.b
  have KO := Lib.hid (bothAt.new w1 0 0)
  have HB1 := Lib.hid (hb1.alloc hb1.size (.cells #[.int .i64 0, .int .i64 0] 29))
  have s1 := hb1.size
  clear hb1 HW B0 HS
  go_upto_region 7 with fail
  generalize hV : w1.alloc (.cells #[.int .i64 0, .int .i64 0] 29) = V1 at X1 S3 S4 KO HB1 ca cb za zb ⊢
  have sV : w1.heap.size < V1.heap.size := lt_of_block KO.out
  clear hV
  go_wp2_with fail
  refine (HN.out _ S3.out S4.out).mono ?_
  rintro e w2 ⟨v, rfl, ho, hb2⟩
  obtain ⟨A5, c5, rfl, _⟩ := ho.form
  have HO2 := Lib.hid ho
  have KO2 := Lib.hid (KO.out.below hb2)
  have BW := Lib.hid (HB1.out.trans (hb2.mono HB1.out.size))
  clear ho hb2 HN S3 S4 KO HB1 ca cb za zb X1
  go_wp2_with fail
  go_loopw [11] (fun i wr => ∃ q : Nat, q ≤ L.length ∧ i = .int .i64 q ∧ bothAt wr w1.heap.size (gapFold l d r1 r2 (L.take q)).1 (gapFold l d r1 r2 (L.take q)).2 ∧ Own wr V1.heap.size 3 encZ (.slice A5 L.length c5) L ∧ Below W0.heap.size W0 wr) (fun i _ => L.length - (intOf i).toNat)
  case atStart => exact ⟨0, Nat.zero_le _, rfl, KO2.out, HO2.out, BW.out⟩
  case round =>
    obtain ⟨q, hq, rfl, hO, hown, hB⟩ := hrel
    have X := HX.out.below hB
    have HXX := Lib.hid X
    have ca := blk_cell X.a
    have cb := blk_cell X.b
    have za := lt_of_block X.a
    have zb := lt_of_block X.b
    have T1 := Lib.hid (S1.out.keep (B' := wr.heap.size) hB.size fun p hp => hB.cell hp)
    have T2 := Lib.hid (S2.out.keep (B' := wr.heap.size) hB.size fun p hp => hB.cell hp)
    have KO := Lib.hid hO
    have KL := Lib.hid hown
    have HB := Lib.hid hB
    by_cases hlt : q < L.length
    · obtain ⟨b, off, rfl, hb, d0⟩ := own_at hown hlt
      have i1 : (q : Int) < (L.length : Int) := by omega
      have E := gapFold_succ (l := l) (d := d) (a := r1) (b := r2) hlt
      have hst : ∀ o : Int × Int, gapStep l d r1 r2 o L[q] = (max (max o.1 (downV (sumR r1) d (lowOf l r1 L[q]) - upP (sumR r2) d (highOf l r2 L[q]))) (downV (sumR r2) d (lowOf l r2 L[q]) - upP (sumR r1) d (highOf l r1 L[q])), max (max o.2 (upP (sumR r1) d (highOf l r1 L[q]) - downV (sumR r2) d (lowOf l r2 L[q]))) (upP (sumR r2) d (highOf l r2 L[q]) - downV (sumR r1) d (lowOf l r1 L[q]))) := fun o => rfl
      rw [hst] at E
      have g1 := Lib.hid (HP1.out L[q])
      have g2 := Lib.hid (HP2.out L[q])
      have hpr := HPR.out L[q]
      generalize L[q] = x at d0 E g1 g2 hpr
      generalize downV (sumR r1) d (lowOf l r1 x) = p at g1 E hpr
      generalize upP (sumR r1) d (highOf l r1 x) = u at g1 E hpr
      generalize downV (sumR r2) d (lowOf l r2 x) = r at g2 E hpr
      generalize upP (sumR r2) d (highOf l r2 x) = s at g2 E hpr
      generalize gapFold l d r1 r2 (L.take q) = o at E KO
      obtain ⟨lo, hi⟩ := o
      simp only at E KO
      have EE := Lib.hid E
      clear hO hown hB X E hst
      go_wp2_with fail
      refine wp_region_ext (by kernel_rfl) (by kernel_rfl) ?_
      repeat (go_big_quiet_step (first | (go_at_call 94; exact quiet_ext (g1.out _ (SlU.ext T1.out _)))))
      refine wpQuiet_nil ?_
      intro w5 hb5
      replace hb5 := below_of_ext hb5
      have d5 := (hb5.cell (p := ⟨b, off + q, none⟩) hb).trans d0
      have z5 : b < w5.heap.size := by have := hb5.size; omega
      have X5 := HXX.out.below hb5
      have HX5 := Lib.hid X5
      have ca5 := blk_cell X5.a
      have cb5 := blk_cell X5.b
      have za5 := lt_of_block X5.a
      have zb5 := lt_of_block X5.b
      have U2 := Lib.hid (T2.out.keep (B' := w5.heap.size) hb5.size fun p hp => hb5.cell hp)
      have KO5 := Lib.hid (KO.out.below hb5)
      have KL5 := Lib.hid (KL.out.below hb5)
      have HB5 := Lib.hid (HB.out.trans (hb5.mono HB.out.size))
      clear hb5 X5 KO KL HB T1 T2 ca cb za zb HXX d0
      go_wp2_with fail
      refine wp_region_ext (by kernel_rfl) (by kernel_rfl) ?_
      repeat (go_big_quiet_step (first | (go_at_call 94; exact quiet_ext (g2.out _ (SlU.ext U2.out _)))))
      refine wpQuiet_nil ?_
      intro w6 hb6
      replace hb6 := below_of_ext hb6
      have KO6 := KO5.out.below hb6
      have HKO6 := Lib.hid KO6
      have KL6 := Lib.hid (KL5.out.below hb6)
      have HB6 := Lib.hid (HB5.out.trans (hb6.mono HB5.out.size))
      have co := blk_cell KO6
      have fo := blk_frozen KO6
      have zo := lt_of_block KO6
      clear hb6 KO6 KO5 KL5 HB5 U2 ca5 cb5 za5 zb5 HX5 d5 z5 g1 g2
      have E := EE.out
      clear EE
      have EF := Lib.hid E
      clear E
      have kl := KL6.out
      have hbw := HB6.out
      clear KL6 HB6
      go_upto_if 60 with fail
      go_cut [] (fun wx => bothAt wx w1.heap.size (max lo (p - s)) hi ∧ Own wx V1.heap.size 3 encZ (.slice (some ⟨b, off, none⟩) L.length c5) L ∧ Below W0.heap.size W0 wx)
      case first =>
        go_wp2_with fail
        · go_meet
          exact ⟨by rw [show max lo (p - s) = (p - s) by omega]; exact HKO6.out.set0 _, kl.setCellB (p := ⟨w1.heap.size, 0, none⟩) sV, hbw.setCell (p := ⟨w1.heap.size, 0, none⟩) s1 _⟩
        · go_meet
          exact ⟨by rw [show max lo (p - s) = lo by omega]; exact HKO6.out, kl, hbw⟩
      case rest =>
        obtain ⟨k0, l0, b0⟩ := hcut
        have KC0 := Lib.hid k0
        have co := blk_cell k0
        have fo := blk_frozen k0
        have zo := lt_of_block k0
        clear kl hbw HKO6 k0
        have kl := l0
        have hbw := b0
        clear l0 b0
        obtain ⟨v0, hv0⟩ : ∃ v, v = (max lo (p - s)) := ⟨_, rfl⟩
        rw [← hv0] at KC0 EF co
        clear hv0
        go_upto_if 70 with fail
        go_cut [] (fun wx => bothAt wx w1.heap.size (max v0 (r - u)) hi ∧ Own wx V1.heap.size 3 encZ (.slice (some ⟨b, off, none⟩) L.length c5) L ∧ Below W0.heap.size W0 wx)
        case first =>
          go_wp2_with fail
          · go_meet
            exact ⟨by rw [show max v0 (r - u) = (r - u) by omega]; exact KC0.out.set0 _, kl.setCellB (p := ⟨w1.heap.size, 0, none⟩) sV, hbw.setCell (p := ⟨w1.heap.size, 0, none⟩) s1 _⟩
          · go_meet
            exact ⟨by rw [show max v0 (r - u) = v0 by omega]; exact KC0.out, kl, hbw⟩
        case rest =>
          obtain ⟨k1, l1, b1⟩ := hcut
          have KC1 := Lib.hid k1
          have co := blk_cell k1
          have fo := blk_frozen k1
          have zo := lt_of_block k1
          clear kl hbw KC0 k1
          have kl := l1
          have hbw := b1
          clear l1 b1
          obtain ⟨v1, hv1⟩ : ∃ v, v = (max v0 (r - u)) := ⟨_, rfl⟩
          rw [← hv1] at KC1 EF co
          clear hv1
          go_upto_if 80 with fail
          go_cut [] (fun wx => bothAt wx w1.heap.size v1 (max hi (u - r)) ∧ Own wx V1.heap.size 3 encZ (.slice (some ⟨b, off, none⟩) L.length c5) L ∧ Below W0.heap.size W0 wx)
          case first =>
            go_wp2_with fail
            · go_meet
              exact ⟨by rw [show max hi (u - r) = (u - r) by omega]; exact KC1.out.set1 _, kl.setCellB (p := ⟨w1.heap.size, 1, none⟩) sV, hbw.setCell (p := ⟨w1.heap.size, 1, none⟩) s1 _⟩
            · go_meet
              exact ⟨by rw [show max hi (u - r) = hi by omega]; exact KC1.out, kl, hbw⟩
          case rest =>
            obtain ⟨k2, l2, b2⟩ := hcut
            have KC2 := Lib.hid k2
            have co := blk_cell k2
            have fo := blk_frozen k2
            have zo := lt_of_block k2
            clear kl hbw KC1 k2
            have kl := l2
            have hbw := b2
            clear l2 b2
            obtain ⟨v2, hv2⟩ : ∃ v, v = (max hi (u - r)) := ⟨_, rfl⟩
            rw [← hv2] at KC2 EF co
            clear hv2
            go_wp2_with fail
            · go_roundw
              case rel => exact ⟨q + 1, by omega, by go_num, by rw [EF.out]; show bothAt _ _ v1 (max v2 (s - p)); rw [show max v2 (s - p) = (s - p) by omega]; exact KC2.out.set1 _, kl.setCellB (p := ⟨w1.heap.size, 1, none⟩) sV, hbw.setCell (p := ⟨w1.heap.size, 1, none⟩) s1 _⟩
              case measure => simp [intOf]; omega
            · go_roundw
              case rel => exact ⟨q + 1, by omega, by go_num, by rw [EF.out]; show bothAt _ _ v1 (max v2 (s - p)); rw [show max v2 (s - p) = v2 by omega]; exact KC2.out, kl, hbw⟩
              case measure => simp [intOf]; omega
    · obtain rfl : q = L.length := by omega
      rw [List.take_length] at hO
      obtain ⟨o, ho⟩ : ∃ o, o = gapFold l d r1 r2 L := ⟨_, rfl⟩
      rw [← ho] at hO
      have HOE := Lib.hid ho
      have co := blk_cell hO
      have zo := lt_of_block hO
      have cr := blk_cell X.r
      have fr := blk_frozen X.r
      have zr := lt_of_block X.r
      have R7 := Lib.hid ((X.r.set0 o.1).set1 o.2)
      have B7 := Lib.hid ((X.blw.setCell (p := ⟨w.heap.size + 1 + 1, 0, none⟩) (by simp; omega) (.int .i64 o.1)).setCell (p := ⟨w.heap.size + 1 + 1, 1, none⟩) (by simp; omega) (.int .i64 o.2))
      clear hO hown hB X T1 T2 KO KL HB HXX ho
      go_wp2_with fail
      generalize (wr.setCell ⟨w.heap.size + 1 + 1, 0, none⟩ (.int .i64 o.1)).setCell ⟨w.heap.size + 1 + 1, 1, none⟩ (.int .i64 o.2) = W7 at R7 B7 ⊢
      have d0 := blk_cell R7.out 0
      have d1 := blk_cell R7.out 1
      exact bodyPost_ret (v := .tuple #[.agg #[.int .i64 o.1, .int .i64 o.2], .int .i64 0]) (by simp only [results, Tryz.results41]; go_simp) rfl ⟨by rw [HOE.out], B7.out⟩
theorem ref21_Most (w : World) (k1 k2 : Int) (l1 l2 : Nat) (A1 A2 : Option Addr) (cap1 cap2 : Nat) (r1 r2 : List Nd) (d : Int) (h1 : l1 ≤ 48) (h2 : l2 ≤ 48) (hS1 : Sl w w.heap.size encN A1 r1) (hS2 : Sl w w.heap.size encN A2 r2) (hI1 : ints r1) (hI2 : ints r2) (m1 : r1.length ≤ 67108864) (m2 : r2.length ≤ 67108864)
    (f1 : Fits l1 r1) (f2 : Fits l2 r2) (t1 : (totalOf r1).1 = sumR r1) (t2 : (totalOf r2).1 = sumR r2) (hd : d ≤ 9223372036854775807) :
    Calls Tryz.prog 41 #[.agg #[.int .i64 k1, .int .i64 l1, .slice A1 r1.length cap1], .agg #[.int .i64 k2, .int .i64 l2, .slice A2 r2.length cap2], .int .i64 d] w fun e w' => e = .returned (.tuple #[.agg #[.int .i64 (gapMostT l1 l2 r1 r2 d).1, .int .i64 (gapMostT l1 l2 r1 r2 d).2], .int .i64 (gapMostErr l1 l2 r1 r2 d)]) ∧ Below w.heap.size w w' := by
  by_cases he : gapMostErr l1 l2 r1 r2 d = 0
  · have h0 : gapErr l1 l2 r1 r2 = 0 ∧ ¬ d < 1 := by
      unfold gapMostErr at he
      by_cases c : gapErr l1 l2 r1 r2 = 0
      · rw [if_pos c] at he
        by_cases c2 : d < 1
        · rw [if_pos c2] at he; cases he
        · exact ⟨c, c2⟩
      · rw [if_neg c] at he; exact absurd he c
    have hll := gapErr_ok h0.1
    obtain rfl : l1 = l2 := by omega
    obtain ⟨n, rfl⟩ := Int.eq_ofNat_of_zero_le (show 0 ≤ d by omega)
    have ht : gapMostT l1 l1 r1 r2 n = gapFold l1 n r1 r2 (gapE l1 r1 r2) := by unfold gapMostT; rw [if_pos he]
    rw [ht, he]
    exact ref21_Most_yes w k1 k2 l1 n A1 A2 cap1 cap2 r1 r2 h1 hS1 hS2 hI1 hI2 m1 m2 f1 f2 t1 t2 h0.1 (by omega) (by omega)
  · exact ref21_Most_no w k1 k2 l1 l2 A1 A2 cap1 cap2 r1 r2 d h1 h2 hS1 hS2 hI1 hI2 m1 m2 t1 t2 he
end Go.Proofs.YtpngailmhdiiiaaGreat
/- Chapter 21: two digests that come in. -/
namespace Go.Proofs.YtpngailmhdiiiaaGreat
open Go.ChangeShapes Go.WideShapes Go.ChangeAt Go.RowKit
set_option linter.unusedVariables false
set_option linter.unusedSimpArgs false
set_option maxRecDepth 100000

theorem digBox.put {w : World} {b : Nat} {k u : Int} {A : Option Addr} {n cap : Nat} (h : digBox w b k u A n cap) (k' u' : Int) (A' : Option Addr) (n' cap' : Nat) : digBox (((w.setCell ⟨b, 0, none⟩ (.int .i64 k')).setCell ⟨b, 1, none⟩ (.int .i64 u')).setCell ⟨b, 2, none⟩ (.slice A' n' cap')) b k' u' A' n' cap' :=
  heap_set_at (i := 2) (heap_set_at (i := 1) (heap_set_at (i := 0) h _) _) _
/-- What stands when two begins: the two that came in, and the two that it tells. -/
structure TwoW (w W : World) (v1 v2 : Array Value) (k1 u1 : Int) (A1 : Option Addr) (n1 c1 : Nat) (k2 u2 : Int) (A2 : Option Addr) (n2 c2 : Nat) : Prop where
  x : W.heap[w.heap.size]? = some (.cells v1 26 (0, 0))
  y : W.heap[w.heap.size + 1]? = some (.cells v2 26 (0, 0))
  v : digBox W (w.heap.size + 1 + 1) k1 u1 A1 n1 c1
  u : digBox W (w.heap.size + 1 + 1 + 1) k2 u2 A2 n2 c2
  blw : Below w.heap.size w W
section
variable {w W W' : World} {v1 v2 : Array Value} {k1 u1 : Int} {A1 : Option Addr} {n1 c1 : Nat} {k2 u2 : Int} {A2 : Option Addr} {n2 c2 : Nat}
theorem TwoW.below (h : TwoW w W v1 v2 k1 u1 A1 n1 c1 k2 u2 A2 n2 c2) (hb : Below W.heap.size W W') : TwoW w W' v1 v2 k1 u1 A1 n1 c1 k2 u2 A2 n2 c2 := ⟨blk_below h.x hb, blk_below h.y hb, h.v.below hb, h.u.below hb, h.blw.trans (hb.mono h.blw.size)⟩
theorem TwoW.new (w : World) (v1 v2 : Array Value) : TwoW w ((((w.alloc (.cells v1 26)).alloc (.cells v2 26)).alloc (.cells #[.int .i64 0, .int .i64 0, .slice none 0 0] 37)).alloc (.cells #[.int .i64 0, .int .i64 0, .slice none 0 0] 37)) v1 v2 0 0 none 0 0 0 0 none 0 0 :=
  ⟨(heap_new_lt _ _ _ (by simp; omega)).trans ((heap_new_lt _ _ _ (by simp; omega)).trans ((heap_new_lt _ _ _ (by simp)).trans (heap_alloc_new w _))), (heap_new_lt _ _ _ (by simp)).trans ((heap_new_lt _ _ _ (by simp)).trans (heap_new_at (w.alloc _) _ _ (by simp))), (heap_new_lt _ _ _ (by simp)).trans (heap_new_at ((w.alloc _).alloc _) _ _ (by simp)), heap_new_at (((w.alloc _).alloc _).alloc _) _ _ (by simp), (by repeat (first | with_reducible exact Below.refl _ _ | with_reducible assumption | ((with_reducible refine Below.setCell ?_ ?_ _); rotate_left; · (first | omega | exact Nat.le_refl _ | (simp <;> omega))) | (with_reducible refine Below.allocW ?_ _) | (with_reducible refine Below.drew ?_) | (with_reducible refine Below.extW ?_ _)))⟩
theorem TwoW.putv (h : TwoW w W v1 v2 k1 u1 A1 n1 c1 k2 u2 A2 n2 c2) (k u : Int) (A : Option Addr) (n c : Nat) : TwoW w (((W.setCell ⟨w.heap.size + 1 + 1, 0, none⟩ (.int .i64 k)).setCell ⟨w.heap.size + 1 + 1, 1, none⟩ (.int .i64 u)).setCell ⟨w.heap.size + 1 + 1, 2, none⟩ (.slice A n c)) v1 v2 k u A n c k2 u2 A2 n2 c2 :=
  have e : ∀ b, b ≠ w.heap.size + 1 + 1 → (((W.setCell ⟨w.heap.size + 1 + 1, 0, none⟩ (.int .i64 k)).setCell ⟨w.heap.size + 1 + 1, 1, none⟩ (.int .i64 u)).setCell ⟨w.heap.size + 1 + 1, 2, none⟩ (.slice A n c)).heap[b]? = W.heap[b]? := fun b hb => (Below.heap_setCell _ _ _ _ hb).trans ((Below.heap_setCell _ _ _ _ hb).trans (Below.heap_setCell _ _ _ _ hb))
  ⟨(e _ (by omega)).trans h.x, (e _ (by omega)).trans h.y, h.v.put k u A n c, (e _ (by omega)).trans h.u, ((h.blw.setCell (p := ⟨w.heap.size + 1 + 1, 0, none⟩) (by simp only; omega) _).setCell (p := ⟨w.heap.size + 1 + 1, 1, none⟩) (by simp only; omega) _).setCell (p := ⟨w.heap.size + 1 + 1, 2, none⟩) (by simp only; omega) _⟩
theorem TwoW.putu (h : TwoW w W v1 v2 k1 u1 A1 n1 c1 k2 u2 A2 n2 c2) (k u : Int) (A : Option Addr) (n c : Nat) : TwoW w (((W.setCell ⟨w.heap.size + 1 + 1 + 1, 0, none⟩ (.int .i64 k)).setCell ⟨w.heap.size + 1 + 1 + 1, 1, none⟩ (.int .i64 u)).setCell ⟨w.heap.size + 1 + 1 + 1, 2, none⟩ (.slice A n c)) v1 v2 k1 u1 A1 n1 c1 k u A n c :=
  have e : ∀ b, b ≠ w.heap.size + 1 + 1 + 1 → (((W.setCell ⟨w.heap.size + 1 + 1 + 1, 0, none⟩ (.int .i64 k)).setCell ⟨w.heap.size + 1 + 1 + 1, 1, none⟩ (.int .i64 u)).setCell ⟨w.heap.size + 1 + 1 + 1, 2, none⟩ (.slice A n c)).heap[b]? = W.heap[b]? := fun b hb => (Below.heap_setCell _ _ _ _ hb).trans ((Below.heap_setCell _ _ _ _ hb).trans (Below.heap_setCell _ _ _ _ hb))
  ⟨(e _ (by omega)).trans h.x, (e _ (by omega)).trans h.y, (e _ (by omega)).trans h.v, h.u.put k u A n c, ((h.blw.setCell (p := ⟨w.heap.size + 1 + 1 + 1, 0, none⟩) (by simp only; omega) _).setCell (p := ⟨w.heap.size + 1 + 1 + 1, 1, none⟩) (by simp only; omega) _).setCell (p := ⟨w.heap.size + 1 + 1 + 1, 2, none⟩) (by simp only; omega) _⟩
theorem TwoW.drew (h : TwoW w W v1 v2 k1 u1 A1 n1 c1 k2 u2 A2 n2 c2) : TwoW w W.drew v1 v2 k1 u1 A1 n1 c1 k2 u2 A2 n2 c2 := ⟨h.x, h.y, h.v, h.u, h.blw.drew⟩
end
theorem DigAt.set3 {W : World} {g K l : Nat} {k : Int} {r : List Nd} {F : Nat → Prop} (h : DigAt W g K l k r F) {b : Nat} {u0 u1 u2 : Value} (hne : ∀ c, F c → c ≠ b) : DigAt (((W.setCell ⟨b, 0, none⟩ u0).setCell ⟨b, 1, none⟩ u1).setCell ⟨b, 2, none⟩ u2) g K l k r F :=
  h.keep fun c hc => (Below.heap_setCell _ _ _ _ (hne c hc)).trans ((Below.heap_setCell _ _ _ _ (hne c hc)).trans (Below.heap_setCell _ _ _ _ (hne c hc)))
/-- Both came in, and are few. -/
def twoGood (l1 k1 K1 : Int) (r1 : List Nd) (l2 k2 K2 : Int) (r2 : List Nd) : Prop := (goodL l1 k1 K1 r1 ∧ goodL l2 k2 K2 r2) ∧ r1.length ≤ 60 ∧ r2.length ≤ 60
/-- What two hands back if one isn't there. -/
def TwoNo (w : World) (e : Ending) (w' : World) : Prop := ∃ a b x0 x1 X n m y0 y1 Y n' m', e = .returned (.tuple #[a, b, .agg #[.int .i64 x0, .int .i64 x1, .slice X n m], .agg #[.int .i64 y0, .int .i64 y1, .slice Y n' m'], .bool false]) ∧ Below w.heap.size w w'
set_option maxHeartbeats 4000000 in
theorem law21_two_no (w : World) (l1 k1 K1 l2 k2 K2 : Int) (A1 A2 : Option Addr) (cap1 cap2 : Nat) (r1 r2 : List Nd) (h : ¬ twoGood l1 k1 K1 r1 l2 k2 K2 r2) (hS1 : Sl w w.heap.size encN A1 r1) (hS2 : Sl w w.heap.size encN A2 r2) (hI1 : ints r1) (hI2 : ints r2) (hm1 : r1.length ≤ maxLen) (hm2 : r2.length ≤ maxLen) :
    Calls Tryz.prog 34 #[loadedV l1 k1 K1 A1 r1.length cap1, loadedV l2 k2 K2 A2 r2.length cap2] w (TwoNo w) := by
  have T0 := Lib.hid (TwoW.new w #[.int .i64 l1, .int .i64 k1, .int .i64 K1, .slice A1 r1.length cap1] #[.int .i64 l2, .int .i64 k2, .int .i64 K2, .slice A2 r2.length cap2])
  unfold loadedV
  by_cases hlong : 60 < r1.length ∨ 60 < r2.length
  · rcases (show (60 : Int) < (r1.length : Int) ∨ (decide ((60 : Int) < (r1.length : Int)) = false ∧ (60 : Int) < (r2.length : Int)) by by_cases hh : 60 < r1.length; exact .inl (by omega); exact .inr ⟨by simp; omega, by omega⟩) with g1 | ⟨g1, g2⟩
    all_goals (
      clear h hlong hS1 hS2 hI1 hI2
      go_enter Tryz.func34, Tryz.ntmps34
      go_upto_region 1 with fail
      generalize (((w.alloc (.cells #[.int .i64 l1, .int .i64 k1, .int .i64 K1, .slice A1 r1.length cap1] 26)).alloc (.cells #[.int .i64 l2, .int .i64 k2, .int .i64 K2, .slice A2 r2.length cap2] 26)).alloc (.cells #[.int .i64 0, .int .i64 0, .slice none 0 0] 37)).alloc (.cells #[.int .i64 0, .int .i64 0, .slice none 0 0] 37) = W0 at T0 ⊢
      have cx := blk_cell T0.out.x
      have cy := blk_cell T0.out.y
      have zx := lt_of_block T0.out.x
      have zy := lt_of_block T0.out.y
      have cv := blk_cell T0.out.v
      have cu := blk_cell T0.out.u
      have fv := blk_frozen T0.out.v
      have fu := blk_frozen T0.out.u
      have zv := lt_of_block T0.out.v
      have zu := lt_of_block T0.out.u
      have BT := T0.out.blw
      go_wp2_with fail
      go_region
      go_wp2_with fail
      exact bodyPost_ret (v := .tuple #[.pointer none, .pointer none, .agg #[.int .i64 0, .int .i64 0, .slice none 0 0], .agg #[.int .i64 0, .int .i64 0, .slice none 0 0], .bool false]) (by simp only [results, Tryz.results34]; go_simp) rfl ⟨_, _, _, _, _, _, _, _, _, _, _, _, rfl, (by repeat (first | with_reducible exact Below.refl _ _ | with_reducible assumption | ((with_reducible refine Below.setCell ?_ ?_ _); rotate_left; · (first | omega | exact Nat.le_refl _ | (simp <;> omega))) | (with_reducible refine Below.allocW ?_ _) | (with_reducible refine Below.drew ?_) | (with_reducible refine Below.extW ?_ _)))⟩)
  · have n1 : r1.length ≤ 60 := by omega
    have n2 : r2.length ≤ 60 := by omega
    have i1 : decide ((60 : Int) < (r1.length : Int)) = false := by simp; omega
    have i2 : decide ((60 : Int) < (r2.length : Int)) = false := by simp; omega
    have HS := Lib.hid (And.intro hS1 hS2)
    by_cases hg1 : goodL l1 k1 K1 r1
    · have hg2 : ¬ goodL l2 k2 K2 r2 := fun hg2 => h ⟨⟨hg1, hg2⟩, n1, n2⟩
      obtain ⟨l1, K1, rfl, rfl⟩ := goodL_nat hg1.2.2
      have HL1 := Lib.hid (law16_Load · l1 K1 k1 A1 cap1 r1 hg1 · hI1)
      have HL2 := Lib.hid (law16_Load_no · l2 k2 K2 A2 cap2 r2 hg2 · hI2 hm2)
      unfold loadedV refDig LPost at HL1
      unfold loadedV refDig at HL2
      clear hS1 hS2 hI1 hI2 hg1 hg2
      clear hlong h
      go_enter Tryz.func34, Tryz.ntmps34
      go_upto_region 1 with fail
      generalize (((w.alloc (.cells #[.int .i64 l1, .int .i64 k1, .int .i64 K1, .slice A1 r1.length cap1] 26)).alloc (.cells #[.int .i64 l2, .int .i64 k2, .int .i64 K2, .slice A2 r2.length cap2] 26)).alloc (.cells #[.int .i64 0, .int .i64 0, .slice none 0 0] 37)).alloc (.cells #[.int .i64 0, .int .i64 0, .slice none 0 0] 37) = W0 at T0 ⊢
      have cx := blk_cell T0.out.x
      have zx := lt_of_block T0.out.x
      have cy := blk_cell T0.out.y
      have zy := lt_of_block T0.out.y
      have cv := blk_cell T0.out.v
      have zv := lt_of_block T0.out.v
      have fv := blk_frozen T0.out.v
      have cu := blk_cell T0.out.u
      have zu := lt_of_block T0.out.u
      have fu := blk_frozen T0.out.u
      have BT := T0.out.blw
      have S1 := HS.out.1.keep (B' := W0.heap.size) BT.size fun p hp => BT.cell hp
      go_wp2_with fail
      refine (HL1.out _ S1).mono ?_
      rintro e w1 ⟨g1, F1, rfl, hD1, hF1, hb1⟩
      have D1 := Lib.hid hD1
      have P1 := Lib.hid (fun b (hb : F1 b) => show w.heap.size + 1 + 1 + 1 < b by have := hF1 b hb; omega)
      have T1 := Lib.hid (T0.out.below hb1)
      clear hb1 S1 hD1 hF1
      clear cx zx cy zy cv zv fv cu zu fu BT
      have cx := blk_cell T1.out.x
      have zx := lt_of_block T1.out.x
      have cy := blk_cell T1.out.y
      have zy := lt_of_block T1.out.y
      have cv := blk_cell T1.out.v
      have zv := lt_of_block T1.out.v
      have fv := blk_frozen T1.out.v
      have cu := blk_cell T1.out.u
      have zu := lt_of_block T1.out.u
      have fu := blk_frozen T1.out.u
      have BT := T1.out.blw
      have T2 := Lib.hid (T1.out.putv k1 l1 A1 r1.length cap1)
      have E1 := Lib.hid (D1.out.set3 (b := w.heap.size + 1 + 1) (u0 := .int .i64 k1) (u1 := .int .i64 l1) (u2 := .slice A1 r1.length cap1) (fun b hb => by have := P1.out b hb; omega))
      go_upto_region 4 with fail
      generalize ((w1.setCell ⟨w.heap.size + 1 + 1, 0, none⟩ (.int .i64 k1)).setCell ⟨w.heap.size + 1 + 1, 1, none⟩ (.int .i64 l1)).setCell ⟨w.heap.size + 1 + 1, 2, none⟩ (.slice A1 r1.length cap1) = W2 at T2 E1 ⊢
      clear cx zx cy zy cv zv fv cu zu fu BT
      have cx := blk_cell T2.out.x
      have zx := lt_of_block T2.out.x
      have cy := blk_cell T2.out.y
      have zy := lt_of_block T2.out.y
      have cv := blk_cell T2.out.v
      have zv := lt_of_block T2.out.v
      have fv := blk_frozen T2.out.v
      have cu := blk_cell T2.out.u
      have zu := lt_of_block T2.out.u
      have fu := blk_frozen T2.out.u
      have BT := T2.out.blw
      have S2 := HS.out.2.keep (B' := W2.heap.size) BT.size fun p hp => BT.cell hp
      go_wp2_with fail
      refine (HL2.out _ S2).mono ?_
      rintro e w3 ⟨rfl, hb3⟩
      have T3 := Lib.hid (T2.out.below hb3)
      have G1 := Lib.hid (E1.out.below hb3)
      clear hb3 S2
      clear cx zx cy zy cv zv fv cu zu fu BT
      have cx := blk_cell T3.out.x
      have zx := lt_of_block T3.out.x
      have cy := blk_cell T3.out.y
      have zy := lt_of_block T3.out.y
      have cv := blk_cell T3.out.v
      have zv := lt_of_block T3.out.v
      have fv := blk_frozen T3.out.v
      have cu := blk_cell T3.out.u
      have zu := lt_of_block T3.out.u
      have fu := blk_frozen T3.out.u
      have BT := T3.out.blw
      have T4 := Lib.hid (T3.out.putu 0 0 none 0 0)
      have I1 := Lib.hid (G1.out.set3 (b := w.heap.size + 1 + 1 + 1) (u0 := .int .i64 0) (u1 := .int .i64 0) (u2 := .slice none 0 0) (fun b hb => by have := P1.out b hb; omega))
      go_upto_region 5 with fail
      generalize ((w3.setCell ⟨w.heap.size + 1 + 1 + 1, 0, none⟩ (.int .i64 0)).setCell ⟨w.heap.size + 1 + 1 + 1, 1, none⟩ (.int .i64 0)).setCell ⟨w.heap.size + 1 + 1 + 1, 2, none⟩ (.slice none 0 0) = W4 at T4 I1 ⊢
      clear cx zx cy zy cv zv fv cu zu fu BT
      have cx := blk_cell T4.out.x
      have zx := lt_of_block T4.out.x
      have cy := blk_cell T4.out.y
      have zy := lt_of_block T4.out.y
      have cv := blk_cell T4.out.v
      have zv := lt_of_block T4.out.v
      have fv := blk_frozen T4.out.v
      have cu := blk_cell T4.out.u
      have zu := lt_of_block T4.out.u
      have fu := blk_frozen T4.out.u
      have BT := T4.out.blw
      go_region
      go_wp2_with fail
      exact bodyPost_ret (v := .tuple #[.pointer (some ⟨g1, 0, none⟩), .pointer none, .agg #[.int .i64 k1, .int .i64 l1, .slice A1 r1.length cap1], .agg #[.int .i64 0, .int .i64 0, .slice none 0 0], .bool false]) (by simp only [results, Tryz.results34]; go_simp) rfl ⟨_, _, _, _, _, _, _, _, _, _, _, _, rfl, (by repeat (first | with_reducible exact Below.refl _ _ | with_reducible assumption | ((with_reducible refine Below.setCell ?_ ?_ _); rotate_left; · (first | omega | exact Nat.le_refl _ | (simp <;> omega))) | (with_reducible refine Below.allocW ?_ _) | (with_reducible refine Below.drew ?_) | (with_reducible refine Below.extW ?_ _)))⟩
    · have HL1 := Lib.hid (law16_Load_no · l1 k1 K1 A1 cap1 r1 hg1 · hI1 hm1)
      unfold loadedV refDig at HL1
      by_cases hg2 : goodL l2 k2 K2 r2
      · obtain ⟨l2, K2, rfl, rfl⟩ := goodL_nat hg2.2.2
        have HL2 := Lib.hid (law16_Load · l2 K2 k2 A2 cap2 r2 hg2 · hI2)
        unfold loadedV refDig LPost at HL2
        clear hS1 hS2 hI1 hI2 hg1 hg2
        clear hlong h
        go_enter Tryz.func34, Tryz.ntmps34
        go_upto_region 1 with fail
        generalize (((w.alloc (.cells #[.int .i64 l1, .int .i64 k1, .int .i64 K1, .slice A1 r1.length cap1] 26)).alloc (.cells #[.int .i64 l2, .int .i64 k2, .int .i64 K2, .slice A2 r2.length cap2] 26)).alloc (.cells #[.int .i64 0, .int .i64 0, .slice none 0 0] 37)).alloc (.cells #[.int .i64 0, .int .i64 0, .slice none 0 0] 37) = W0 at T0 ⊢
        have cx := blk_cell T0.out.x
        have zx := lt_of_block T0.out.x
        have cy := blk_cell T0.out.y
        have zy := lt_of_block T0.out.y
        have cv := blk_cell T0.out.v
        have zv := lt_of_block T0.out.v
        have fv := blk_frozen T0.out.v
        have cu := blk_cell T0.out.u
        have zu := lt_of_block T0.out.u
        have fu := blk_frozen T0.out.u
        have BT := T0.out.blw
        have S1 := HS.out.1.keep (B' := W0.heap.size) BT.size fun p hp => BT.cell hp
        go_wp2_with fail
        refine (HL1.out _ S1).mono ?_
        rintro e w1 ⟨rfl, hb1⟩
        have T1 := Lib.hid (T0.out.below hb1)
        clear hb1 S1
        clear cx zx cy zy cv zv fv cu zu fu BT
        have cx := blk_cell T1.out.x
        have zx := lt_of_block T1.out.x
        have cy := blk_cell T1.out.y
        have zy := lt_of_block T1.out.y
        have cv := blk_cell T1.out.v
        have zv := lt_of_block T1.out.v
        have fv := blk_frozen T1.out.v
        have cu := blk_cell T1.out.u
        have zu := lt_of_block T1.out.u
        have fu := blk_frozen T1.out.u
        have BT := T1.out.blw
        have T2 := Lib.hid (T1.out.putv 0 0 none 0 0)
        go_upto_region 4 with fail
        generalize ((w1.setCell ⟨w.heap.size + 1 + 1, 0, none⟩ (.int .i64 0)).setCell ⟨w.heap.size + 1 + 1, 1, none⟩ (.int .i64 0)).setCell ⟨w.heap.size + 1 + 1, 2, none⟩ (.slice none 0 0) = W2 at T2 ⊢
        clear cx zx cy zy cv zv fv cu zu fu BT
        have cx := blk_cell T2.out.x
        have zx := lt_of_block T2.out.x
        have cy := blk_cell T2.out.y
        have zy := lt_of_block T2.out.y
        have cv := blk_cell T2.out.v
        have zv := lt_of_block T2.out.v
        have fv := blk_frozen T2.out.v
        have cu := blk_cell T2.out.u
        have zu := lt_of_block T2.out.u
        have fu := blk_frozen T2.out.u
        have BT := T2.out.blw
        have S2 := HS.out.2.keep (B' := W2.heap.size) BT.size fun p hp => BT.cell hp
        go_wp2_with fail
        refine (HL2.out _ S2).mono ?_
        rintro e w3 ⟨g2, F2, rfl, hD2, hF2, hb3⟩
        have D2 := Lib.hid hD2
        have P2 := Lib.hid (fun b (hb : F2 b) => show w.heap.size + 1 + 1 + 1 < b by have := hF2 b hb; omega)
        have T3 := Lib.hid (T2.out.below hb3)
        clear hb3 S2 hD2 hF2
        clear cx zx cy zy cv zv fv cu zu fu BT
        have cx := blk_cell T3.out.x
        have zx := lt_of_block T3.out.x
        have cy := blk_cell T3.out.y
        have zy := lt_of_block T3.out.y
        have cv := blk_cell T3.out.v
        have zv := lt_of_block T3.out.v
        have fv := blk_frozen T3.out.v
        have cu := blk_cell T3.out.u
        have zu := lt_of_block T3.out.u
        have fu := blk_frozen T3.out.u
        have BT := T3.out.blw
        have T4 := Lib.hid (T3.out.putu k2 l2 A2 r2.length cap2)
        have I2 := Lib.hid (D2.out.set3 (b := w.heap.size + 1 + 1 + 1) (u0 := .int .i64 k2) (u1 := .int .i64 l2) (u2 := .slice A2 r2.length cap2) (fun b hb => by have := P2.out b hb; omega))
        go_upto_region 5 with fail
        generalize ((w3.setCell ⟨w.heap.size + 1 + 1 + 1, 0, none⟩ (.int .i64 k2)).setCell ⟨w.heap.size + 1 + 1 + 1, 1, none⟩ (.int .i64 l2)).setCell ⟨w.heap.size + 1 + 1 + 1, 2, none⟩ (.slice A2 r2.length cap2) = W4 at T4 I2 ⊢
        clear cx zx cy zy cv zv fv cu zu fu BT
        have cx := blk_cell T4.out.x
        have zx := lt_of_block T4.out.x
        have cy := blk_cell T4.out.y
        have zy := lt_of_block T4.out.y
        have cv := blk_cell T4.out.v
        have zv := lt_of_block T4.out.v
        have fv := blk_frozen T4.out.v
        have cu := blk_cell T4.out.u
        have zu := lt_of_block T4.out.u
        have fu := blk_frozen T4.out.u
        have BT := T4.out.blw
        go_region
        go_wp2_with fail
        exact bodyPost_ret (v := .tuple #[.pointer none, .pointer (some ⟨g2, 0, none⟩), .agg #[.int .i64 0, .int .i64 0, .slice none 0 0], .agg #[.int .i64 k2, .int .i64 l2, .slice A2 r2.length cap2], .bool false]) (by simp only [results, Tryz.results34]; go_simp) rfl ⟨_, _, _, _, _, _, _, _, _, _, _, _, rfl, (by repeat (first | with_reducible exact Below.refl _ _ | with_reducible assumption | ((with_reducible refine Below.setCell ?_ ?_ _); rotate_left; · (first | omega | exact Nat.le_refl _ | (simp <;> omega))) | (with_reducible refine Below.allocW ?_ _) | (with_reducible refine Below.drew ?_) | (with_reducible refine Below.extW ?_ _)))⟩
      · have HL2 := Lib.hid (law16_Load_no · l2 k2 K2 A2 cap2 r2 hg2 · hI2 hm2)
        unfold loadedV refDig at HL2
        clear hS1 hS2 hI1 hI2 hg1 hg2
        clear hlong h
        go_enter Tryz.func34, Tryz.ntmps34
        go_upto_region 1 with fail
        generalize (((w.alloc (.cells #[.int .i64 l1, .int .i64 k1, .int .i64 K1, .slice A1 r1.length cap1] 26)).alloc (.cells #[.int .i64 l2, .int .i64 k2, .int .i64 K2, .slice A2 r2.length cap2] 26)).alloc (.cells #[.int .i64 0, .int .i64 0, .slice none 0 0] 37)).alloc (.cells #[.int .i64 0, .int .i64 0, .slice none 0 0] 37) = W0 at T0 ⊢
        have cx := blk_cell T0.out.x
        have zx := lt_of_block T0.out.x
        have cy := blk_cell T0.out.y
        have zy := lt_of_block T0.out.y
        have cv := blk_cell T0.out.v
        have zv := lt_of_block T0.out.v
        have fv := blk_frozen T0.out.v
        have cu := blk_cell T0.out.u
        have zu := lt_of_block T0.out.u
        have fu := blk_frozen T0.out.u
        have BT := T0.out.blw
        have S1 := HS.out.1.keep (B' := W0.heap.size) BT.size fun p hp => BT.cell hp
        go_wp2_with fail
        refine (HL1.out _ S1).mono ?_
        rintro e w1 ⟨rfl, hb1⟩
        have T1 := Lib.hid (T0.out.below hb1)
        clear hb1 S1
        clear cx zx cy zy cv zv fv cu zu fu BT
        have cx := blk_cell T1.out.x
        have zx := lt_of_block T1.out.x
        have cy := blk_cell T1.out.y
        have zy := lt_of_block T1.out.y
        have cv := blk_cell T1.out.v
        have zv := lt_of_block T1.out.v
        have fv := blk_frozen T1.out.v
        have cu := blk_cell T1.out.u
        have zu := lt_of_block T1.out.u
        have fu := blk_frozen T1.out.u
        have BT := T1.out.blw
        have T2 := Lib.hid (T1.out.putv 0 0 none 0 0)
        go_upto_region 4 with fail
        generalize ((w1.setCell ⟨w.heap.size + 1 + 1, 0, none⟩ (.int .i64 0)).setCell ⟨w.heap.size + 1 + 1, 1, none⟩ (.int .i64 0)).setCell ⟨w.heap.size + 1 + 1, 2, none⟩ (.slice none 0 0) = W2 at T2 ⊢
        clear cx zx cy zy cv zv fv cu zu fu BT
        have cx := blk_cell T2.out.x
        have zx := lt_of_block T2.out.x
        have cy := blk_cell T2.out.y
        have zy := lt_of_block T2.out.y
        have cv := blk_cell T2.out.v
        have zv := lt_of_block T2.out.v
        have fv := blk_frozen T2.out.v
        have cu := blk_cell T2.out.u
        have zu := lt_of_block T2.out.u
        have fu := blk_frozen T2.out.u
        have BT := T2.out.blw
        have S2 := HS.out.2.keep (B' := W2.heap.size) BT.size fun p hp => BT.cell hp
        go_wp2_with fail
        refine (HL2.out _ S2).mono ?_
        rintro e w3 ⟨rfl, hb3⟩
        have T3 := Lib.hid (T2.out.below hb3)
        clear hb3 S2
        clear cx zx cy zy cv zv fv cu zu fu BT
        have cx := blk_cell T3.out.x
        have zx := lt_of_block T3.out.x
        have cy := blk_cell T3.out.y
        have zy := lt_of_block T3.out.y
        have cv := blk_cell T3.out.v
        have zv := lt_of_block T3.out.v
        have fv := blk_frozen T3.out.v
        have cu := blk_cell T3.out.u
        have zu := lt_of_block T3.out.u
        have fu := blk_frozen T3.out.u
        have BT := T3.out.blw
        have T4 := Lib.hid (T3.out.putu 0 0 none 0 0)
        go_upto_region 5 with fail
        generalize ((w3.setCell ⟨w.heap.size + 1 + 1 + 1, 0, none⟩ (.int .i64 0)).setCell ⟨w.heap.size + 1 + 1 + 1, 1, none⟩ (.int .i64 0)).setCell ⟨w.heap.size + 1 + 1 + 1, 2, none⟩ (.slice none 0 0) = W4 at T4 ⊢
        clear cx zx cy zy cv zv fv cu zu fu BT
        have cx := blk_cell T4.out.x
        have zx := lt_of_block T4.out.x
        have cy := blk_cell T4.out.y
        have zy := lt_of_block T4.out.y
        have cv := blk_cell T4.out.v
        have zv := lt_of_block T4.out.v
        have fv := blk_frozen T4.out.v
        have cu := blk_cell T4.out.u
        have zu := lt_of_block T4.out.u
        have fu := blk_frozen T4.out.u
        have BT := T4.out.blw
        go_region
        go_wp2_with fail
        exact bodyPost_ret (v := .tuple #[.pointer none, .pointer none, .agg #[.int .i64 0, .int .i64 0, .slice none 0 0], .agg #[.int .i64 0, .int .i64 0, .slice none 0 0], .bool false]) (by simp only [results, Tryz.results34]; go_simp) rfl ⟨_, _, _, _, _, _, _, _, _, _, _, _, rfl, (by repeat (first | with_reducible exact Below.refl _ _ | with_reducible assumption | ((with_reducible refine Below.setCell ?_ ?_ _); rotate_left; · (first | omega | exact Nat.le_refl _ | (simp <;> omega))) | (with_reducible refine Below.allocW ?_ _) | (with_reducible refine Below.drew ?_) | (with_reducible refine Below.extW ?_ _)))⟩
/-- What two hands back. -/
def TwoPost (l1 K1 : Nat) (k1 : Int) (A1 : Option Addr) (cap1 : Nat) (r1 : List Nd) (l2 K2 : Nat) (k2 : Int) (A2 : Option Addr) (cap2 : Nat) (r2 : List Nd) (w : World) (e : Ending) (w' : World) : Prop :=
  ∃ g1 F1 g2 F2, e = .returned (.tuple #[.pointer (some ⟨g1, 0, none⟩), .pointer (some ⟨g2, 0, none⟩), .agg #[.int .i64 k1, .int .i64 l1, .slice A1 r1.length cap1], .agg #[.int .i64 k2, .int .i64 l2, .slice A2 r2.length cap2], .bool true]) ∧ DigAt w' g1 K1 l1 k1 r1 F1 ∧ DigAt w' g2 K2 l2 k2 r2 F2 ∧ Below w.heap.size w w'
set_option maxHeartbeats 4000000 in
theorem law21_two (w : World) (l1 K1 l2 K2 : Nat) (k1 k2 : Int) (A1 A2 : Option Addr) (cap1 cap2 : Nat) (r1 r2 : List Nd) (hg : twoGood l1 k1 K1 r1 l2 k2 K2 r2) (hS1 : Sl w w.heap.size encN A1 r1) (hS2 : Sl w w.heap.size encN A2 r2) (hI1 : ints r1) (hI2 : ints r2) :
    Calls Tryz.prog 34 #[loadedV l1 k1 K1 A1 r1.length cap1, loadedV l2 k2 K2 A2 r2.length cap2] w (TwoPost l1 K1 k1 A1 cap1 r1 l2 K2 k2 A2 cap2 r2 w) := by
  obtain ⟨⟨hg1, hg2⟩, n1, n2⟩ := hg
  have T0 := Lib.hid (TwoW.new w #[.int .i64 l1, .int .i64 k1, .int .i64 K1, .slice A1 r1.length cap1] #[.int .i64 l2, .int .i64 k2, .int .i64 K2, .slice A2 r2.length cap2])
  have i1 : decide ((60 : Int) < (r1.length : Int)) = false := by simp; omega
  have i2 : decide ((60 : Int) < (r2.length : Int)) = false := by simp; omega
  have HS := Lib.hid (And.intro hS1 hS2)
  have HL1 := Lib.hid (law16_Load · l1 K1 k1 A1 cap1 r1 hg1 · hI1)
  have HL2 := Lib.hid (law16_Load · l2 K2 k2 A2 cap2 r2 hg2 · hI2)
  unfold loadedV refDig LPost at HL1 HL2
  unfold loadedV TwoPost
  clear hS1 hS2 hI1 hI2 hg1 hg2
  skip
  go_enter Tryz.func34, Tryz.ntmps34
  go_upto_region 1 with fail
  generalize (((w.alloc (.cells #[.int .i64 l1, .int .i64 k1, .int .i64 K1, .slice A1 r1.length cap1] 26)).alloc (.cells #[.int .i64 l2, .int .i64 k2, .int .i64 K2, .slice A2 r2.length cap2] 26)).alloc (.cells #[.int .i64 0, .int .i64 0, .slice none 0 0] 37)).alloc (.cells #[.int .i64 0, .int .i64 0, .slice none 0 0] 37) = W0 at T0 ⊢
  have cx := blk_cell T0.out.x
  have zx := lt_of_block T0.out.x
  have cy := blk_cell T0.out.y
  have zy := lt_of_block T0.out.y
  have cv := blk_cell T0.out.v
  have zv := lt_of_block T0.out.v
  have fv := blk_frozen T0.out.v
  have cu := blk_cell T0.out.u
  have zu := lt_of_block T0.out.u
  have fu := blk_frozen T0.out.u
  have BT := T0.out.blw
  have S1 := HS.out.1.keep (B' := W0.heap.size) BT.size fun p hp => BT.cell hp
  go_wp2_with fail
  refine (HL1.out _ S1).mono ?_
  rintro e w1 ⟨g1, F1, rfl, hD1, hF1, hb1⟩
  have D1 := Lib.hid hD1
  have P1 := Lib.hid (fun b (hb : F1 b) => show w.heap.size + 1 + 1 + 1 < b by have := hF1 b hb; omega)
  have T1 := Lib.hid (T0.out.below hb1)
  clear hb1 S1 hD1 hF1
  clear cx zx cy zy cv zv fv cu zu fu BT
  have cx := blk_cell T1.out.x
  have zx := lt_of_block T1.out.x
  have cy := blk_cell T1.out.y
  have zy := lt_of_block T1.out.y
  have cv := blk_cell T1.out.v
  have zv := lt_of_block T1.out.v
  have fv := blk_frozen T1.out.v
  have cu := blk_cell T1.out.u
  have zu := lt_of_block T1.out.u
  have fu := blk_frozen T1.out.u
  have BT := T1.out.blw
  have T2 := Lib.hid (T1.out.putv k1 l1 A1 r1.length cap1)
  have E1 := Lib.hid (D1.out.set3 (b := w.heap.size + 1 + 1) (u0 := .int .i64 k1) (u1 := .int .i64 l1) (u2 := .slice A1 r1.length cap1) (fun b hb => by have := P1.out b hb; omega))
  go_upto_region 4 with fail
  generalize ((w1.setCell ⟨w.heap.size + 1 + 1, 0, none⟩ (.int .i64 k1)).setCell ⟨w.heap.size + 1 + 1, 1, none⟩ (.int .i64 l1)).setCell ⟨w.heap.size + 1 + 1, 2, none⟩ (.slice A1 r1.length cap1) = W2 at T2 E1 ⊢
  clear cx zx cy zy cv zv fv cu zu fu BT
  have cx := blk_cell T2.out.x
  have zx := lt_of_block T2.out.x
  have cy := blk_cell T2.out.y
  have zy := lt_of_block T2.out.y
  have cv := blk_cell T2.out.v
  have zv := lt_of_block T2.out.v
  have fv := blk_frozen T2.out.v
  have cu := blk_cell T2.out.u
  have zu := lt_of_block T2.out.u
  have fu := blk_frozen T2.out.u
  have BT := T2.out.blw
  have S2 := HS.out.2.keep (B' := W2.heap.size) BT.size fun p hp => BT.cell hp
  go_wp2_with fail
  refine (HL2.out _ S2).mono ?_
  rintro e w3 ⟨g2, F2, rfl, hD2, hF2, hb3⟩
  have D2 := Lib.hid hD2
  have P2 := Lib.hid (fun b (hb : F2 b) => show w.heap.size + 1 + 1 + 1 < b by have := hF2 b hb; omega)
  have T3 := Lib.hid (T2.out.below hb3)
  have G1 := Lib.hid (E1.out.below hb3)
  clear hb3 S2 hD2 hF2
  clear cx zx cy zy cv zv fv cu zu fu BT
  have cx := blk_cell T3.out.x
  have zx := lt_of_block T3.out.x
  have cy := blk_cell T3.out.y
  have zy := lt_of_block T3.out.y
  have cv := blk_cell T3.out.v
  have zv := lt_of_block T3.out.v
  have fv := blk_frozen T3.out.v
  have cu := blk_cell T3.out.u
  have zu := lt_of_block T3.out.u
  have fu := blk_frozen T3.out.u
  have BT := T3.out.blw
  have T4 := Lib.hid (T3.out.putu k2 l2 A2 r2.length cap2)
  have I1 := Lib.hid (G1.out.set3 (b := w.heap.size + 1 + 1 + 1) (u0 := .int .i64 k2) (u1 := .int .i64 l2) (u2 := .slice A2 r2.length cap2) (fun b hb => by have := P1.out b hb; omega))
  have I2 := Lib.hid (D2.out.set3 (b := w.heap.size + 1 + 1 + 1) (u0 := .int .i64 k2) (u1 := .int .i64 l2) (u2 := .slice A2 r2.length cap2) (fun b hb => by have := P2.out b hb; omega))
  go_upto_region 5 with fail
  generalize ((w3.setCell ⟨w.heap.size + 1 + 1 + 1, 0, none⟩ (.int .i64 k2)).setCell ⟨w.heap.size + 1 + 1 + 1, 1, none⟩ (.int .i64 l2)).setCell ⟨w.heap.size + 1 + 1 + 1, 2, none⟩ (.slice A2 r2.length cap2) = W4 at T4 I1 I2 ⊢
  clear cx zx cy zy cv zv fv cu zu fu BT
  have cx := blk_cell T4.out.x
  have zx := lt_of_block T4.out.x
  have cy := blk_cell T4.out.y
  have zy := lt_of_block T4.out.y
  have cv := blk_cell T4.out.v
  have zv := lt_of_block T4.out.v
  have fv := blk_frozen T4.out.v
  have cu := blk_cell T4.out.u
  have zu := lt_of_block T4.out.u
  have fu := blk_frozen T4.out.u
  have BT := T4.out.blw
  go_region
  go_wp2_with fail
  refine bodyPost_ret (v := .tuple #[.pointer (some ⟨g1, 0, none⟩), .pointer (some ⟨g2, 0, none⟩), .agg #[.int .i64 k1, .int .i64 l1, .slice A1 r1.length cap1], .agg #[.int .i64 k2, .int .i64 l2, .slice A2 r2.length cap2], .bool true]) (by simp only [results, Tryz.results34]; go_simp) rfl ⟨g1, F1, g2, F2, rfl, ?_, ?_, (by repeat (first | with_reducible exact Below.refl _ _ | with_reducible assumption | ((with_reducible refine Below.setCell ?_ ?_ _); rotate_left; · (first | omega | exact Nat.le_refl _ | (simp <;> omega))) | (with_reducible refine Below.allocW ?_ _) | (with_reducible refine Below.drew ?_) | (with_reducible refine Below.extW ?_ _)))⟩
  · have ne2 : ∀ b, F1 b → b ≠ w.heap.size + 1 + 1 := fun b hb => by have := P1.out b hb; omega
    have ne3 : ∀ b, F1 b → b ≠ w.heap.size + 1 + 1 + 1 := fun b hb => by have := P1.out b hb; omega
    repeat (first | with_reducible exact I1.out | with_reducible exact I1.out.drew | with_reducible refine DigAt.drew ?_ | (refine DigAt.set ?_ ne2) | (refine DigAt.set ?_ ne3))
  · have ne2 : ∀ b, F2 b → b ≠ w.heap.size + 1 + 1 := fun b hb => by have := P2.out b hb; omega
    have ne3 : ∀ b, F2 b → b ≠ w.heap.size + 1 + 1 + 1 := fun b hb => by have := P2.out b hb; omega
    repeat (first | with_reducible exact I2.out | with_reducible exact I2.out.drew | with_reducible refine DigAt.drew ?_ | (refine DigAt.set ?_ ne2) | (refine DigAt.set ?_ ne3))
end Go.Proofs.YtpngailmhdiiiaaGreat
/- Chapter 21: the laws GapSides, GapMost. -/
namespace Go.Proofs.YtpngailmhdiiiaaGreat
open Go.ChangeShapes Go.WideShapes Go.ChangeAt Go.RowKit
set_option linter.unusedVariables false
set_option linter.unusedSimpArgs false
set_option maxRecDepth 100000

/-- The two that came in, in boxes. -/
structure In2 (w W : World) (v1 v2 : Array Value) : Prop where
  x : W.heap[w.heap.size]? = some (.cells v1 26 (0, 0))
  y : W.heap[w.heap.size + 1]? = some (.cells v2 26 (0, 0))
  blw : Below w.heap.size w W
theorem In2.new (w : World) (v1 v2 : Array Value) : In2 w ((w.alloc (.cells v1 26)).alloc (.cells v2 26)) v1 v2 :=
  ⟨(heap_new_lt _ _ _ (by simp)).trans (heap_alloc_new w _), heap_new_at (w.alloc _) _ _ (by simp), (by repeat (first | with_reducible exact Below.refl _ _ | with_reducible assumption | ((with_reducible refine Below.setCell ?_ ?_ _); rotate_left; · (first | omega | exact Nat.le_refl _ | (simp <;> omega))) | (with_reducible refine Below.allocW ?_ _) | (with_reducible refine Below.drew ?_) | (with_reducible refine Below.extW ?_ _)))⟩
set_option maxHeartbeats 4000000 in
theorem law_GapSides (l1 k1 K1 : Int) (r1 : List Nd) (A1 : Option Addr) (cap1 : Nat) (l2 k2 K2 : Int) (r2 : List Nd) (A2 : Option Addr) (cap2 : Nat) (x : Int) (w : World) (hS1 : Sl w w.heap.size encN A1 r1) (hI1 : ints r1) (_ : i64 l1) (_ : i64 k1) (_ : i64 K1) (hm1 : r1.length ≤ maxLen) (hS2 : Sl w w.heap.size encN A2 r2) (hI2 : ints r2) (_ : i64 l2) (_ : i64 k2) (_ : i64 K2) (hm2 : r2.length ≤ maxLen) (_ : (Lit.int .i64 x).wf = true) :
    Calls Tryz.prog 8 #[loadedV l1 k1 K1 A1 r1.length cap1, loadedV l2 k2 K2 A2 r2.length cap2, .int .i64 x] w fun e w' => e = .returned (.bool true) ∧ Below w.heap.size w w' := by
  have HX := Lib.hid (In2.new w #[.int .i64 l1, .int .i64 k1, .int .i64 K1, .slice A1 r1.length cap1] #[.int .i64 l2, .int .i64 k2, .int .i64 K2, .slice A2 r2.length cap2])
  have HS := Lib.hid (And.intro hS1 hS2)
  by_cases h : twoGood l1 k1 K1 r1 l2 k2 K2 r2
  · have hg := h
    obtain ⟨⟨hg1, hg2⟩, n1, n2⟩ := hg
    obtain ⟨l1, K1, rfl, rfl⟩ := goodL_nat hg1.2.2
    obtain ⟨l2, K2, rfl, rfl⟩ := goodL_nat hg2.2.2
    have HC := Lib.hid (fun (W : World) (a : Sl W W.heap.size encN A1 r1) (b : Sl W W.heap.size encN A2 r2) => law21_two W l1 K1 l2 K2 k1 k2 A1 A2 cap1 cap2 r1 r2 h a b hI1 hI2)
    have f1 := right_fits (goodL_parts hg1.2.2).1
    have f2 := right_fits (goodL_parts hg2.2.2).1
    have p1 : r1.length ≤ 67108864 := by omega
    have p2 : r2.length ≤ 67108864 := by omega
    have HR := Lib.hid (fun (W : World) (q1 : l1 ≤ 48) (q2 : l2 ≤ 48) (a : Sl W W.heap.size encN A1 r1) (b : Sl W W.heap.size encN A2 r2) => ref21_Side W k1 k2 l1 l2 A1 A2 cap1 cap2 r1 r2 x q1 q2 a b hI1 hI2 p1 p2 f1.1 f2.1 f1.2 f2.2)
    have HA := Lib.hid (fun (W : World) (q1 : l1 ≤ 48) (q2 : l2 ≤ 48) (a : Sl W W.heap.size encN A1 r1) (b : Sl W W.heap.size encN A2 r2) => ref21_Apart W k1 k2 l1 l2 A1 A2 cap1 cap2 r1 r2 q1 q2 a b hI1 hI2 p1 p2 f1.1 f2.1 f1.2 f2.2)
    unfold loadedV TwoPost at HC
    unfold loadedV
    clear h hS1 hS2 hI1 hI2 hg1 hg2 f1 f2
    go_enter Tryz.func8, Tryz.ntmps8
    go_upto_region 1 with fail
    generalize (w.alloc (.cells #[.int .i64 l1, .int .i64 k1, .int .i64 K1, .slice A1 r1.length cap1] 26)).alloc (.cells #[.int .i64 l2, .int .i64 k2, .int .i64 K2, .slice A2 r2.length cap2] 26) = W0 at HX ⊢
    have cx := blk_cell HX.out.x
    have cy := blk_cell HX.out.y
    have zx := lt_of_block HX.out.x
    have zy := lt_of_block HX.out.y
    have BX := HX.out.blw
    have S1 := Lib.hid (HS.out.1.keep (B' := W0.heap.size) BX.size fun p hp => BX.cell hp)
    have S2 := Lib.hid (HS.out.2.keep (B' := W0.heap.size) BX.size fun p hp => BX.cell hp)
    go_wp2_with fail
    refine (HC.out _ S1.out S2.out).mono ?_
    rintro e w1 ⟨g1, F1, g2, F2, rfl, hD1, hD2, hb1⟩
    have B1 := Lib.hid (BX.trans (hb1.mono BX.size))
    have T1 := Lib.hid (SlU.alloc (SlU.alloc (S1.out.keep (B' := w1.heap.size) hb1.size fun p hp => hb1.cell hp) (.cells #[.int .i64 k1, .int .i64 l1, .slice A1 r1.length cap1] 37)) (.cells #[.int .i64 k2, .int .i64 l2, .slice A2 r2.length cap2] 37))
    have T2 := Lib.hid (SlU.alloc (SlU.alloc (S2.out.keep (B' := w1.heap.size) hb1.size fun p hp => hb1.cell hp) (.cells #[.int .i64 k1, .int .i64 l1, .slice A1 r1.length cap1] 37)) (.cells #[.int .i64 k2, .int .i64 l2, .slice A2 r2.length cap2] 37))
    have D1 := Lib.hid ((hD1.alloc (.cells #[.int .i64 k1, .int .i64 l1, .slice A1 r1.length cap1] 37)).alloc (.cells #[.int .i64 k2, .int .i64 l2, .slice A2 r2.length cap2] 37))
    have D2 := Lib.hid ((hD2.alloc (.cells #[.int .i64 k1, .int .i64 l1, .slice A1 r1.length cap1] 37)).alloc (.cells #[.int .i64 k2, .int .i64 l2, .slice A2 r2.length cap2] 37))
    have q1 := hD1.l_le
    have q2 := hD2.l_le
    have X1 : Hid (digBox ((w1.alloc (.cells #[.int .i64 k1, .int .i64 l1, .slice A1 r1.length cap1] 37)).alloc (.cells #[.int .i64 k2, .int .i64 l2, .slice A2 r2.length cap2] 37)) w1.heap.size k1 l1 A1 r1.length cap1) := Lib.hid (twoBox_1 w1 k1 l1 A1 r1.length cap1 k2 l2 A2 r2.length cap2)
    have X2 : Hid (digBox ((w1.alloc (.cells #[.int .i64 k1, .int .i64 l1, .slice A1 r1.length cap1] 37)).alloc (.cells #[.int .i64 k2, .int .i64 l2, .slice A2 r2.length cap2] 37)) (w1.heap.size + 1) k2 l2 A2 r2.length cap2) := Lib.hid (twoBox_2 w1 k1 l1 A1 r1.length cap1 k2 l2 A2 r2.length cap2)
    have BB : Hid (Below w.heap.size w ((w1.alloc (.cells #[.int .i64 k1, .int .i64 l1, .slice A1 r1.length cap1] 37)).alloc (.cells #[.int .i64 k2, .int .i64 l2, .slice A2 r2.length cap2] 37))) := Lib.hid (B1.out.trans ((twoBox_below w1 k1 l1 A1 r1.length cap1 k2 l2 A2 r2.length cap2).mono B1.out.size))
    clear hb1 hD1 hD2 cx cy zx zy BX B1
    go_upto_region 4 with fail
    generalize (w1.alloc (.cells #[.int .i64 k1, .int .i64 l1, .slice A1 r1.length cap1] 37)).alloc (.cells #[.int .i64 k2, .int .i64 l2, .slice A2 r2.length cap2] 37) = w2 at T1 T2 D1 D2 X1 X2 BB ⊢
    have X2a := X1
    have X2b := X2
    have D2a := D1
    have D2b := D2
    have T2a := T1
    have T2b := T2
    have B2 := BB
    have ca := blk_cell X2a.out
    have cb := blk_cell X2b.out
    have za := lt_of_block X2a.out
    have zb := lt_of_block X2b.out
    clear X1 X2 D1 D2 T1 T2 BB S1 S2 HX HS HC
    go_wp2_with fail
    refine (gap_Side _ g1 K1 l1 g2 K2 l2 k1 k2 r1 r2 F1 F2 x D2a.out D2b.out p1 p2).mono ?_
    rintro e w3 ⟨rfl, hb3⟩
    have X3a := Lib.hid (X2a.out.below hb3)
    have X3b := Lib.hid (X2b.out.below hb3)
    have D3a := Lib.hid (D2a.out.below hb3)
    have D3b := Lib.hid (D2b.out.below hb3)
    have T3a := Lib.hid (T2a.out.keep (B' := w3.heap.size) hb3.size fun p hp => hb3.cell hp)
    have T3b := Lib.hid (T2b.out.keep (B' := w3.heap.size) hb3.size fun p hp => hb3.cell hp)
    have B3 := Lib.hid (B2.out.trans (hb3.mono B2.out.size))
    clear hb3 X2a X2b D2a D2b T2a T2b B2 ca cb za zb
    have ca := blk_cell X3a.out
    have cb := blk_cell X3b.out
    have za := lt_of_block X3a.out
    have zb := lt_of_block X3b.out
    go_wp2_with fail
    refine (HR.out _ q1.2 q2.2 T3a.out T3b.out).mono ?_
    rintro e w4 ⟨rfl, hb4⟩
    have X4a := Lib.hid (X3a.out.below hb4)
    have X4b := Lib.hid (X3b.out.below hb4)
    have D4a := Lib.hid (D3a.out.below hb4)
    have D4b := Lib.hid (D3b.out.below hb4)
    have T4a := Lib.hid (T3a.out.keep (B' := w4.heap.size) hb4.size fun p hp => hb4.cell hp)
    have T4b := Lib.hid (T3b.out.keep (B' := w4.heap.size) hb4.size fun p hp => hb4.cell hp)
    have B4 := Lib.hid (B3.out.trans (hb4.mono B3.out.size))
    clear hb4 X3a X3b D3a D3b T3a T3b B3 ca cb za zb
    have ca := blk_cell X4a.out
    have cb := blk_cell X4b.out
    have za := lt_of_block X4a.out
    have zb := lt_of_block X4b.out
    go_wp2_with fail
    refine (gap_Apart _ g1 K1 l1 g2 K2 l2 k1 k2 r1 r2 F1 F2 D4a.out D4b.out p1 p2).mono ?_
    rintro e w5 ⟨rfl, hb5⟩
    have X5a := Lib.hid (X4a.out.below hb5)
    have X5b := Lib.hid (X4b.out.below hb5)
    have D5a := Lib.hid (D4a.out.below hb5)
    have D5b := Lib.hid (D4b.out.below hb5)
    have T5a := Lib.hid (T4a.out.keep (B' := w5.heap.size) hb5.size fun p hp => hb5.cell hp)
    have T5b := Lib.hid (T4b.out.keep (B' := w5.heap.size) hb5.size fun p hp => hb5.cell hp)
    have B5 := Lib.hid (B4.out.trans (hb5.mono B4.out.size))
    clear hb5 X4a X4b D4a D4b T4a T4b B4 ca cb za zb
    have ca := blk_cell X5a.out
    have cb := blk_cell X5b.out
    have za := lt_of_block X5a.out
    have zb := lt_of_block X5b.out
    go_wp2_with fail
    refine (HA.out _ q1.2 q2.2 T5a.out T5b.out).mono ?_
    rintro e w6 ⟨rfl, hb6⟩
    have X6a := Lib.hid (X5a.out.below hb6)
    have X6b := Lib.hid (X5b.out.below hb6)
    have D6a := Lib.hid (D5a.out.below hb6)
    have D6b := Lib.hid (D5b.out.below hb6)
    have T6a := Lib.hid (T5a.out.keep (B' := w6.heap.size) hb6.size fun p hp => hb6.cell hp)
    have T6b := Lib.hid (T5b.out.keep (B' := w6.heap.size) hb6.size fun p hp => hb6.cell hp)
    have B6 := Lib.hid (B5.out.trans (hb6.mono B5.out.size))
    clear hb6 X5a X5b D5a D5b T5a T5b B5 ca cb za zb
    have ca := blk_cell X6a.out
    have cb := blk_cell X6b.out
    have za := lt_of_block X6a.out
    have zb := lt_of_block X6b.out
    go_wp2_with fail
    refine (alive21 _).mono ?_
    rintro e w7 ⟨rfl, hb7⟩
    go_wp2_with fail
    go_ret
    exact ⟨rfl, B6.out.trans (hb7.mono B6.out.size)⟩
  · have HC := Lib.hid (fun (W : World) (a : Sl W W.heap.size encN A1 r1) (b : Sl W W.heap.size encN A2 r2) => law21_two_no W l1 k1 K1 l2 k2 K2 A1 A2 cap1 cap2 r1 r2 h a b hI1 hI2 hm1 hm2)
    unfold loadedV at HC
    unfold loadedV
    clear h hS1 hS2 hI1 hI2
    go_enter Tryz.func8, Tryz.ntmps8
    go_upto_region 1 with fail
    generalize (w.alloc (.cells #[.int .i64 l1, .int .i64 k1, .int .i64 K1, .slice A1 r1.length cap1] 26)).alloc (.cells #[.int .i64 l2, .int .i64 k2, .int .i64 K2, .slice A2 r2.length cap2] 26) = W0 at HX ⊢
    have cx := blk_cell HX.out.x
    have cy := blk_cell HX.out.y
    have zx := lt_of_block HX.out.x
    have zy := lt_of_block HX.out.y
    have BX := HX.out.blw
    go_wp2_with fail
    refine (HC.out _ (HS.out.1.keep BX.size fun p hp => BX.cell hp) (HS.out.2.keep BX.size fun p hp => BX.cell hp)).mono ?_
    rintro e w1 ⟨a, b, x0, x1, X, n, m, y0, y1, Y, n', m', rfl, hb1⟩
    have B1 := BX.trans (hb1.mono BX.size)
    clear hb1 cx cy zx zy
    go_wp2_with fail
    refine (alive21 _).mono ?_
    rintro e w2 ⟨rfl, hb2⟩
    have B2 : Below w.heap.size w w2 := Below.then_ (by repeat (first | with_reducible exact Below.refl _ _ | with_reducible assumption | ((with_reducible refine Below.setCell ?_ ?_ _); rotate_left; · (first | omega | exact Nat.le_refl _ | (simp <;> omega))) | (with_reducible refine Below.allocW ?_ _) | (with_reducible refine Below.drew ?_) | (with_reducible refine Below.extW ?_ _))) hb2
    have s2 : w.heap.size ≤ w2.heap.size := B2.size
    go_wp2_with fail
    go_ret
    exact ⟨rfl, (by repeat (first | with_reducible exact Below.refl _ _ | with_reducible assumption | ((with_reducible refine Below.setCell ?_ ?_ _); rotate_left; · (first | omega | exact Nat.le_refl _ | (simp <;> omega))) | (with_reducible refine Below.allocW ?_ _) | (with_reducible refine Below.drew ?_) | (with_reducible refine Below.extW ?_ _)))⟩
end Go.Proofs.YtpngailmhdiiiaaGreat
/- Chapter 21: the law GapMost. -/
namespace Go.Proofs.YtpngailmhdiiiaaGreat
open Go.ChangeShapes Go.WideShapes Go.ChangeAt Go.RowKit
set_option linter.unusedVariables false
set_option linter.unusedSimpArgs false
set_option maxRecDepth 100000

set_option maxHeartbeats 4000000 in
theorem law_GapMost (l1 k1 K1 : Int) (r1 : List Nd) (A1 : Option Addr) (cap1 : Nat) (l2 k2 K2 : Int) (r2 : List Nd) (A2 : Option Addr) (cap2 : Nat) (x : Int) (w : World) (hS1 : Sl w w.heap.size encN A1 r1) (hI1 : ints r1) (_ : i64 l1) (_ : i64 k1) (_ : i64 K1) (hm1 : r1.length ≤ maxLen) (hS2 : Sl w w.heap.size encN A2 r2) (hI2 : ints r2) (_ : i64 l2) (_ : i64 k2) (_ : i64 K2) (hm2 : r2.length ≤ maxLen) (wx : (Lit.int .i64 x).wf = true) :
    Calls Tryz.prog 9 #[loadedV l1 k1 K1 A1 r1.length cap1, loadedV l2 k2 K2 A2 r2.length cap2, .int .i64 x] w fun e w' => e = .returned (.bool true) ∧ Below w.heap.size w w' := by
  have HX := Lib.hid (In2.new w #[.int .i64 l1, .int .i64 k1, .int .i64 K1, .slice A1 r1.length cap1] #[.int .i64 l2, .int .i64 k2, .int .i64 K2, .slice A2 r2.length cap2])
  have HS := Lib.hid (And.intro hS1 hS2)
  by_cases h : twoGood l1 k1 K1 r1 l2 k2 K2 r2
  · have hg := h
    obtain ⟨⟨hg1, hg2⟩, n1, n2⟩ := hg
    obtain ⟨l1, K1, rfl, rfl⟩ := goodL_nat hg1.2.2
    obtain ⟨l2, K2, rfl, rfl⟩ := goodL_nat hg2.2.2
    have HC := Lib.hid (fun (W : World) (a : Sl W W.heap.size encN A1 r1) (b : Sl W W.heap.size encN A2 r2) => law21_two W l1 K1 l2 K2 k1 k2 A1 A2 cap1 cap2 r1 r2 h a b hI1 hI2)
    have f1 := right_fits (goodL_parts hg1.2.2).1
    have f2 := right_fits (goodL_parts hg2.2.2).1
    have p1 : r1.length ≤ 67108864 := by omega
    have p2 : r2.length ≤ 67108864 := by omega
    have hx : x ≤ 9223372036854775807 := by
      have := i64_of_wf wx
      exact this.2
    have HR := Lib.hid (fun (W : World) (q1 : l1 ≤ 48) (q2 : l2 ≤ 48) (a : Sl W W.heap.size encN A1 r1) (b : Sl W W.heap.size encN A2 r2) => ref21_Most W k1 k2 l1 l2 A1 A2 cap1 cap2 r1 r2 x q1 q2 a b hI1 hI2 p1 p2 f1.1 f2.1 f1.2 f2.2 hx)
    unfold loadedV TwoPost at HC
    unfold loadedV
    clear h hS1 hS2 hI1 hI2 hg1 hg2 f1 f2
    go_enter Tryz.func9, Tryz.ntmps9
    go_upto_region 1 with fail
    generalize (w.alloc (.cells #[.int .i64 l1, .int .i64 k1, .int .i64 K1, .slice A1 r1.length cap1] 26)).alloc (.cells #[.int .i64 l2, .int .i64 k2, .int .i64 K2, .slice A2 r2.length cap2] 26) = W0 at HX ⊢
    have cx := blk_cell HX.out.x
    have cy := blk_cell HX.out.y
    have zx := lt_of_block HX.out.x
    have zy := lt_of_block HX.out.y
    have BX := HX.out.blw
    have S1 := Lib.hid (HS.out.1.keep (B' := W0.heap.size) BX.size fun p hp => BX.cell hp)
    have S2 := Lib.hid (HS.out.2.keep (B' := W0.heap.size) BX.size fun p hp => BX.cell hp)
    go_wp2_with fail
    refine (HC.out _ S1.out S2.out).mono ?_
    rintro e w1 ⟨g1, F1, g2, F2, rfl, hD1, hD2, hb1⟩
    have B1 := Lib.hid (BX.trans (hb1.mono BX.size))
    have T1 := Lib.hid (SlU.alloc (SlU.alloc (S1.out.keep (B' := w1.heap.size) hb1.size fun p hp => hb1.cell hp) (.cells #[.int .i64 k1, .int .i64 l1, .slice A1 r1.length cap1] 37)) (.cells #[.int .i64 k2, .int .i64 l2, .slice A2 r2.length cap2] 37))
    have T2 := Lib.hid (SlU.alloc (SlU.alloc (S2.out.keep (B' := w1.heap.size) hb1.size fun p hp => hb1.cell hp) (.cells #[.int .i64 k1, .int .i64 l1, .slice A1 r1.length cap1] 37)) (.cells #[.int .i64 k2, .int .i64 l2, .slice A2 r2.length cap2] 37))
    have D1 := Lib.hid ((hD1.alloc (.cells #[.int .i64 k1, .int .i64 l1, .slice A1 r1.length cap1] 37)).alloc (.cells #[.int .i64 k2, .int .i64 l2, .slice A2 r2.length cap2] 37))
    have D2 := Lib.hid ((hD2.alloc (.cells #[.int .i64 k1, .int .i64 l1, .slice A1 r1.length cap1] 37)).alloc (.cells #[.int .i64 k2, .int .i64 l2, .slice A2 r2.length cap2] 37))
    have q1 := hD1.l_le
    have q2 := hD2.l_le
    have X1 : Hid (digBox ((w1.alloc (.cells #[.int .i64 k1, .int .i64 l1, .slice A1 r1.length cap1] 37)).alloc (.cells #[.int .i64 k2, .int .i64 l2, .slice A2 r2.length cap2] 37)) w1.heap.size k1 l1 A1 r1.length cap1) := Lib.hid (twoBox_1 w1 k1 l1 A1 r1.length cap1 k2 l2 A2 r2.length cap2)
    have X2 : Hid (digBox ((w1.alloc (.cells #[.int .i64 k1, .int .i64 l1, .slice A1 r1.length cap1] 37)).alloc (.cells #[.int .i64 k2, .int .i64 l2, .slice A2 r2.length cap2] 37)) (w1.heap.size + 1) k2 l2 A2 r2.length cap2) := Lib.hid (twoBox_2 w1 k1 l1 A1 r1.length cap1 k2 l2 A2 r2.length cap2)
    have BB : Hid (Below w.heap.size w ((w1.alloc (.cells #[.int .i64 k1, .int .i64 l1, .slice A1 r1.length cap1] 37)).alloc (.cells #[.int .i64 k2, .int .i64 l2, .slice A2 r2.length cap2] 37))) := Lib.hid (B1.out.trans ((twoBox_below w1 k1 l1 A1 r1.length cap1 k2 l2 A2 r2.length cap2).mono B1.out.size))
    clear hb1 hD1 hD2 cx cy zx zy BX B1
    go_upto_region 4 with fail
    generalize (w1.alloc (.cells #[.int .i64 k1, .int .i64 l1, .slice A1 r1.length cap1] 37)).alloc (.cells #[.int .i64 k2, .int .i64 l2, .slice A2 r2.length cap2] 37) = w2 at T1 T2 D1 D2 X1 X2 BB ⊢
    have X2a := X1
    have X2b := X2
    have D2a := D1
    have D2b := D2
    have T2a := T1
    have T2b := T2
    have B2 := BB
    have ca := blk_cell X2a.out
    have cb := blk_cell X2b.out
    have za := lt_of_block X2a.out
    have zb := lt_of_block X2b.out
    clear X1 X2 D1 D2 T1 T2 BB S1 S2 HX HS HC
    go_wp2_with fail
    refine (gap_Most _ g1 K1 l1 g2 K2 l2 k1 k2 r1 r2 F1 F2 x D2a.out D2b.out p1 p2 hx).mono ?_
    rintro e w3 ⟨rfl, hb3⟩
    generalize gapMostT l1 l2 r1 r2 x = res at HR ⊢
    generalize gapMostErr l1 l2 r1 r2 x = er at HR ⊢
    have X3a := Lib.hid (X2a.out.below (hb3.alloc hb3.size (.cells #[.int .i64 res.1, .int .i64 res.2] 29)))
    have X3b := Lib.hid (X2b.out.below (hb3.alloc hb3.size (.cells #[.int .i64 res.1, .int .i64 res.2] 29)))
    have T3a := Lib.hid (SlU.alloc (T2a.out.keep (B' := w3.heap.size) hb3.size fun p hp => hb3.cell hp) (.cells #[.int .i64 res.1, .int .i64 res.2] 29))
    have T3b := Lib.hid (SlU.alloc (T2b.out.keep (B' := w3.heap.size) hb3.size fun p hp => hb3.cell hp) (.cells #[.int .i64 res.1, .int .i64 res.2] 29))
    have B3 := Lib.hid (B2.out.trans ((hb3.alloc hb3.size (.cells #[.int .i64 res.1, .int .i64 res.2] 29)).mono B2.out.size))
    have R3 := Lib.hid (bothAt.new w3 res.1 res.2)
    clear hb3 X2a X2b D2a D2b T2a T2b B2 ca cb za zb
    have ca := blk_cell X3a.out
    have cb := blk_cell X3b.out
    have za := lt_of_block X3a.out
    have zb := lt_of_block X3b.out
    go_wp2_with fail
    refine (HR.out _ q1.2 q2.2 T3a.out T3b.out).mono ?_
    rintro e w4 ⟨rfl, hb4⟩
    have B4 := Lib.hid (B3.out.trans (hb4.mono B3.out.size))
    have R4 := Lib.hid (R3.out.below hb4)
    have cr := blk_cell R4.out
    have zr := lt_of_block R4.out
    clear hb4 X3a X3b T3a T3b B3 ca cb za zb R3
    go_wp2_with fail
    refine (alive21 _).mono ?_
    rintro e w7 ⟨rfl, hb7⟩
    go_wp2_with fail
    go_ret
    exact ⟨rfl, (B4.out.alloc B4.out.size _).trans (hb7.mono (B4.out.alloc B4.out.size _).size)⟩
  · have HC := Lib.hid (fun (W : World) (a : Sl W W.heap.size encN A1 r1) (b : Sl W W.heap.size encN A2 r2) => law21_two_no W l1 k1 K1 l2 k2 K2 A1 A2 cap1 cap2 r1 r2 h a b hI1 hI2 hm1 hm2)
    unfold loadedV at HC
    unfold loadedV
    clear h hS1 hS2 hI1 hI2
    go_enter Tryz.func9, Tryz.ntmps9
    go_upto_region 1 with fail
    generalize (w.alloc (.cells #[.int .i64 l1, .int .i64 k1, .int .i64 K1, .slice A1 r1.length cap1] 26)).alloc (.cells #[.int .i64 l2, .int .i64 k2, .int .i64 K2, .slice A2 r2.length cap2] 26) = W0 at HX ⊢
    have cx := blk_cell HX.out.x
    have cy := blk_cell HX.out.y
    have zx := lt_of_block HX.out.x
    have zy := lt_of_block HX.out.y
    have BX := HX.out.blw
    go_wp2_with fail
    refine (HC.out _ (HS.out.1.keep BX.size fun p hp => BX.cell hp) (HS.out.2.keep BX.size fun p hp => BX.cell hp)).mono ?_
    rintro e w1 ⟨a, b, x0, x1, X, n, m, y0, y1, Y, n', m', rfl, hb1⟩
    have B1 := BX.trans (hb1.mono BX.size)
    clear hb1 cx cy zx zy
    go_wp2_with fail
    refine (alive21 _).mono ?_
    rintro e w2 ⟨rfl, hb2⟩
    have B2 : Below w.heap.size w w2 := Below.then_ (by repeat (first | with_reducible exact Below.refl _ _ | with_reducible assumption | ((with_reducible refine Below.setCell ?_ ?_ _); rotate_left; · (first | omega | exact Nat.le_refl _ | (simp <;> omega))) | (with_reducible refine Below.allocW ?_ _) | (with_reducible refine Below.drew ?_) | (with_reducible refine Below.extW ?_ _))) hb2
    have s2 : w.heap.size ≤ w2.heap.size := B2.size
    go_wp2_with fail
    go_ret
    exact ⟨rfl, (by repeat (first | with_reducible exact Below.refl _ _ | with_reducible assumption | ((with_reducible refine Below.setCell ?_ ?_ _); rotate_left; · (first | omega | exact Nat.le_refl _ | (simp <;> omega))) | (with_reducible refine Below.allocW ?_ _) | (with_reducible refine Below.drew ?_) | (with_reducible refine Below.extW ?_ _)))⟩
end Go.Proofs.YtpngailmhdiiiaaGreat
