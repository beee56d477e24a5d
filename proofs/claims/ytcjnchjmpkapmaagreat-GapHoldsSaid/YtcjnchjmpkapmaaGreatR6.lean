/-
  Texts of this proof, one behind the other: Bag, BagPut, BagAdd, BagMake, Ref10, Ref10Put, Ref10Of, BagMade, RoomLaw, Made13.
-/
import Derived.Shelf.Spec.SlicesInsert
import Derived.Deep.RegionWith
import Derived.Test.YtcjnchjmpkapmaaGreatP1
import Derived.Test.YtcjnchjmpkapmaaGreatP2
import Derived.Test.YtcjnchjmpkapmaaGreatR4
import Derived.Test.YtcjnchjmpkapmaaGreatR5
/- Package bag: what is read of it. -/
set_option linter.unusedSimpArgs false namespace Go.Proofs.YtcjnchjmpkapmaaGreat
open Go.ChangeShapes Go.WideShapes Go.ChangeAt Go.RowKit
set_option linter.unusedVariables false
set_option linter.unusedSimpArgs false
set_option maxRecDepth 100000

def BagS (w : World) (base g : Nat) (l s : Int) (m : List Nd) : Prop := ∃ v, w.heap[g]? = some (.cells #[.int .i64 l, .int .i64 s, v] 221 (0, 0)) ∧ base ≤ g ∧ Own w base 96 encN v m
abbrev BagAt (w : World) (base g : Nat) (l : Int) (m : List Nd) : Prop := BagS w base g l (sumR m) m
end Go.Proofs.YtcjnchjmpkapmaaGreat
/- Package bag: what is put into it. -/
namespace Go.Proofs.YtcjnchjmpkapmaaGreat
open Go.ChangeShapes Go.WideShapes Go.ChangeAt Go.RowKit
set_option linter.unusedVariables false
set_option linter.unusedSimpArgs false
set_option maxRecDepth 100000

end Go.Proofs.YtcjnchjmpkapmaaGreat
/- Package bag: put, Add. -/
namespace Go.Proofs.YtcjnchjmpkapmaaGreat
open Go.ChangeShapes Go.WideShapes Go.ChangeAt Go.RowKit
set_option linter.unusedVariables false
set_option linter.unusedSimpArgs false
set_option maxRecDepth 100000

theorem tyRd : SliceTy Tryz.prog 29 96 2 16 (.agg #[.int .i64 0, .int .i64 0]) := ⟨Tryz.underlying29, by kernel_rfl, rfl, by decide⟩
end Go.Proofs.YtcjnchjmpkapmaaGreat
/- Package bag: Add. -/
namespace Go.Proofs.YtcjnchjmpkapmaaGreat
open Go.ChangeShapes Go.WideShapes Go.ChangeAt Go.RowKit
set_option linter.unusedVariables false
set_option linter.unusedSimpArgs false
set_option maxRecDepth 100000

end Go.Proofs.YtcjnchjmpkapmaaGreat
/- Reference 10: bags. -/
namespace Go.Proofs.YtcjnchjmpkapmaaGreat
open Go.ChangeShapes Go.WideShapes Go.ChangeAt Go.RowKit
set_option linter.unusedVariables false
set_option linter.unusedSimpArgs false
set_option maxRecDepth 100000

def bagV (l : Int) (A : Option Addr) (n cap : Nat) : Value := .agg #[.int .i64 l, .slice A n cap]
theorem sumV_take {m : List Nd} {q : Nat} (h : q < m.length) : sumR (m.take (q + 1)) = sumR (m.take q) + m[q].2 := by
  rw [List.take_succ_eq_append_getElem h, sumR_append]; simp [sumR]
theorem sumV_take_le {m : List Nd} (h : ∀ x ∈ m, 1 ≤ x.2) (q : Nat) : 0 ≤ sumR (m.take q) ∧ sumR (m.take q) ≤ sumR m := by
  have e1 : sumR m = sumR (m.take q) + sumR (m.drop q) := by rw [← sumR_append, List.take_append_drop]
  have e3 := (sumR_pos (m := m.drop q) fun y hy => h y (List.mem_of_mem_drop hy)).1
  have e4 := (sumR_pos (m := m.take q) fun y hy => h y (List.mem_of_mem_take hy)).1
  omega
theorem ref10_Total (w : World) (l : Int) (A : Option Addr) (cap : Nat) (m : List Nd) (hS : Sl w w.heap.size encN A m) (hv : ∀ x ∈ m, 1 ≤ x.2) (hs : sumR m ≤ 72057594037927935) :
    Calls Tryz.prog 33 #[bagV l A m.length cap] w fun e w' => e = .returned (.int .i64 (sumR m)) ∧ Below w.heap.size w w' := by
  have hml : (m.length : Int) ≤ 72057594037927935 := by have := (sumR_pos hv).2; omega
  have HS := Lib.hid hS
  have HV := Lib.hid hv
  clear hS hv
  unfold bagV
  have X0 : Hid ((w.alloc (.cells #[.int .i64 l, .slice A m.length cap] 31)).heap[w.heap.size]? = some (.cells #[.int .i64 l, .slice A m.length cap] 31 (0, 0))) := Lib.hid (heap_alloc_new w _)
  go_enter Tryz.func33, Tryz.ntmps33
  go_wp2_with fail
  go_loopw [3, 4] (fun n j wr => ∃ q : Nat, q ≤ m.length ∧ j = .int .i64 q ∧ n = .int .i64 (sumR (m.take q)) ∧ wr.heap[w.heap.size]? = some (.cells #[.int .i64 l, .slice A m.length cap] 31 (0, 0)) ∧ Below w.heap.size w wr) (fun _ j _ => m.length - (intOf j).toNat)
  case atStart => exact ⟨0, Nat.zero_le _, rfl, rfl, X0.out, (by repeat (first | with_reducible exact Below.refl _ _ | with_reducible assumption | ((with_reducible refine Below.setCell ?_ ?_ _); rotate_left; · (first | omega | exact Nat.le_refl _ | (simp <;> omega))) | (with_reducible refine Below.allocW ?_ _) | (with_reducible refine Below.drew ?_) | (with_reducible refine Below.extW ?_ _)))⟩
  case round =>
    obtain ⟨q, hq, rfl, rfl, hX, hB⟩ := hrel
    have c0 : wr.cell? ⟨w.heap.size, 1, none⟩ = some (.slice A m.length cap) := by rw [blk_cell hX]; rfl
    have z0 := lt_of_block hX
    have HX := Lib.hid hX
    clear hX
    by_cases hlt : q < m.length
    · have hE := Lib.hid (sumV_take hlt)
      obtain ⟨b, off, rfl, hb, hc⟩ := HS.out.at_ hlt
      have d0 := (hB.cell (p := ⟨b, off + q * 2 + 1, none⟩) hb).trans (hc 1 (.int .i64 m[q].2) rfl)
      have lb : b < wr.heap.size := Nat.lt_of_lt_of_le hb hB.size
      have v1 := HV.out _ (List.getElem_mem hlt)
      have s0 := (sumV_take_le HV.out q).1
      have s1 := (sumV_take_le HV.out (q + 1)).2
      rw [hE.out] at s1
      obtain ⟨c, hc1⟩ : ∃ c, c = m[q].2 := ⟨_, rfl⟩
      rw [← hc1] at d0 v1 s1 hE
      obtain ⟨n, hn⟩ : ∃ n, n = sumR (m.take q) := ⟨_, rfl⟩
      rw [← hn] at s0 s1 hE ⊢
      have hsum : n + c ≤ 72057594037927935 := by omega
      clear hc s1 hn
      go_wp2_with fail
      go_roundw
      case rel => exact ⟨q + 1, by omega, by go_num, by (rw [hE.out]; try go_num), HX.out, hB⟩
      case measure => simp [intOf]; omega
    · obtain rfl : q = m.length := by omega
      rw [List.take_length]
      go_wp2_with fail
      go_ret
      exact ⟨rfl, hB⟩
theorem betwB_take {m : List Nd} {q : Nat} (h : q < m.length) (x y : Int) : betwB (m.take (q + 1)) x y = betwB (m.take q) x y + if x ≤ m[q].1 ∧ m[q].1 ≤ y then m[q].2 else 0 := by
  rw [List.take_succ_eq_append_getElem h, betwB_append, betwB_one]
theorem ref10_Between (w : World) (l : Int) (A : Option Addr) (cap : Nat) (m : List Nd) (x y : Int) (hS : Sl w w.heap.size encN A m) (hv : ∀ x ∈ m, 1 ≤ x.2) (hs : sumR m ≤ 72057594037927935) :
    Calls Tryz.prog 45 #[bagV l A m.length cap, .int .i64 x, .int .i64 y] w fun e w' => e = .returned (.int .i64 (betwB m x y)) ∧ Below w.heap.size w w' := by
  have hml : (m.length : Int) ≤ 72057594037927935 := by have := (sumR_pos hv).2; omega
  have HS := Lib.hid hS
  have HV := Lib.hid hv
  clear hS hv
  unfold bagV
  have X0 : Hid ((w.alloc (.cells #[.int .i64 l, .slice A m.length cap] 31)).heap[w.heap.size]? = some (.cells #[.int .i64 l, .slice A m.length cap] 31 (0, 0))) := Lib.hid (heap_alloc_new w _)
  go_enter Tryz.func45, Tryz.ntmps45
  go_wp2_with fail
  go_loopw [7, 8] (fun n j wr => ∃ q : Nat, q ≤ m.length ∧ j = .int .i64 q ∧ n = .int .i64 (betwB (m.take q) x y) ∧ wr.heap[w.heap.size]? = some (.cells #[.int .i64 l, .slice A m.length cap] 31 (0, 0)) ∧ Below w.heap.size w wr) (fun _ j _ => m.length - (intOf j).toNat)
  case atStart => exact ⟨0, Nat.zero_le _, rfl, rfl, X0.out, (by repeat (first | with_reducible exact Below.refl _ _ | with_reducible assumption | ((with_reducible refine Below.setCell ?_ ?_ _); rotate_left; · (first | omega | exact Nat.le_refl _ | (simp <;> omega))) | (with_reducible refine Below.allocW ?_ _) | (with_reducible refine Below.drew ?_) | (with_reducible refine Below.extW ?_ _)))⟩
  case round =>
    obtain ⟨q, hq, rfl, rfl, hX, hB⟩ := hrel
    have c0 : wr.cell? ⟨w.heap.size, 1, none⟩ = some (.slice A m.length cap) := by rw [blk_cell hX]; rfl
    have z0 := lt_of_block hX
    have HX := Lib.hid hX
    clear hX
    by_cases hlt : q < m.length
    · have hE := Lib.hid (betwB_take hlt x y)
      obtain ⟨b, off, rfl, hb, hc⟩ := HS.out.at_ hlt
      have d0 := (hB.cell (p := ⟨b, off + q * 2 + 1, none⟩) hb).trans (hc 1 (.int .i64 m[q].2) rfl)
      have d1 := (hB.cell (p := ⟨b, off + q * 2, none⟩) hb).trans (by have := hc 0 (.int .i64 m[q].1) rfl; simpa using this)
      have lb : b < wr.heap.size := Nat.lt_of_lt_of_le hb hB.size
      have v1 := HV.out _ (List.getElem_mem hlt)
      have s0 := (betwB_le (m := m.take q) (fun u hu => HV.out u (List.mem_of_mem_take hu)) x y)
      have s1 := (sumV_take_le HV.out (q + 1)).2
      rw [sumV_take hlt] at s1
      obtain ⟨c, hc1⟩ : ∃ c, c = m[q].2 := ⟨_, rfl⟩
      obtain ⟨v, hv1⟩ : ∃ v, v = m[q].1 := ⟨_, rfl⟩
      rw [← hc1] at d0 v1 s1 hE
      rw [← hv1] at d1 hE
      obtain ⟨n, hn⟩ : ∃ n, n = betwB (m.take q) x y := ⟨_, rfl⟩
      rw [← hn] at s0 hE ⊢
      have n0 := s0.1
      have hsum : n + c ≤ 72057594037927935 := by have := s0.2; omega
      clear hc s0 s1 hn hc1 hv1
      by_cases k1 : x ≤ v
      · by_cases k2 : v ≤ y
        · rw [if_pos ⟨k1, k2⟩] at hE
          go_wp2_with fail
          go_roundw
          case rel => exact ⟨q + 1, by omega, by go_num, by (rw [hE.out]; try go_num), HX.out, hB⟩
          case measure => simp [intOf]; omega
        · rw [if_neg (by omega)] at hE
          have k2' : decide (v ≤ y) = false := by simpa using k2
          go_wp2_with fail
          go_roundw
          case rel => exact ⟨q + 1, by omega, by go_num, by rw [hE.out, Int.add_zero], HX.out, hB⟩
          case measure => simp [intOf]; omega
      · rw [if_neg (by omega)] at hE
        have k1' : decide (x ≤ v) = false := by simpa using k1
        go_wp2_with fail
        go_roundw
        case rel => exact ⟨q + 1, by omega, by go_num, by rw [hE.out, Int.add_zero], HX.out, hB⟩
        case measure => simp [intOf]; omega
    · obtain rfl : q = m.length := by omega
      rw [List.take_length]
      go_wp2_with fail
      go_ret
      exact ⟨rfl, hB⟩
theorem ref10_Rank (w : World) (l : Int) (A : Option Addr) (cap : Nat) (m : List Nd) (y : Int) (hS : Sl w w.heap.size encN A m) (hv : ∀ x ∈ m, 1 ≤ x.2) (hs : sumR m ≤ 72057594037927935) :
    Calls Tryz.prog 37 #[bagV l A m.length cap, .int .i64 y] w fun e w' => e = .returned (.int .i64 (betwB m 0 y)) ∧ Below w.heap.size w w' := by
  have HC := Lib.hid (fun W h => ref10_Between W l A cap m 0 y h hv hs)
  have BA : Below w.heap.size w (w.alloc (.cells #[.int .i64 l, .slice A m.length cap] 31)) := (by repeat (first | with_reducible exact Below.refl _ _ | with_reducible assumption | ((with_reducible refine Below.setCell ?_ ?_ _); rotate_left; · (first | omega | exact Nat.le_refl _ | (simp <;> omega))) | (with_reducible refine Below.allocW ?_ _) | (with_reducible refine Below.drew ?_) | (with_reducible refine Below.extW ?_ _)))
  have S1 := Lib.hid (hS.keep (B' := (w.alloc (.cells #[.int .i64 l, .slice A m.length cap] 31)).heap.size) BA.size fun p hp => BA.cell hp)
  clear hS hv hs BA
  unfold bagV at HC ⊢
  go_enter Tryz.func37, Tryz.ntmps37
  go_wp2_with fail
  refine (HC.out _ S1.out).mono ?_
  rintro e w1 ⟨rfl, hb1⟩
  have B1 : Below w.heap.size w w1 := Below.then_ (by repeat (first | with_reducible exact Below.refl _ _ | with_reducible assumption | ((with_reducible refine Below.setCell ?_ ?_ _); rotate_left; · (first | omega | exact Nat.le_refl _ | (simp <;> omega))) | (with_reducible refine Below.allocW ?_ _) | (with_reducible refine Below.drew ?_) | (with_reducible refine Below.extW ?_ _))) hb1
  have s1 : w.heap.size ≤ w1.heap.size := B1.size
  have z1_0 : w.heap.size < w1.heap.size := by have := hb1.size; (try simp at this); omega
  have y1_0 : w.heap.size ≤ w1.heap.size := Nat.le_of_lt z1_0
  have c1_0 := fun o => hb1.cell (p := ⟨w.heap.size, o, none⟩) (by first | omega | (simp <;> omega))
  have f1_0 := fun o => hb1.frozen (p := ⟨w.heap.size, o, none⟩) (by first | omega | (simp <;> omega))
  go_wp2_with fail
  go_ret
  exact ⟨rfl, (by repeat (first | with_reducible exact Below.refl _ _ | with_reducible assumption | ((with_reducible refine Below.setCell ?_ ?_ _); rotate_left; · (first | omega | exact Nat.le_refl _ | (simp <;> omega))) | (with_reducible refine Below.allocW ?_ _) | (with_reducible refine Below.drew ?_) | (with_reducible refine Below.extW ?_ _)))⟩
end Go.Proofs.YtcjnchjmpkapmaaGreat
/- Reference 10: put. -/
namespace Go.Proofs.YtcjnchjmpkapmaaGreat
open Go.ChangeShapes Go.WideShapes Go.ChangeAt Go.RowKit
set_option linter.unusedVariables false
set_option linter.unusedSimpArgs false
set_option maxRecDepth 100000

def putL : List Nd → Int → Int → Bool → List Nd
  | [], x, c, d => if d = true then [] else [(x, c)]
  | z :: m, x, c, d => if z.1 = x then (z.1, z.2 + c) :: putL m x c true else if x < z.1 ∧ d = false then (x, c) :: z :: putL m x c true else z :: putL m x c d
theorem putL_done {m : List Nd} {x : Int} (h : ∀ z ∈ m, x < z.1) (c : Int) : putL m x c true = m := by
  induction m with
  | nil => rfl
  | cons z m ih =>
    have := h z (by simp)
    simp only [putL]
    rw [if_neg (by omega : ¬ z.1 = x), if_neg (by simp : ¬ (x < z.1 ∧ true = false)), ih fun y hy => h y (by simp [hy])]
theorem putL_addR {m : List Nd} (hup : m.Pairwise fun a b => a.1 < b.1) (x c : Int) : putL m x c false = addR m x c := by
  induction m with
  | nil => rfl
  | cons z m ih =>
    obtain ⟨u1, u2⟩ := List.pairwise_cons.1 hup
    simp only [putL, addR]
    by_cases h1 : z.1 = x
    · rw [if_pos h1, if_pos h1, putL_done (fun y hy => by have := u1 y hy; omega)]; rw [h1]
    · rw [if_neg h1, if_neg h1]
      by_cases h2 : x < z.1
      · rw [if_pos (show x < z.1 ∧ True from ⟨h2, trivial⟩), if_pos h2, putL_done fun y hy => by have := u1 y hy; omega]
      · rw [if_neg (by omega), if_neg h2, ih u2]
theorem putL_eq {z : Nd} {x c : Int} {d : Bool} {L m : List Nd} (h : z.1 = x) : L ++ putL (z :: m) x c d = (L ++ [(z.1, z.2 + c)]) ++ putL m x c true := by simp [putL, h]
theorem putL_new {z : Nd} {x c : Int} {L m : List Nd} (h : x < z.1) : L ++ putL (z :: m) x c false = ((L ++ [(x, c)]) ++ [z]) ++ putL m x c true := by
  simp only [putL]
  rw [if_neg (by omega : ¬ z.1 = x), if_pos (show x < z.1 ∧ True from ⟨h, trivial⟩)]; simp
theorem putL_old {z : Nd} {x c : Int} {d : Bool} {L m : List Nd} (h1 : z.1 ≠ x) (h2 : ¬ (x < z.1 ∧ d = false)) : L ++ putL (z :: m) x c d = (L ++ [z]) ++ putL m x c d := by
  simp only [putL]
  rw [if_neg h1, if_neg h2]; simp
set_option maxHeartbeats 8000000 in
theorem ref10_put (w : World) (l : Int) (A : Option Addr) (cap : Nat) (m : List Nd) (x c : Int) (hS : Sl w w.heap.size encN A m) (hup : m.Pairwise fun a b => a.1 < b.1) (hv : ∀ x ∈ m, 1 ≤ x.2) (hc : 1 ≤ c) (hs : sumR m + c ≤ 72057594037927935) (hlen : m.length ≤ 65536) :
    Calls Tryz.prog 94 #[bagV l A m.length cap, .int .i64 x, .int .i64 c] w fun e w' => ∃ A' cap', e = .returned (bagV l A' (addR m x c).length cap') ∧ SlT w' 96 encN A' (addR m x c) ∧ Below w.heap.size w w' := by
  have HS := Lib.hid hS
  have HV := Lib.hid hv
  have HA := Lib.hid (putL_addR hup x c)
  have HN := Lib.hid hs
  clear hS hv hup
  unfold bagV
  have X0 : Hid (((w.alloc (.cells #[.int .i64 l, .slice A m.length cap] 31)).alloc (.cells #[.int .i64 0, .slice none 0 0] 31)).heap[w.heap.size]? = some (.cells #[.int .i64 l, .slice A m.length cap] 31 (0, 0))) := Lib.hid ((heap_new_lt _ _ _ (by simp)).trans (heap_alloc_new w _))
  have X1 : Hid (((w.alloc (.cells #[.int .i64 l, .slice A m.length cap] 31)).alloc (.cells #[.int .i64 0, .slice none 0 0] 31)).heap[w.heap.size + 1]? = some (.cells #[.int .i64 0, .slice none 0 0] 31 (0, 0))) := Lib.hid (heap_new_at (w.alloc _) _ _ (by simp))
  have BW0 : Hid (Below w.heap.size w ((w.alloc (.cells #[.int .i64 l, .slice A m.length cap] 31)).alloc (.cells #[.int .i64 0, .slice none 0 0] 31))) := Lib.hid (by repeat (first | with_reducible exact Below.refl _ _ | with_reducible assumption | ((with_reducible refine Below.setCell ?_ ?_ _); rotate_left; · (first | omega | exact Nat.le_refl _ | (simp <;> omega))) | (with_reducible refine Below.allocW ?_ _) | (with_reducible refine Below.drew ?_) | (with_reducible refine Below.extW ?_ _)))
  have Z0 : Hid (((w.alloc (.cells #[.int .i64 l, .slice A m.length cap] 31)).alloc (.cells #[.int .i64 0, .slice none 0 0] 31)).heap.size = w.heap.size + 1 + 1) := Lib.hid (by simp)
  go_enter Tryz.func94, Tryz.ntmps94
  go_upto_region 1 with fail
  generalize (w.alloc (.cells #[.int .i64 l, .slice A m.length cap] 31)).alloc (.cells #[.int .i64 0, .slice none 0 0] 31) = W0 at X0 X1 BW0 Z0 ⊢
  have S0 := Lib.hid (HS.out.keep (B' := W0.heap.size) BW0.out.size fun p hp => BW0.out.cell hp)
  clear HS
  go_wp2_with fail
  go_loopw [7, 8, 9] (fun o d j wr => ∃ (q : Nat) (L : List Nd) (f : Bool), q ≤ m.length ∧ j = .int .i64 q ∧ d = .bool f ∧ Own wr W0.heap.size 96 encN o L ∧ L ++ putL (m.drop q) x c f = addR m x c ∧ L.length ≤ 2 * q ∧ Below W0.heap.size W0 wr) (fun _ _ j _ => m.length - (intOf j).toNat)
  case atStart => exact ⟨0, [], false, Nat.zero_le _, rfl, rfl, .nil _ _ _ _, HA.out, by simp, Below.refl _ _⟩
  case round =>
    obtain ⟨q, L, f, hq, rfl, rfl, ho, hL, hLl, hB⟩ := hrel
    obtain ⟨Ao, co, rfl, _⟩ := ho.form
    have hX := blk_below X0.out hB
    have c0 : wr.cell? ⟨w.heap.size, 1, none⟩ = some (.slice A m.length cap) := by rw [blk_cell hX]; rfl
    have c00 : wr.cell? ⟨w.heap.size, 0, none⟩ = some (.int .i64 l) := by rw [blk_cell hX]; rfl
    have z0 := lt_of_block hX
    have HO := Lib.hid ho
    have HL := Lib.hid hL
    have SZ := Lib.hid hB.size
    clear hX ho hL
    by_cases hlt : q < m.length
    · have hE := HL.out
      rw [List.drop_eq_getElem_cons hlt] at hE
      obtain ⟨b, off, rfl, hb, hc2⟩ := S0.out.at_ hlt
      have d0 := (hB.cell (p := ⟨b, off + q * 2 + 1, none⟩) hb).trans (hc2 1 (.int .i64 m[q].2) rfl)
      have d1 := (hB.cell (p := ⟨b, off + q * 2, none⟩) hb).trans (by have := hc2 0 (.int .i64 m[q].1) rfl; simpa using this)
      have lb : b < wr.heap.size := Nat.lt_of_lt_of_le hb hB.size
      have v1 := HV.out _ (List.getElem_mem hlt)
      have s1 : m[q].2 + c ≤ 72057594037927935 := by have := sum_part HV.out hlt; have := HN.out; omega
      obtain ⟨y, hy⟩ : ∃ y : Nd, y = m[q] := ⟨_, rfl⟩
      rw [← hy] at d0 d1 v1 s1 hE
      obtain ⟨u, v⟩ := y
      simp only at d0 d1 v1 s1
      clear hc2 hy
      by_cases k1 : u = x
      · subst k1
        rw [putL_eq rfl] at hE
        have HE := Lib.hid hE
        clear hE
        have sz := SZ.out
        have OA := Lib.hid (HO.out.alloc (.cells #[.int .i64 u, .int .i64 (v + c)] 96))
        have BM := Lib.hid (show Below W0.heap.size W0 (wr.alloc (.cells #[.int .i64 u, .int .i64 (v + c)] 96)) from (by repeat (first | with_reducible exact Below.refl _ _ | with_reducible assumption | ((with_reducible refine Below.setCell ?_ ?_ _); rotate_left; · (first | omega | exact Nat.le_refl _ | (simp <;> omega))) | (with_reducible refine Below.allocW ?_ _) | (with_reducible refine Below.drew ?_) | (with_reducible refine Below.extW ?_ _))))
        have wfu : (decide (u ≤ u)) = true := by simp
        go_wp2_with ((at_builtin; refine wpList_push tyRd rfl _ _ rfl encN (wr.alloc (.cells #[.int .i64 u, .int .i64 (v + c)] 96)) W0.heap.size (.slice Ao L.length co) L rfl OA.out (u, v + c) (by go_simp) rfl ?c1 ?c2 ?c3 ?c4))
        case c1 => (try simp only [List.length_append, List.length_cons, List.length_nil]); omega
        case c2 => (try simp only [maxLen, List.length_append, List.length_cons, List.length_nil]); omega
        case c3 => (try simp [World.setCell]); omega
        case c4 =>
          intro v5 w5 ho5 _ _ _ hb5 _
          have H5 := Lib.hid (And.intro ho5 hb5)
          clear ho5 hb5
          go_wp2_with fail
          go_roundw
          case rel => exact ⟨q + 1, L ++ [(u, v + c)], true, by omega, by go_num, rfl, H5.out.1, HE.out, by simp; omega, BM.out.trans H5.out.2⟩
          case measure => simp [intOf]; omega
      · have k1' : (u == x) = false := by simpa using k1
        have sz := SZ.out
        have OA := Lib.hid (HO.out.alloc (.cells #[.int .i64 u, .int .i64 v] 96))
        have BM := Lib.hid (show Below W0.heap.size W0 (wr.alloc (.cells #[.int .i64 u, .int .i64 v] 96)) from (by repeat (first | with_reducible exact Below.refl _ _ | with_reducible assumption | ((with_reducible refine Below.setCell ?_ ?_ _); rotate_left; · (first | omega | exact Nat.le_refl _ | (simp <;> omega))) | (with_reducible refine Below.allocW ?_ _) | (with_reducible refine Below.drew ?_) | (with_reducible refine Below.extW ?_ _))))
        by_cases k2 : x < u
        · cases f
          · rw [putL_new k2] at hE
            have HE := Lib.hid hE
            clear hE
            go_wp2_with ((at_builtin; refine wpList_push tyRd rfl _ _ rfl encN (wr.alloc (.cells #[.int .i64 u, .int .i64 v] 96)) W0.heap.size (.slice Ao L.length co) L rfl OA.out (x, c) (by go_simp) rfl ?c1 ?c2 ?c3 ?c4))
            case c1 => (try simp only [List.length_append, List.length_cons, List.length_nil]); omega
            case c2 => (try simp only [maxLen, List.length_append, List.length_cons, List.length_nil]); omega
            case c3 => (try simp [World.setCell]); omega
            case c4 =>
              intro v5 w5 ho5 hg5 hs5 _ hb5 _
              obtain ⟨A5, c5, rfl, _⟩ := ho5.form
              have hy5 := blk_grown_not (heap_alloc_new wr (.cells #[.int .i64 u, .int .i64 v] 96)) hg5 (HO.out.not_at _ (Nat.le_refl _))
              have cy5 := blk_cell hy5
              have zy5 := lt_of_block hy5
              have O5 := Lib.hid ho5
              have B5 := Lib.hid (BM.out.trans hb5)
              have s5 := B5.out.size
              clear ho5 hg5 hb5
              go_wp2_with ((at_builtin; refine wpList_push tyRd rfl _ _ rfl encN w5 W0.heap.size (.slice A5 (L ++ [(x, c)]).length c5) (L ++ [(x, c)]) rfl O5.out (u, v) (by go_simp) rfl ?c1 ?c2 ?c3 ?c4))
              case c1 => (try simp only [List.length_append, List.length_cons, List.length_nil]); omega
              case c2 => (try simp only [maxLen, List.length_append, List.length_cons, List.length_nil]); omega
              case c3 => (try simp [World.setCell]); omega
              case c4 =>
                intro v6 w6 ho6 _ _ _ hb6 _
                have H6 := Lib.hid (And.intro ho6 hb6)
                clear ho6 hb6
                go_wp2_with fail
                go_roundw
                case rel => exact ⟨q + 1, L ++ [(x, c), (u, v)], true, by omega, by go_num, rfl, H6.out.1, by have := HE.out; simpa using this, by simp; omega, B5.out.trans H6.out.2⟩
                case measure => simp [intOf]; omega
          · rw [putL_old k1 (by simp)] at hE
            have HE := Lib.hid hE
            clear hE
            go_wp2_with ((at_builtin; refine wpList_push tyRd rfl _ _ rfl encN (wr.alloc (.cells #[.int .i64 u, .int .i64 v] 96)) W0.heap.size (.slice Ao L.length co) L rfl OA.out (u, v) (by go_simp) rfl ?c1 ?c2 ?c3 ?c4))
            case c1 => (try simp only [List.length_append, List.length_cons, List.length_nil]); omega
            case c2 => (try simp only [maxLen, List.length_append, List.length_cons, List.length_nil]); omega
            case c3 => (try simp [World.setCell]); omega
            case c4 =>
              intro v5 w5 ho5 _ _ _ hb5 _
              have H5 := Lib.hid (And.intro ho5 hb5)
              clear ho5 hb5
              go_wp2_with fail
              go_roundw
              case rel => exact ⟨q + 1, L ++ [(u, v)], true, by omega, by go_num, rfl, H5.out.1, HE.out, by simp; omega, BM.out.trans H5.out.2⟩
              case measure => simp [intOf]; omega
        · rw [putL_old k1 (by omega)] at hE
          have k2' : decide (x < u) = false := by simpa using k2
          have HE := Lib.hid hE
          clear hE
          go_wp2_with ((at_builtin; refine wpList_push tyRd rfl _ _ rfl encN (wr.alloc (.cells #[.int .i64 u, .int .i64 v] 96)) W0.heap.size (.slice Ao L.length co) L rfl OA.out (u, v) (by go_simp) rfl ?c1 ?c2 ?c3 ?c4))
          case c1 => (try simp only [List.length_append, List.length_cons, List.length_nil]); omega
          case c2 => (try simp only [maxLen, List.length_append, List.length_cons, List.length_nil]); omega
          case c3 => (try simp [World.setCell]); omega
          case c4 =>
            intro v5 w5 ho5 _ _ _ hb5 _
            have H5 := Lib.hid (And.intro ho5 hb5)
            clear ho5 hb5
            go_wp2_with fail
            go_roundw
            case rel => exact ⟨q + 1, L ++ [(u, v)], f, by omega, by go_num, rfl, H5.out.1, HE.out, by simp; omega, BM.out.trans H5.out.2⟩
            case measure => simp [intOf]; omega
    · obtain rfl : q = m.length := by omega
      have hE := HL.out
      rw [List.drop_length] at hE
      have sz := SZ.out
      have hX1 := blk_below X1.out hB
      have c3 := blk_cell hX1
      have f3 := blk_frozen hX1
      have z3 := lt_of_block hX1
      have X1c := Lib.hid hX1
      have XC := Lib.hid (blk_below X0.out hB)
      have HB := Lib.hid (BW0.out.trans (hB.mono BW0.out.size))
      cases f
      · simp only [putL, Bool.false_eq_true, if_false] at hE
        have HE := Lib.hid hE
        clear hE hX1
        go_wp2_with ((at_builtin; refine wpList_push tyRd rfl _ _ rfl encN wr W0.heap.size (.slice Ao L.length co) L rfl HO.out (x, c) (by go_simp) rfl ?c1 ?c2 ?c3 ?c4))
        case c1 => (try simp only [List.length_append, List.length_cons, List.length_nil]); omega
        case c2 => (try simp only [maxLen, List.length_append, List.length_cons, List.length_nil]); omega
        case c3 => (try simp [World.setCell]); omega
        case c4 =>
          intro v5 w5 ho5 hg5 hs5 _ hb5 _
          obtain ⟨A5, cc5, rfl, _⟩ := ho5.form
          rw [HE.out] at ho5 ⊢
          have O5 := Lib.hid ho5
          have hX5 : w5.heap[w.heap.size + 1]? = _ := (hb5.block _ (by have := Z0.out; omega)).trans X1c.out
          have hX0 : w5.heap[w.heap.size]? = _ := (hb5.block _ (by have := Z0.out; omega)).trans XC.out
          have c5 := blk_cell hX5
          have f5 := blk_frozen hX5
          have z5 := lt_of_block hX5
          have c50 : w5.cell? ⟨w.heap.size, 0, none⟩ = some (.int .i64 l) := by rw [blk_cell hX0]; rfl
          have B5 := Lib.hid (HB.out.trans (hb5.mono (by have := Z0.out; omega)))
          clear c0 c00 c3 f3 z3 z0 ho5 hg5 hs5 hb5 hX5 hX0
          go_wp2_with fail
          exact bodyPost_ret (v := .agg #[.int .i64 l, .slice A5 (addR m x c).length cc5]) (by simp only [results, Tryz.results94]; go_simp) rfl ⟨_, _, rfl, (((O5.out.setCellB (p := ⟨w.heap.size + 1, 0, none⟩) (by have := Z0.out; simp only; omega)).setCellB (p := ⟨w.heap.size + 1, 1, none⟩) (by have := Z0.out; simp only; omega)).slT), Below.setCell (p := ⟨w.heap.size + 1, 1, none⟩) (Below.setCell (p := ⟨w.heap.size + 1, 0, none⟩) B5.out (by simp) _) (by simp) _⟩
      · simp only [putL, if_true, List.append_nil] at hE
        subst hE
        go_wp2_with fail
        exact bodyPost_ret (v := .agg #[.int .i64 l, .slice Ao (addR m x c).length co]) (by simp only [results, Tryz.results94]; go_simp) rfl ⟨_, _, rfl, (((HO.out.setCellB (p := ⟨w.heap.size + 1, 0, none⟩) (by have := Z0.out; simp only; omega)).setCellB (p := ⟨w.heap.size + 1, 1, none⟩) (by have := Z0.out; simp only; omega)).slT), Below.setCell (p := ⟨w.heap.size + 1, 1, none⟩) (Below.setCell (p := ⟨w.heap.size + 1, 0, none⟩) HB.out (by simp) _) (by simp) _⟩
end Go.Proofs.YtcjnchjmpkapmaaGreat
/- Reference 10: Add. -/
namespace Go.Proofs.YtcjnchjmpkapmaaGreat
open Go.ChangeShapes Go.WideShapes Go.ChangeAt Go.RowKit
set_option linter.unusedVariables false
set_option linter.unusedSimpArgs false
set_option maxRecDepth 100000

set_option maxHeartbeats 4000000 in
theorem ref10_Add (w : World) (l : Nat) (A : Option Addr) (cap : Nat) (m : List Nd) (x c : Int) (hl : 1 ≤ l ∧ l ≤ 48) (hS : SlT w 96 encN A m) (hm : BagL l m) (hlen : m.length ≤ 65536) (hc2 : c ≤ 9223372036854775807) :
    Calls Tryz.prog 89 #[bagV l A m.length cap, .int .i64 x, .int .i64 c] w fun e w' => ∃ A' cap', e = .returned (.tuple #[bagV l A' (addB l m x c).1.length cap', .int .i64 (addB l m x c).2]) ∧ SlT w' 96 encN A' (addB l m x c).1 ∧ Below w.heap.size w w' := by
  have HS := Lib.hid hS
  have HP := Lib.hid (fun W => ref2_Power W l (by omega))
  have hval : ∀ x ∈ m, 1 ≤ x.2 := fun y hy => (hm.val y hy).2.2
  have HT := Lib.hid (fun W h => ref10_Total W l A cap m h hval hm.sum)
  have hsum := hm.sum
  have hsum0 := hm.sum0
  have HU := Lib.hid hm.up
  have HVAL := Lib.hid hval
  unfold bagV at HT ⊢
  clear hS hval hm
  have X0 : Hid (((w.alloc (.cells #[.int .i64 l, .slice A m.length cap] 31)).alloc (.cells #[.int .i64 0, .slice none 0 0] 31)).heap[w.heap.size]? = some (.cells #[.int .i64 l, .slice A m.length cap] 31 (0, 0))) := Lib.hid ((heap_new_lt _ _ _ (by simp)).trans (heap_alloc_new w _))
  have X1 : Hid (((w.alloc (.cells #[.int .i64 l, .slice A m.length cap] 31)).alloc (.cells #[.int .i64 0, .slice none 0 0] 31)).heap[w.heap.size + 1]? = some (.cells #[.int .i64 0, .slice none 0 0] 31 (0, 0))) := Lib.hid (heap_new_at (w.alloc _) _ _ (by simp))
  have BW0 : Hid (Below w.heap.size w ((w.alloc (.cells #[.int .i64 l, .slice A m.length cap] 31)).alloc (.cells #[.int .i64 0, .slice none 0 0] 31))) := Lib.hid (by repeat (first | with_reducible exact Below.refl _ _ | with_reducible assumption | ((with_reducible refine Below.setCell ?_ ?_ _); rotate_left; · (first | omega | exact Nat.le_refl _ | (simp <;> omega))) | (with_reducible refine Below.allocW ?_ _) | (with_reducible refine Below.drew ?_) | (with_reducible refine Below.extW ?_ _)))
  have Z0 : Hid (((w.alloc (.cells #[.int .i64 l, .slice A m.length cap] 31)).alloc (.cells #[.int .i64 0, .slice none 0 0] 31)).heap.size = w.heap.size + 1 + 1) := Lib.hid (by simp)
  obtain ⟨p, hp⟩ : ∃ p : Int, p = 2 ^ l := ⟨_, rfl⟩
  have hv : isVal l x = (decide (0 ≤ x) && decide (x < p)) := by unfold isVal; rw [hp]
  rw [← hp] at HP
  have KS : Hid (∀ W', Below w.heap.size w W' → SlT W' 96 encN A m) := Lib.hid fun W' hb => HS.out.below hb
  have cd : c < 1 ∨ decide (c < 1) = false := by
    by_cases h : c < 1
    · exact .inl h
    · exact .inr (decide_eq_false h)
  by_cases h1 : x < 0
  · have e1 : addB l m x c = (m, 3) := by unfold addB; rw [if_pos (by rw [hv]; simp; omega)]
    rw [e1]
    clear e1 hv hp
    go_enter Tryz.func89, Tryz.ntmps89
    go_wp2_with fail
    exact bodyPost_ret (v := .tuple #[.agg #[.int .i64 l, .slice A m.length cap], .int .i64 3]) (by simp only [results, Tryz.results89]; go_simp) rfl ⟨A, cap, rfl, KS.out _ (by repeat (first | with_reducible exact Below.refl _ _ | with_reducible assumption | ((with_reducible refine Below.setCell ?_ ?_ _); rotate_left; · (first | omega | exact Nat.le_refl _ | (simp <;> omega))) | (with_reducible refine Below.allocW ?_ _) | (with_reducible refine Below.drew ?_) | (with_reducible refine Below.extW ?_ _))), (by repeat (first | with_reducible exact Below.refl _ _ | with_reducible assumption | ((with_reducible refine Below.setCell ?_ ?_ _); rotate_left; · (first | omega | exact Nat.le_refl _ | (simp <;> omega))) | (with_reducible refine Below.allocW ?_ _) | (with_reducible refine Below.drew ?_) | (with_reducible refine Below.extW ?_ _)))⟩
  · have h1' : decide (x < 0) = false := by simpa using h1
    by_cases h2 : p ≤ x
    · have e1 : addB l m x c = (m, 3) := by unfold addB; rw [if_pos (by rw [hv]; simp; omega)]
      rw [e1]
      clear e1 hv hp
      go_enter Tryz.func89, Tryz.ntmps89
      go_upto_region 1 with fail
      generalize (w.alloc (.cells #[.int .i64 l, .slice A m.length cap] 31)).alloc (.cells #[.int .i64 0, .slice none 0 0] 31) = W0 at X0 X1 BW0 Z0 ⊢
      have c0 := blk_cell X0.out
      have z0 := lt_of_block X0.out
      go_wp2_with fail
      refine (HP.out _).mono ?_
      rintro e w1 ⟨rfl, hb1⟩
      have Y0 := blk_below X0.out hb1
      have Y1 := blk_below X1.out hb1
      have B1 := Lib.hid (BW0.out.trans (hb1.mono BW0.out.size))
      have hz1 : w.heap.size + 1 + 1 ≤ w1.heap.size := by have := hb1.size; have := Z0.out; omega
      clear c0 z0 X0 X1 hb1
      have c1 : w1.cell? ⟨w.heap.size, 0, none⟩ = some (.int .i64 l) := by rw [blk_cell Y0]; rfl
      have c2 : w1.cell? ⟨w.heap.size, 1, none⟩ = some (.slice A m.length cap) := by rw [blk_cell Y0]; rfl
      have z1 := lt_of_block Y0
      have d1 := blk_cell Y1
      have f1 := blk_frozen Y1
      have z2 := lt_of_block Y1
      go_wp2_with fail
      exact bodyPost_ret (v := .tuple #[.agg #[.int .i64 l, .slice A m.length cap], .int .i64 3]) (by simp only [results, Tryz.results89]; go_simp) rfl ⟨A, cap, rfl, KS.out _ (Below.setCell (p := ⟨w.heap.size + 1, 1, none⟩) (Below.setCell (p := ⟨w.heap.size + 1, 0, none⟩) B1.out (by simp) _) (by simp) _), (Below.setCell (p := ⟨w.heap.size + 1, 1, none⟩) (Below.setCell (p := ⟨w.heap.size + 1, 0, none⟩) B1.out (by simp) _) (by simp) _)⟩
    · have h2' : decide (p ≤ x) = false := by simpa using h2
      have hv1 : isVal l x = true := by rw [hv]; simp; omega
      have HV1 := Lib.hid (show ¬ (isVal l x = false) by simp [hv1])
      clear hv hp hv1
      rcases cd with h3 | h3
      · have e1 : addB l m x c = (m, 4) := by unfold addB; rw [if_neg HV1.out, if_pos h3]
        rw [e1]
        clear e1
        go_enter Tryz.func89, Tryz.ntmps89
        go_upto_region 1 with fail
        generalize (w.alloc (.cells #[.int .i64 l, .slice A m.length cap] 31)).alloc (.cells #[.int .i64 0, .slice none 0 0] 31) = W0 at X0 X1 BW0 Z0 ⊢
        have c0 := blk_cell X0.out
        have z0 := lt_of_block X0.out
        go_wp2_with fail
        refine (HP.out _).mono ?_
        rintro e w1 ⟨rfl, hb1⟩
        have Y0 := blk_below X0.out hb1
        have Y1 := blk_below X1.out hb1
        have B1 := Lib.hid (BW0.out.trans (hb1.mono BW0.out.size))
        have hz1 : w.heap.size + 1 + 1 ≤ w1.heap.size := by have := hb1.size; have := Z0.out; omega
        clear c0 z0 X0 X1 hb1
        have c1 : w1.cell? ⟨w.heap.size, 0, none⟩ = some (.int .i64 l) := by rw [blk_cell Y0]; rfl
        have c2 : w1.cell? ⟨w.heap.size, 1, none⟩ = some (.slice A m.length cap) := by rw [blk_cell Y0]; rfl
        have z1 := lt_of_block Y0
        have d1 := blk_cell Y1
        have f1 := blk_frozen Y1
        have z2 := lt_of_block Y1
        go_wp2_with fail
        exact bodyPost_ret (v := .tuple #[.agg #[.int .i64 l, .slice A m.length cap], .int .i64 4]) (by simp only [results, Tryz.results89]; go_simp) rfl ⟨A, cap, rfl, KS.out _ (Below.setCell (p := ⟨w.heap.size + 1, 1, none⟩) (Below.setCell (p := ⟨w.heap.size + 1, 0, none⟩) B1.out (by simp) _) (by simp) _), (Below.setCell (p := ⟨w.heap.size + 1, 1, none⟩) (Below.setCell (p := ⟨w.heap.size + 1, 0, none⟩) B1.out (by simp) _) (by simp) _)⟩
      · have h3' : ¬ c < 1 := by simpa using h3
        by_cases h4 : 72057594037927935 < sumR m + c
        · have e1 : addB l m x c = (m, 5) := by unfold addB; rw [if_neg HV1.out, if_neg h3', if_pos h4]
          rw [e1]
          clear e1
          obtain ⟨n, hn⟩ : ∃ n, n = sumR m := ⟨_, rfl⟩
          rw [← hn] at HT hsum hsum0 h4
          have h4' : 72057594037927935 - n < c := by omega
          clear hn h4
          go_enter Tryz.func89, Tryz.ntmps89
          go_upto_region 1 with fail
          generalize (w.alloc (.cells #[.int .i64 l, .slice A m.length cap] 31)).alloc (.cells #[.int .i64 0, .slice none 0 0] 31) = W0 at X0 X1 BW0 Z0 ⊢
          have c0 := blk_cell X0.out
          have z0 := lt_of_block X0.out
          go_wp2_with fail
          refine (HP.out _).mono ?_
          rintro e w1 ⟨rfl, hb1⟩
          have Y0 := blk_below X0.out hb1
          have Y1 := blk_below X1.out hb1
          have B1 := Lib.hid (BW0.out.trans (hb1.mono BW0.out.size))
          have hz1 : w.heap.size + 1 + 1 ≤ w1.heap.size := by have := hb1.size; have := Z0.out; omega
          clear c0 z0 X0 X1 hb1
          have c1 : w1.cell? ⟨w.heap.size, 0, none⟩ = some (.int .i64 l) := by rw [blk_cell Y0]; rfl
          have c2 : w1.cell? ⟨w.heap.size, 1, none⟩ = some (.slice A m.length cap) := by rw [blk_cell Y0]; rfl
          have z1 := lt_of_block Y0
          have d1 := blk_cell Y1
          have f1 := blk_frozen Y1
          have z2 := lt_of_block Y1
          go_wp2_with fail
          refine (HT.out _ (KS.out _ B1.out).sl).mono ?_
          rintro e w2 ⟨rfl, hb2⟩
          have Y0' := blk_below Y0 hb2
          have Y1' := blk_below Y1 hb2
          have B2 := Lib.hid (B1.out.trans (hb2.mono B1.out.size))
          have hz2 : w.heap.size + 1 + 1 ≤ w2.heap.size := by have := hb2.size; omega
          clear c1 c2 z1 d1 f1 z2 Y0 Y1
          have c1 : w2.cell? ⟨w.heap.size, 0, none⟩ = some (.int .i64 l) := by rw [blk_cell Y0']; rfl
          have c2 : w2.cell? ⟨w.heap.size, 1, none⟩ = some (.slice A m.length cap) := by rw [blk_cell Y0']; rfl
          have z1 := lt_of_block Y0'
          have d1 := blk_cell Y1'
          have f1 := blk_frozen Y1'
          have z2 := lt_of_block Y1'
          go_wp2_with fail
          exact bodyPost_ret (v := .tuple #[.agg #[.int .i64 l, .slice A m.length cap], .int .i64 5]) (by simp only [results, Tryz.results89]; go_simp) rfl ⟨A, cap, rfl, KS.out _ (Below.setCell (p := ⟨w.heap.size + 1, 1, none⟩) (Below.setCell (p := ⟨w.heap.size + 1, 0, none⟩) B2.out (by simp) _) (by simp) _), (Below.setCell (p := ⟨w.heap.size + 1, 1, none⟩) (Below.setCell (p := ⟨w.heap.size + 1, 0, none⟩) B2.out (by simp) _) (by simp) _)⟩
        · have e1 : addB l m x c = (addR m x c, 0) := by unfold addB; rw [if_neg HV1.out, if_neg h3', if_neg h4]
          rw [e1]
          clear e1
          have HPut := Lib.hid (fun W h => ref10_put W l A cap m x c h HU.out HVAL.out (by omega) (by omega) hlen)
          unfold bagV at HPut
          obtain ⟨n, hn⟩ : ∃ n, n = sumR m := ⟨_, rfl⟩
          rw [← hn] at HT hsum hsum0 h4
          have h4' : decide (72057594037927935 - n < c) = false := by simp; omega
          clear hn h4
          go_enter Tryz.func89, Tryz.ntmps89
          go_upto_region 1 with fail
          generalize (w.alloc (.cells #[.int .i64 l, .slice A m.length cap] 31)).alloc (.cells #[.int .i64 0, .slice none 0 0] 31) = W0 at X0 X1 BW0 Z0 ⊢
          have c0 := blk_cell X0.out
          have z0 := lt_of_block X0.out
          go_wp2_with fail
          refine (HP.out _).mono ?_
          rintro e w1 ⟨rfl, hb1⟩
          have Y0 := blk_below X0.out hb1
          have Y1 := blk_below X1.out hb1
          have B1 := Lib.hid (BW0.out.trans (hb1.mono BW0.out.size))
          have hz1 : w.heap.size + 1 + 1 ≤ w1.heap.size := by have := hb1.size; have := Z0.out; omega
          clear c0 z0 X0 X1 hb1
          have c1 : w1.cell? ⟨w.heap.size, 0, none⟩ = some (.int .i64 l) := by rw [blk_cell Y0]; rfl
          have c2 : w1.cell? ⟨w.heap.size, 1, none⟩ = some (.slice A m.length cap) := by rw [blk_cell Y0]; rfl
          have z1 := lt_of_block Y0
          have d1 := blk_cell Y1
          have f1 := blk_frozen Y1
          have z2 := lt_of_block Y1
          go_wp2_with fail
          refine (HT.out _ (KS.out _ B1.out).sl).mono ?_
          rintro e w2 ⟨rfl, hb2⟩
          have Y0' := blk_below Y0 hb2
          have Y1' := blk_below Y1 hb2
          have B2 := Lib.hid (B1.out.trans (hb2.mono B1.out.size))
          have hz2 : w.heap.size + 1 + 1 ≤ w2.heap.size := by have := hb2.size; omega
          clear c1 c2 z1 d1 f1 z2 Y0 Y1
          have c1 : w2.cell? ⟨w.heap.size, 0, none⟩ = some (.int .i64 l) := by rw [blk_cell Y0']; rfl
          have c2 : w2.cell? ⟨w.heap.size, 1, none⟩ = some (.slice A m.length cap) := by rw [blk_cell Y0']; rfl
          have z1 := lt_of_block Y0'
          have d1 := blk_cell Y1'
          have f1 := blk_frozen Y1'
          have z2 := lt_of_block Y1'
          go_wp2_with fail
          refine (HPut.out _ (KS.out _ B2.out).sl).mono ?_
          rintro e w3 ⟨A3, cap3, rfl, hS3, hb3⟩
          have B3 := Lib.hid (B2.out.trans (hb3.mono B2.out.size))
          have Y3 := blk_below Y1' hb3
          have hz3 : w.heap.size + 1 + 1 ≤ w3.heap.size := by have := hb3.size; omega
          have d3 := blk_cell Y3
          have f3 := blk_frozen Y3
          have z3 := lt_of_block Y3
          have S3 := Lib.hid hS3
          clear c1 c2 z1 d1 f1 z2 Y0' Y1' hS3 hb3
          go_wp2_with fail
          have T3 : TypeAt w3 (w.heap.size + 1) 31 := TypeAt.of Y3
          exact bodyPost_ret (v := .tuple #[.agg #[.int .i64 l, .slice A3 (addR m x c).length cap3], .int .i64 0]) (by simp only [results, Tryz.results89]; go_simp) rfl ⟨A3, cap3, rfl, (S3.out.setCellT (p := ⟨w.heap.size + 1, 0, none⟩) (u := .int .i64 l) T3 (by decide)).setCellT (p := ⟨w.heap.size + 1, 1, none⟩) T3.setCell (by decide), Below.setCell (p := ⟨w.heap.size + 1, 1, none⟩) (Below.setCell (p := ⟨w.heap.size + 1, 0, none⟩) B3.out (by simp) _) (by simp) _⟩
end Go.Proofs.YtcjnchjmpkapmaaGreat
/- Chapter 10: bags that are made of readings. -/
namespace Go.Proofs.YtcjnchjmpkapmaaGreat
open Go.ChangeShapes Go.WideShapes Go.ChangeAt Go.RowKit
set_option linter.unusedVariables false
set_option linter.unusedSimpArgs false
set_option maxRecDepth 100000

def madeB (l : Nat) (r : List Nd) : List Nd := r.foldl (fun m z => (addB l m z.1 z.2).1) []
end Go.Proofs.YtcjnchjmpkapmaaGreat
/- How many nodes there are: once nothing can be folded, and ever. Plain laws. -/
namespace Go.Proofs.YtcjnchjmpkapmaaGreat
open Go.ChangeShapes Go.WideShapes Go.ChangeAt Go.RowKit
set_option linter.unusedVariables false

def sumP (P : List Int) (g : Int → Int) : Int := (P.map g).sum
theorem sumP_add (P : List Int) (g h : Int → Int) : sumP P (fun p => g p + h p) = sumP P g + sumP P h := by
  unfold sumP
  induction P with
  | nil => rfl
  | cons p P ih => simp only [List.map_cons, List.sum_cons, ih]; omega
theorem sumP_zero (P : List Int) (a c : Int) (h : a ∉ P) : sumP P (fun p => if a = p then c else 0) = 0 := by
  unfold sumP
  induction P with
  | nil => rfl
  | cons p P ih =>
    simp only [List.map_cons, List.sum_cons]
    rw [ih fun hm => h (List.mem_cons_of_mem _ hm), if_neg (by rintro rfl; exact h (by simp))]
    rfl
theorem sumP_one (P : List Int) (hP : P.Nodup) (a c : Int) (h : a ∈ P) : sumP P (fun p => if a = p then c else 0) = c := by
  induction P with
  | nil => simp at h
  | cons p P ih =>
    obtain ⟨h1, h2⟩ := List.nodup_cons.1 hP
    have e : sumP (p :: P) (fun p => if a = p then c else 0) = (if a = p then c else 0) + sumP P (fun p => if a = p then c else 0) := by simp [sumP]
    rw [e]
    by_cases hap : a = p
    · subst hap
      rw [if_pos rfl, sumP_zero P a c h1]; omega
    · rw [if_neg hap, ih h2 (by simpa [hap] using h)]; omega
theorem sumP_le {P : List Int} {g h : Int → Int} (hg : ∀ p ∈ P, g p ≤ h p) : sumP P g ≤ sumP P h := by
  unfold sumP
  induction P with
  | nil => simp
  | cons p P ih =>
    simp only [List.map_cons, List.sum_cons]
    have := hg p (by simp)
    have := ih fun q hq => hg q (by simp [hq])
    omega
theorem sumP_const (P : List Int) (c : Int) : sumP P (fun _ => c) = P.length * c := by
  unfold sumP
  induction P with
  | nil => simp
  | cons p P ih => simp only [List.map_cons, List.sum_cons, ih, List.length_cons]; push_cast; rw [Int.add_mul]; omega
theorem pairR_cons {x : Nd} {r : List Nd} (h : Roll (x :: r)) (p : Int) : pairR (x :: r) p = (if x.1 / 2 = p then x.2 else 0) + pairR r p := by
  have hn : getR r x.1 = 0 := getR_none fun y hy => by have := h.head y hy; omega
  unfold pairR
  simp only [getR]
  by_cases h1 : x.1 = 2 * p
  · rw [if_pos h1, if_neg (by omega), if_pos (by omega)]
    rw [h1] at hn
    omega
  · rw [if_neg h1]
    by_cases h2 : x.1 = 2 * p + 1
    · rw [if_pos h2, if_pos (by omega)]
      rw [h2] at hn
      omega
    · rw [if_neg h2, if_neg (by omega)]; omega
theorem getR_cons {x : Nd} {r : List Nd} (h : Roll (x :: r)) (p : Int) : getR (x :: r) p = (if x.1 = p then x.2 else 0) + getR r p := by
  have hn : getR r x.1 = 0 := getR_none fun y hy => by have := h.head y hy; omega
  simp only [getR]
  by_cases h1 : x.1 = p
  · rw [if_pos h1, if_pos h1]; rw [h1] at hn; omega
  · rw [if_neg h1, if_neg h1]; omega
theorem sum_pairs_le {P : List Int} (hP : P.Nodup) : ∀ {r : List Nd}, Roll r → sumP P (pairR r) ≤ sumR r := by
  intro r
  induction r with
  | nil => intro _; have : pairR [] = fun _ => 0 := by funext p; rfl
           rw [this, sumP_const]; simp [sumR]
  | cons x r ih =>
    intro h
    have e : pairR (x :: r) = fun p => (if x.1 / 2 = p then x.2 else 0) + pairR r p := by funext p; exact pairR_cons h p
    rw [e, sumP_add]
    have h1 := ih h.tail
    have h2 := (h.2 x (by simp)).2
    simp only [sumR]
    by_cases hm : x.1 / 2 ∈ P
    · rw [sumP_one P hP _ _ hm]; omega
    · rw [sumP_zero P _ _ hm]; omega
theorem sum_own_le {P : List Int} (hP : P.Nodup) : ∀ {r : List Nd}, Roll r → sumP P (getR r) ≤ sumR r := by
  intro r
  induction r with
  | nil => intro _; have : getR [] = fun _ => 0 := by funext p; rfl
           rw [this, sumP_const]; simp [sumR]
  | cons x r ih =>
    intro h
    have e : getR (x :: r) = fun p => (if x.1 = p then x.2 else 0) + getR r p := by funext p; exact getR_cons h p
    rw [e, sumP_add]
    have h1 := ih h.tail
    have h2 := (h.2 x (by simp)).2
    simp only [sumR]
    by_cases hm : x.1 ∈ P
    · rw [sumP_one P hP _ _ hm]; omega
    · rw [sumP_zero P _ _ hm]; omega
theorem sum_pairs_ge {P : List Int} (hP : P.Nodup) : ∀ {r : List Nd}, Roll r → (∀ x ∈ r, x.1 ≠ 1 → x.1 / 2 ∈ P) → sumR r ≤ sumP P (pairR r) + getR r 1 := by
  intro r
  induction r with
  | nil => intro _ _; have : pairR [] = fun _ => 0 := by funext p; rfl
           rw [this, sumP_const]; simp [sumR, getR]
  | cons x r ih =>
    intro h hc
    have e : pairR (x :: r) = fun p => (if x.1 / 2 = p then x.2 else 0) + pairR r p := by funext p; exact pairR_cons h p
    rw [e, sumP_add, getR_cons h]
    have h1 := ih h.tail fun y hy => hc y (by simp [hy])
    have h2 := (h.2 x (by simp)).2
    simp only [sumR]
    by_cases h1' : x.1 = 1
    · rw [if_pos h1']
      have : 0 ≤ sumP P (fun p => if x.1 / 2 = p then x.2 else 0) := by
        by_cases hm : x.1 / 2 ∈ P
        · rw [sumP_one P hP _ _ hm]; omega
        · rw [sumP_zero P _ _ hm]; omega
      omega
    · rw [if_neg h1', sumP_one P hP _ _ (hc x (by simp) h1')]; omega
def onesR (r : List Nd) : List Nd := r.map fun x => (x.1, 1)
theorem ones_roll {r : List Nd} (h : Roll r) : Roll (onesR r) := by
  refine ⟨?_, fun x hx => ?_⟩
  · unfold onesR; rw [List.pairwise_map]; exact h.1
  · obtain ⟨y, hy, rfl⟩ := List.mem_map.1 hx
    have := h.2 y hy
    exact ⟨this.1, Int.le_refl _⟩
theorem ones_sum (r : List Nd) : sumR (onesR r) = r.length := by
  induction r with
  | nil => rfl
  | cons x r ih => simp only [onesR, List.map_cons, sumR, List.length_cons] at ih ⊢; rw [ih]; push_cast; omega
theorem ones_get (r : List Nd) (id : Int) : getR (onesR r) id ≤ 1 := by
  induction r with
  | nil => simp [onesR, getR]
  | cons x r ih =>
    simp only [onesR, List.map_cons, getR] at ih ⊢
    split
    · omega
    · exact ih
theorem tight_len {l : Nat} {r : List Nd} (hf : Fits l r) (hl : 1 ≤ l ∧ l ≤ 48) {k : Int} (hk : 1 ≤ k) (ht : ∀ p, readyR l r p (sumR r / k) = false) : (r.length : Int) ≤ 4 * k - 1 := by
  have hP := (putAll_wait (halves r)).once
  have hPm := putAll_mem (halves r)
  generalize putAll (halves r) = P at hP hPm
  have hcov : ∀ x ∈ r, x.1 ≠ 1 → x.1 / 2 ∈ P := fun x hx h1 => by
    have := (hf.roll.2 x hx).1
    exact (hPm _).2 ⟨by omega, List.mem_map.2 ⟨x, hx, rfl⟩⟩
  have hbig : ∀ p ∈ P, sumR r / k + 1 ≤ pairR r p + getR r p := fun p hp => by
    obtain ⟨h1, h2⟩ := (hPm p).1 hp
    obtain ⟨x, hx, rfl⟩ := List.mem_map.1 h2
    have h3 := hf.lt x hx
    have h4 := (hf.roll.2 x hx).2
    have h5 := getR_mem hf.roll hx
    have h6 := hf.nodes hl x hx
    have hpos : 0 < pairR r (x.1 / 2) := by
      have g1 := getR_nonneg hf.roll (2 * (x.1 / 2))
      have g2 := getR_nonneg hf.roll (2 * (x.1 / 2) + 1)
      unfold pairR
      rcases (by omega : x.1 = 2 * (x.1 / 2) ∨ x.1 = 2 * (x.1 / 2) + 1) with e | e
      · have e' := congrArg (getR r) e
        omega
      · have e' := congrArg (getR r) e
        omega
    have hk1 : (kidsOf l (x.1 / 2)).2.2 = true := by
      rw [kids_iff]
      refine ⟨?_, by omega⟩
      have hp := pow_pos' l
      simp only [isNode, decide_eq_true_eq, Int.toNat_natCast] at h6 ⊢
      omega
    have hnot := ht (x.1 / 2)
    rw [← Bool.not_eq_true, ready_iff] at hnot
    apply Classical.byContradiction
    intro hc
    exact hnot ⟨hk1, hpos, by omega⟩
  have a1 := sum_pairs_le hP hf.roll
  have a2 := sum_own_le hP hf.roll
  have a3 := sumP_le hbig
  rw [sumP_const P (sumR r / k + 1), sumP_add P (pairR r) (getR r)] at a3
  have a4 := sum_pairs_ge hP (ones_roll hf.roll) (fun x hx h1 => by
    obtain ⟨y, hy, rfl⟩ := List.mem_map.1 hx
    exact hcov y hy h1)
  rw [ones_sum] at a4
  have a5 : sumP P (pairR (onesR r)) ≤ sumP P (fun _ => 2) := sumP_le fun p _ => by
    have := ones_get r (2 * p)
    have := ones_get r (2 * p + 1)
    unfold pairR; omega
  rw [sumP_const] at a5
  have a6 := ones_get r 1
  have hN := sumR_nonneg hf.roll
  have hm : sumR r < k * (sumR r / k + 1) := by
    have := Int.lt_ediv_add_one_mul_self (sumR r) (show 0 < k by omega)
    rw [Int.mul_comm]; exact this
  have hm0 : 0 ≤ sumR r / k := Int.ediv_nonneg hN (by omega)
  have hP2 : (P.length : Int) < 2 * k := by
    apply Classical.byContradiction
    intro hc
    have : 2 * k * (sumR r / k + 1) ≤ P.length * (sumR r / k + 1) := Int.mul_le_mul_of_nonneg_right (by omega) (by omega)
    rw [Int.mul_assoc] at this
    omega
  omega
theorem DoTo.room {l : Nat} {k : Int} {r r' : List Nd} {o : Op3} {n : Int} (h : DoTo l k r o r' n) (hf : Fits l r) (hl : 1 ≤ l ∧ l ≤ 48) (hk : 1 ≤ k) (hr : (r.length : Int) ≤ 8 * k) : (r'.length : Int) ≤ 8 * k := by
  rcases h with ⟨_, ps, h, _⟩ | ⟨_, rfl, _⟩ | ⟨_, _, h, _⟩
  · have := h.folded.len hf; omega
  · simp; omega
  · rcases h with ⟨_, rfl⟩ | ⟨_, s, h, rfl⟩
    · exact hr
    · have hs := h.same hf
      rw [len_add hs.1.roll]
      rcases h with ⟨_, h1, ps, h⟩ | ⟨h1, rfl⟩
      · have ht := tight_len hs.1 hl hk (fun p => by rw [hs.2.1]; exact h.tight p)
        split <;> omega
      · split
        · rename_i h0
          have : ¬ 8 * k ≤ s.length := fun h2 => h1 ⟨h0, h2⟩
          omega
        · omega
end Go.Proofs.YtcjnchjmpkapmaaGreat
/- Chapter 13: Do, Made. -/
namespace Go.Proofs.YtcjnchjmpkapmaaGreat
open Go.ChangeShapes Go.WideShapes Go.ChangeAt Go.RowKit
set_option linter.unusedVariables false
set_option linter.unusedSimpArgs false
set_option maxRecDepth 100000

theorem DigTo.from {w W w' : World} {g K l : Nat} {k : Int} {s : List Nd} {F : Nat → Prop} (hB : Below w.heap.size w W) (h : DigTo W g K l k s F w') : DigTo w g K l k s F w' := by
  obtain ⟨F', h1, h2, h3⟩ := h
  exact ⟨F', h1, (Turn.of_below hB).trans h2 Grow.refl, fun b hb => (h3 b hb).imp id fun h => Nat.le_trans hB.size h⟩
def DoPost (g K l : Nat) (k : Int) (r : List Nd) (o : Op3) (F : Nat → Prop) (w : World) (e : Ending) (w' : World) : Prop :=
  ∃ (r' : List Nd) (n : Int), e = .returned (.int .i64 n) ∧ DoTo l k r o r' n ∧ DigTo w g K l k r' F w'
theorem law13_Do (w : World) (g K l : Nat) (k : Int) (r : List Nd) (F : Nat → Prop) (h : DigAt w g K l k r F) (hn : r.length ≤ 67108864) (o : Op3) :
    Calls Tryz.prog 27 #[.pointer (some ⟨g, 0, none⟩), .agg #[.int .i64 o.1, .int .i64 o.2.1, .int .i64 o.2.2]] w (DoPost g K l k r o F w) := by
  obtain ⟨kd, x, c⟩ := o
  have HC := Lib.hid (fun W h => digest_Compress W g K l k r F h hn)
  have HR := Lib.hid (fun W h => digest_Reset W g K l k r F h hn)
  have HI := Lib.hid (fun W h => digest_Insert W g K l k r F h hn x c)
  have B0 : Below w.heap.size w (w.alloc (.cells #[.int .i64 kd, .int .i64 x, .int .i64 c] 51)) := (by repeat (first | with_reducible exact Below.refl _ _ | with_reducible assumption | ((with_reducible refine Below.setCell ?_ ?_ _); rotate_left; · (first | omega | exact Nat.le_refl _ | (simp <;> omega))) | (with_reducible refine Below.allocW ?_ _) | (with_reducible refine Below.drew ?_) | (with_reducible refine Below.extW ?_ _)))
  have BB := Lib.hid B0
  have D0 := Lib.hid (h.below B0)
  clear h B0
  unfold DoPost
  by_cases h1 : kd = 1
  · subst h1
    have hE : ∀ r' n, (∃ ps, RunTo l (sumR r / k) r ps r' ∧ n = (ps.length : Int)) → DoTo l k r (1, x, c) r' n := fun r' n h => .inl ⟨rfl, h⟩
    have HE := Lib.hid hE
    clear hE
    go_enter Tryz.func27, Tryz.ntmps27
    go_wp2_with fail
    refine (HC.out _ D0.out).mono ?_
    rintro e w1 ⟨ps, s, rfl, hR, hT⟩
    have HT := Lib.hid (hT.from BB.out)
    have HRn := Lib.hid (HE.out s _ ⟨ps, hR, rfl⟩)
    clear hT hR
    go_wp2_with fail
    go_ret
    exact ⟨s, _, rfl, HRn.out, HT.out⟩
  · have h1' : (kd == 1) = false := by simpa using h1
    by_cases h2 : kd = 2
    · subst h2
      have HE : Hid (DoTo l k r (2, x, c) [] 0) := Lib.hid (.inr (.inl ⟨rfl, rfl, rfl⟩))
      go_enter Tryz.func27, Tryz.ntmps27
      go_wp2_with fail
      refine (HR.out _ D0.out).mono ?_
      rintro e w1 ⟨rfl, hT⟩
      have HT := Lib.hid (hT.from BB.out)
      clear hT
      go_wp2_with fail
      go_ret
      exact ⟨[], 0, rfl, HE.out, HT.out⟩
    · have h2' : (kd == 2) = false := by simpa using h2
      have hE : ∀ r', InsTo l k r x c r' → DoTo l k r (kd, x, c) r' (insErr l r x c) := fun r' h => .inr (.inr ⟨h1, h2, h, rfl⟩)
      have HE := Lib.hid hE
      generalize insErr l r x c = n at HE HI
      clear hE h1 h2
      go_enter Tryz.func27, Tryz.ntmps27
      go_wp2_with fail
      refine (HI.out _ D0.out).mono ?_
      rintro e w1 ⟨r', rfl, hI, hT⟩
      have HT := Lib.hid (hT.from BB.out)
      have HRn := Lib.hid (HE.out r' hI)
      clear hT hI
      go_wp2_with fail
      go_ret
      exact ⟨r', n, rfl, HRn.out, HT.out⟩
theorem DigAt.typed {w : World} {g K l : Nat} {k : Int} {r : List Nd} {F : Nat → Prop} (h : DigAt w g K l k r F) : ∀ b, F b → ∃ t, (t = 178 ∨ PoolTypes t) ∧ TypeAt w b t := by
  obtain ⟨p, F0, rfl, hh, hP, _, _, _⟩ := h.parts
  rintro b (rfl | hb)
  · exact ⟨_, .inl rfl, .of hh⟩
  · obtain ⟨t, ht, h⟩ := hP.typed b hb
    exact ⟨t, .inr ht, h⟩
theorem DigAt.not_type {w : World} {g K l : Nat} {k : Int} {r : List Nd} {F : Nat → Prop} (h : DigAt w g K l k r F) {b t : Nat} (hb : TypeAt w b t) (ht : t ≠ 178 ∧ t ≠ 257 ∧ t ≠ 315 ∧ t ≠ 3 ∧ t ≠ 317 ∧ t ≠ 153) : ¬ F b := fun hf => by
  obtain ⟨t', h1, h2⟩ := h.typed b hf
  have := typeAt_eq hb h2
  subst this
  obtain ⟨a1, a2, a3, a4, a5, a6⟩ := ht
  rcases h1 with h1 | h1 | h1 | h1 | h1 | h1
  · exact a1 h1
  · exact a2 h1
  · exact a3 h1
  · exact a4 h1
  · exact a5 h1
  · exact a6 h1
theorem SlT.turn {α : Type} {size : Nat} {w w' : World} {e : TypeId} {E : Enc α size} {A : Option Addr} {l : List α} {F : Nat → Prop} (h : SlT w e E A l) (ht : Turn F w w') (hF : ∀ b, TypeAt w b e → ¬ F b) : SlT w' e E A l := by
  rcases h with h | ⟨b, off, hA, hT, hc⟩
  · exact .inl h
  · have hk := ht.block b hT.lt (hF b hT)
    refine .inr ⟨b, off, hA, ?_, fun i x hi j u hj => (World.cell?_of_block hk).trans (hc i x hi j u hj)⟩
    obtain ⟨cs, fr, hh⟩ := hT
    exact ⟨cs, fr, hk.trans hh⟩
structure MadeS (w : World) (pb g K l : Nat) (k : Int) (r m : List Nd) (F : Nat → Prop) (A : Option Addr) (cap : Nat) (W : World) : Prop where
  d : DigAt W g K l k r F
  fw : ∀ b, F b → w.heap.size ≤ b
  b : W.heap[pb]? = some (.cells #[.int .i64 l, .slice A m.length cap] 31 (0, 0))
  pw : w.heap.size + 1 < pb
  z : W.heap[w.heap.size + 1]? = some (.cells #[.int .i64 0, .slice none 0 0] 31 (0, 0))
  s : SlT W 96 encN A m
  blw : Below w.heap.size w W
section
variable {w : World} {pb g K l : Nat} {k : Int} {r r' m m' : List Nd} {F F' : Nat → Prop} {A A' : Option Addr} {cap cap' : Nat} {W W' : World}
theorem MadeS.below (h : MadeS w pb g K l k r m F A cap W) (hb : Below W.heap.size W W') : MadeS w pb g K l k r m F A cap W' :=
  ⟨h.d.below hb, h.fw, blk_below h.b hb, h.pw, blk_below h.z hb, h.s.below hb, h.blw.trans (hb.mono h.blw.size)⟩
theorem MadeS.dig (h : MadeS w pb g K l k r m F A cap W) (ht : DigTo W g K l k r' F W') : ∃ F', MadeS w pb g K l k r' m F' A cap W' := by
  obtain ⟨F', h1, h2, h3⟩ := ht
  refine ⟨F', h1, fun b hb => ?_, h2.keep h.b (h.d.not_type (.of h.b) (by decide)), h.pw, h2.keep h.z (h.d.not_type (.of h.z) (by decide)), h.s.turn h2 fun b hb => h.d.not_type hb (by decide), h.blw.trans (h2.below h.fw h.blw.size)⟩
  rcases h3 b hb with hb | hb
  · exact h.fw b hb
  · exact Nat.le_trans h.blw.size hb
theorem set_one {W : World} {pb t : Nat} {a c u : Value} (h : W.heap[pb]? = some (.cells #[a, c] t (0, 0))) : (W.setCell ⟨pb, 1, none⟩ u).heap[pb]? = some (.cells #[a, u] t (0, 0)) := by
  simp [World.setCell, Array.getElem?_modify, h]
theorem set_nil {W : World} {pb t : Nat} {a c u : Value} (h : W.heap[pb]? = some (.cells #[a, c] t (0, 0))) : (W.setCell ⟨pb, 0, none⟩ u).heap[pb]? = some (.cells #[u, c] t (0, 0)) := by
  simp [World.setCell, Array.getElem?_modify, h]
theorem MadeS.set1 (h : MadeS w pb g K l k r m F A cap W) (hs : SlT W 96 encN A' m') : MadeS w pb g K l k r m' F A' cap' (W.setCell ⟨pb, 1, none⟩ (.slice A' m'.length cap')) := by
  have hne : ∀ b, b ≠ pb → (W.setCell ⟨pb, 1, none⟩ (.slice A' m'.length cap')).heap[b]? = W.heap[b]? := fun b hb => Below.heap_setCell _ _ _ _ hb
  have hF : ¬ F pb := h.d.not_type (.of h.b) (by decide)
  refine ⟨h.d.keep fun b hb => hne b (by rintro rfl; exact hF hb), h.fw, set_one h.b, h.pw, (hne _ (by have := h.pw; omega)).trans h.z, hs.setCellT (p := ⟨pb, 1, none⟩) (.of h.b) (by decide), h.blw.setCell (by have := h.pw; simp only; omega) _⟩
theorem MadeS.set0 (h : MadeS w pb g K l k r m F A cap W) : MadeS w pb g K l k r m F A cap (W.setCell ⟨pb, 0, none⟩ (.int .i64 l)) := by
  have hne : ∀ b, b ≠ pb → (W.setCell ⟨pb, 0, none⟩ (.int .i64 l)).heap[b]? = W.heap[b]? := fun b hb => Below.heap_setCell _ _ _ _ hb
  have hF : ¬ F pb := h.d.not_type (.of h.b) (by decide)
  refine ⟨h.d.keep fun b hb => hne b (by rintro rfl; exact hF hb), h.fw, set_nil h.b, h.pw, (hne _ (by have := h.pw; omega)).trans h.z, h.s.setCellT (p := ⟨pb, 0, none⟩) (.of h.b) (by decide), h.blw.setCell (by have := h.pw; simp only; omega) _⟩
end
theorem law13_Made_no (w : World) (l k K : Int) (v : Value) (h : isDig l k K = false) :
    Calls Tryz.prog 15 #[.agg #[.int .i64 l, .int .i64 k, .int .i64 K], v] w fun e w' => e = .returned (.tuple #[.pointer none, bagV 0 none 0 0]) ∧ Below w.heap.size w w' := by
  have HN := Lib.hid (fun W => digest_New_no W l k K h)
  have BW0 : Below w.heap.size w ((w.alloc (.cells #[.int .i64 l, .int .i64 k, .int .i64 K] 23)).alloc (.cells #[.int .i64 0, .slice none 0 0] 31)) := (by repeat (first | with_reducible exact Below.refl _ _ | with_reducible assumption | ((with_reducible refine Below.setCell ?_ ?_ _); rotate_left; · (first | omega | exact Nat.le_refl _ | (simp <;> omega))) | (with_reducible refine Below.allocW ?_ _) | (with_reducible refine Below.drew ?_) | (with_reducible refine Below.extW ?_ _)))
  have X0 := heap_new_at (w.alloc (.cells #[.int .i64 l, .int .i64 k, .int .i64 K] 23)) (.cells #[.int .i64 0, .slice none 0 0] 31) (w.heap.size + 1) (by simp)
  have HX := Lib.hid (And.intro BW0 X0)
  clear BW0 X0 h
  unfold bagV
  go_enter Tryz.func15, Tryz.ntmps15
  go_wp2_with fail
  refine (HN.out _).mono ?_
  rintro e w1 ⟨rfl, hb1⟩
  have Y := blk_below HX.out.2 hb1
  have c := blk_cell Y
  have f := blk_frozen Y
  have z := lt_of_block Y
  have B1 := Lib.hid (Below.then_ HX.out.1 hb1)
  clear hb1 Y
  go_wp2_with fail
  exact bodyPost_ret (v := .tuple #[.pointer none, .agg #[.int .i64 0, .slice none 0 0]]) (by simp only [results, Tryz.results15]; go_simp) rfl ⟨rfl, Below.setCell (p := ⟨w.heap.size + 1, 1, none⟩) (Below.setCell (p := ⟨w.heap.size + 1, 0, none⟩) B1.out (by simp) _) (by simp) _⟩
theorem isDig_nat {l k K : Int} (h : isDig l k K = true) : ∃ n m : Nat, l = n ∧ K = m := by
  simp only [isDig, isPool, Bool.and_eq_true, decide_eq_true_eq] at h
  exact ⟨l.toNat, K.toNat, by omega, by omega⟩
def CallsPost (K l : Nat) (k : Int) (n : Nat) (w : World) (e : Ending) (w' : World) : Prop :=
  ∃ (g : Nat) (F : Nat → Prop) (r m : List Nd) (A : Option Addr) (cap : Nat), e = .returned (.tuple #[.pointer (some ⟨g, 0, none⟩), bagV l A m.length cap]) ∧ DigAt w' g K l k r F ∧ (∀ b, F b → w.heap.size ≤ b) ∧ SlT w' 96 encN A m ∧ Held l k r m ∧ r.length ≤ n ∧ m.length ≤ n ∧ (r.length : Int) ≤ 8 * k ∧ Below w.heap.size w w'
set_option maxHeartbeats 8000000 in
theorem law13_Made (w : World) (l K : Nat) (k : Int) (A : Option Addr) (cap : Nat) (ops : List Op3) (hd : isDig l k K = true) (hS : Sl w w.heap.size encO A ops) (hI : intsO ops) (hlen : ops.length ≤ 1000) :
    Calls Tryz.prog 15 #[.agg #[.int .i64 l, .int .i64 k, .int .i64 K], .slice A ops.length cap] w (CallsPost K l k ops.length w) := by
  have hk : 1 ≤ k := by simp only [isDig, Bool.and_eq_true, decide_eq_true_eq] at hd; exact hd.2.1
  have hl : 1 ≤ l ∧ l ≤ 48 := by simp only [isDig, isPool, Bool.and_eq_true, decide_eq_true_eq] at hd; omega
  have HN := Lib.hid (fun W => digest_New W l K k hd)
  have HS := Lib.hid hS
  have HI := Lib.hid hI
  have BW0 : Hid (Below w.heap.size w ((w.alloc (.cells #[.int .i64 l, .int .i64 k, .int .i64 K] 23)).alloc (.cells #[.int .i64 0, .slice none 0 0] 31))) := Lib.hid (by repeat (first | with_reducible exact Below.refl _ _ | with_reducible assumption | ((with_reducible refine Below.setCell ?_ ?_ _); rotate_left; · (first | omega | exact Nat.le_refl _ | (simp <;> omega))) | (with_reducible refine Below.allocW ?_ _) | (with_reducible refine Below.drew ?_) | (with_reducible refine Below.extW ?_ _)))
  have X0 : Hid (((w.alloc (.cells #[.int .i64 l, .int .i64 k, .int .i64 K] 23)).alloc (.cells #[.int .i64 0, .slice none 0 0] 31)).heap[w.heap.size + 1]? = some (.cells #[.int .i64 0, .slice none 0 0] 31 (0, 0))) := Lib.hid (heap_new_at _ _ _ (by simp))
  have X1 : Hid (((w.alloc (.cells #[.int .i64 l, .int .i64 k, .int .i64 K] 23)).alloc (.cells #[.int .i64 0, .slice none 0 0] 31)).heap[w.heap.size]? = some (.cells #[.int .i64 l, .int .i64 k, .int .i64 K] 23 (0, 0))) := Lib.hid ((heap_new_lt _ _ _ (by simp)).trans (heap_alloc_new w _))
  have Z0 : Hid (((w.alloc (.cells #[.int .i64 l, .int .i64 k, .int .i64 K] 23)).alloc (.cells #[.int .i64 0, .slice none 0 0] 31)).heap.size = w.heap.size + 2) := Lib.hid (by simp)
  unfold CallsPost bagV
  clear hS hI hd
  go_enter Tryz.func15, Tryz.ntmps15
  go_upto_region 1 with fail
  generalize (w.alloc (.cells #[.int .i64 l, .int .i64 k, .int .i64 K] 23)).alloc (.cells #[.int .i64 0, .slice none 0 0] 31) = W0 at X0 X1 BW0 Z0 ⊢
  have c1 := blk_cell X1.out
  have z1 := lt_of_block X1.out
  go_wp2_with fail
  refine (HN.out _).mono ?_
  rintro e w1 ⟨g, F0, rfl, hD, hF, hb1⟩
  have Y1 := blk_below X1.out hb1
  have c2 := blk_cell Y1
  have z2 := lt_of_block Y1
  obtain ⟨pb, hpb⟩ : ∃ pb, pb = w1.heap.size := ⟨_, rfl⟩
  have hs1 := hb1.size
  have al := (Below.refl w1.heap.size w1).alloc (Nat.le_refl _) (.cells #[.int .i64 l, .slice none 0 0] 31)
  have R0 : Hid (MadeS w pb g K l k [] [] F0 none 0 (w1.alloc (.cells #[.int .i64 l, .slice none 0 0] 31))) := Lib.hid
    ⟨hD.below al, fun b hb => by have := hF b hb; have := BW0.out.size; omega, heap_new_at _ _ _ hpb, by have := Z0.out; omega, blk_below (blk_below X0.out hb1) al, .nil, Below.then_ (Below.then_ BW0.out hb1) al⟩
  clear hD hF hb1 Y1 al c1 z1 X1 X0 HN
  go_upto_region 5 with fail
  rw [← hpb]
  generalize w1.alloc (.cells #[.int .i64 l, .slice none 0 0] 31) = W2 at R0 ⊢
  have hol : (ops.length : Int) ≤ 1000 := by omega
  clear c2 z2 hs1 hpb Z0
  go_wp2_with fail
  go_loopw [29] (fun i wr => ∃ (q : Nat) (r m : List Nd) (F : Nat → Prop) (A' : Option Addr) (cap' : Nat), q ≤ ops.length ∧ i = .int .i64 q ∧ MadeS w pb g K l k r m F A' cap' wr ∧ Held l k r m ∧ r.length ≤ q ∧ m.length ≤ q ∧ (r.length : Int) ≤ 8 * k) (fun i _ => ops.length - (intOf i).toNat)
  case atStart => exact ⟨0, [], [], F0, none, 0, Nat.zero_le _, rfl, R0.out, Held.nil l k, by simp, by simp, by simp; omega⟩
  case round =>
    obtain ⟨q, r, m, F, A', cap', hq, rfl, hR, hH, hrl, hml, hrm⟩ := hrel
    have R := Lib.hid hR
    have H := Lib.hid hH
    have hz := hR.blw.size
    clear hR hH
    by_cases hlt : q < ops.length
    · have hqi : (q : Int) < (ops.length : Int) := by omega
      obtain ⟨b, off, rfl, hb, hc⟩ := HS.out.at_ hlt
      have d0 := (R.out.blw.cell (p := ⟨b, off + q * 3, none⟩) hb).trans (by have := hc 0 (.int .i64 ops[q].1) rfl; simpa using this)
      have d1 := (R.out.blw.cell (p := ⟨b, off + q * 3 + 1, none⟩) hb).trans (hc 1 (.int .i64 ops[q].2.1) rfl)
      have d2 := (R.out.blw.cell (p := ⟨b, off + q * 3 + 2, none⟩) hb).trans (hc 2 (.int .i64 ops[q].2.2) rfl)
      have lb : b < wr.heap.size := Nat.lt_of_lt_of_le hb hz
      have hi := HI.out _ (List.getElem_mem hlt)
      have HDo := Lib.hid (fun W h => law13_Do W g K l k r F h (by omega) ops[q])
      have HAd := Lib.hid (fun W A c h => ref10_Add W l A c m ops[q].2.1 ops[q].2.2 hl h H.out.bag (by omega) hi.2.2.2)
      have hdo : ∀ r' n, DoTo l k r ops[q] r' n → Held l k r' (bagDo l m ops[q] n) ∧ r'.length ≤ q + 1 ∧ (r'.length : Int) ≤ 8 * k ∧ (bagDo l m ops[q] n).length ≤ q + 1 := fun r' n h =>
        ⟨H.out.do_ hl hk h, by have := h.len H.out.fits; omega, h.room H.out.fits hl hk hrm, by have := bagDo_len l m ops[q] n; omega⟩
      have HD := Lib.hid hdo
      unfold bagDo at HD
      generalize ops[q] = o at d0 d1 d2 HDo HAd HD
      obtain ⟨kd, x, c⟩ := o
      simp only at d0 d1 d2 HDo HAd HD
      clear hc hi hdo
      have XO := Lib.hid (heap_new_at wr (.cells #[.int .i64 kd, .int .i64 x, .int .i64 c] 51) wr.heap.size rfl)
      have R1 := Lib.hid (R.out.below ((Below.refl wr.heap.size wr).alloc (Nat.le_refl _) (.cells #[.int .i64 kd, .int .i64 x, .int .i64 c] 51)))
      go_upto_region 8 with fail
      obtain ⟨po, hpo⟩ : ∃ po, po = wr.heap.size := ⟨_, rfl⟩
      rw [← hpo] at XO ⊢
      generalize wr.alloc (.cells #[.int .i64 kd, .int .i64 x, .int .i64 c] 51) = W3 at XO R1 ⊢
      have e0 := blk_cell XO.out
      have ez := lt_of_block XO.out
      clear d0 d1 d2 lb R hpo
      go_wp2_with fail
      refine (HDo.out _ R1.out.d).mono ?_
      rintro e w4 ⟨r', n, rfl, hDo, hT⟩
      have X4 := Lib.hid (by obtain ⟨F', _, h2, _⟩ := hT; exact h2.keep XO.out (R1.out.d.not_type (.of XO.out) (by decide)))
      obtain ⟨F4, R4'⟩ := R1.out.dig hT
      have R4 := Lib.hid R4'
      have HD4 := Lib.hid (HD.out r' n hDo)
      have f0 := blk_cell X4.out
      have fz := lt_of_block X4.out
      have p0 := blk_cell R4.out.b
      have pf := blk_frozen R4.out.b
      have pz := lt_of_block R4.out.b
      clear hDo hT R4' e0 ez XO R1 HD HDo
      by_cases h2 : kd = 2
      · subst h2
        have HE : Hid (MadeS w pb g K l k r' [] F4 none 0 (w4.setCell ⟨pb, 1, none⟩ (.slice none 0 0))) := Lib.hid (R4.out.set1 (m' := []) .nil)
        rw [if_pos rfl] at HD4
        go_wp2_with fail
        go_roundw
        case rel => exact ⟨q + 1, r', [], F4, none, 0, by omega, by go_num, HE.out, HD4.out.1, HD4.out.2.1, by simp, HD4.out.2.2.1⟩
        case measure => simp [intOf]; omega
      · have h2' : (kd == 2) = false := by simpa using h2
        rw [if_neg h2] at HD4
        by_cases h1 : kd = 1
        · subst h1
          rw [if_neg (by simp)] at HD4
          go_wp2_with fail
          go_roundw
          case rel => exact ⟨q + 1, r', m, F4, A', cap', by omega, by go_num, R4.out, HD4.out.1, HD4.out.2.1, by omega, HD4.out.2.2.1⟩
          case measure => simp [intOf]; omega
        · have h1' : (kd == 1) = false := by simpa using h1
          have h1n : (kd != 1) = true := by simpa using h1
          by_cases hn : n = 0
          · subst hn
            rw [if_pos ⟨h1, rfl⟩] at HD4
            unfold bagV at HAd
            generalize addB l m x c = t at HD4 HAd
            obtain ⟨m', e'⟩ := t
            simp only at HD4 HAd
            go_wp2_with fail
            refine (HAd.out _ A' cap' R4.out.s).mono ?_
            rintro e w5 ⟨A5, c5, rfl, hS5, hb5⟩
            have R5 := Lib.hid (R4.out.below hb5)
            have S5 := Lib.hid hS5
            have HE : Hid (MadeS w pb g K l k r' m' F4 A5 c5 ((w5.setCell ⟨pb, 0, none⟩ (.int .i64 l)).setCell ⟨pb, 1, none⟩ (.slice A5 m'.length c5))) := Lib.hid (R5.out.set0.set1 (hS5.setCellT (p := ⟨pb, 0, none⟩) (.of R5.out.b) (by decide)))
            have p5 := blk_cell R5.out.b
            have pf5 := blk_frozen R5.out.b
            have pz5 := lt_of_block R5.out.b
            clear hS5 hb5 p0 pf pz f0 fz
            go_wp2_with fail
            go_roundw
            case rel => exact ⟨q + 1, r', m', F4, A5, c5, by omega, by go_num, HE.out, HD4.out.1, HD4.out.2.1, HD4.out.2.2.2, HD4.out.2.2.1⟩
            case measure => simp [intOf]; omega
          · have hn' : (n == 0) = false := by simpa using hn
            rw [if_neg (fun h => hn h.2)] at HD4
            go_wp2_with fail
            go_roundw
            case rel => exact ⟨q + 1, r', m, F4, A', cap', by omega, by go_num, R4.out, HD4.out.1, HD4.out.2.1, by omega, HD4.out.2.2.1⟩
            case measure => simp [intOf]; omega
    · obtain rfl : q = ops.length := by omega
      have hqi : decide ((ops.length : Int) < (ops.length : Int)) = false := by simp
      have p0 := blk_cell R.out.b
      have pz := lt_of_block R.out.b
      have y0 := blk_cell R.out.z
      have yf := blk_frozen R.out.z
      have yz := lt_of_block R.out.z
      have HE : Hid (∀ a b : Value, DigAt ((wr.setCell ⟨w.heap.size + 1, 0, none⟩ a).setCell ⟨w.heap.size + 1, 1, none⟩ b).drew g K l k r F ∧ SlT ((wr.setCell ⟨w.heap.size + 1, 0, none⟩ a).setCell ⟨w.heap.size + 1, 1, none⟩ b).drew 96 encN A' m ∧ Below w.heap.size w ((wr.setCell ⟨w.heap.size + 1, 0, none⟩ a).setCell ⟨w.heap.size + 1, 1, none⟩ b).drew) := Lib.hid fun a b => by
        have hF : ¬ F (w.heap.size + 1) := R.out.d.not_type (.of R.out.z) (by decide)
        have T0 := TypeAt.of R.out.z
        refine ⟨R.out.d.keep fun j hj => ?_, ((R.out.s.setCellT (p := ⟨w.heap.size + 1, 0, none⟩) T0 (by decide)).setCellT (p := ⟨w.heap.size + 1, 1, none⟩) T0.setCell (by decide)).drew, ((R.out.blw.setCell (by simp) _).setCell (by simp) _).drew⟩
        exact (Below.heap_setCell _ _ _ _ (by rintro rfl; exact hF hj)).trans (Below.heap_setCell _ _ _ _ (by rintro rfl; exact hF hj))
      have HFw := Lib.hid R.out.fw
      have H2 := Lib.hid (And.intro hrl (And.intro hml hrm))
      go_upto_region 14 with fail
      go_region
      all_goals (go_wp2_with fail)
      all_goals first
        | exact bodyPost_ret (v := .tuple #[.pointer (some ⟨g, 0, none⟩), .agg #[.int .i64 l, .slice A' m.length cap']]) (by simp only [results, Tryz.results15]; go_simp) rfl ⟨g, F, r, m, A', cap', rfl, (HE.out _ _).1, HFw.out, (HE.out _ _).2.1, H.out, H2.out.1, H2.out.2.1, H2.out.2.2, (HE.out _ _).2.2⟩
        | trace_state
end Go.Proofs.YtcjnchjmpkapmaaGreat
