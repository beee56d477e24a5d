/-
  Texts of this proof, one behind the other: Ref10Put, Ref10Of, BagMade, RoomLaw, Made13, Send, Alive31, Ref31, Like31, OpenPlace, SensorNewW.
-/
import Derived.Deep.RegionWith
import Derived.Test.YtgjaopfjffncbaaGreatP2
import Derived.Test.YtgjaopfjffncbaaGreatP3
import Derived.Test.YtgjaopfjffncbaaGreatP4
import Derived.Test.YtgjaopfjffncbaaGreatP5
/- Reference 10: put. -/
set_option linter.unusedSimpArgs false namespace Go.Proofs.YtgjaopfjffncbaaGreat
open Go.ChangeShapes Go.WideShapes Go.ChangeAt Go.RowKit
set_option linter.unusedVariables false
set_option linter.unusedSimpArgs false
set_option maxRecDepth 100000

/-- What is still to be written. -/
def putL : List Nd → Int → Int → Bool → List Nd
  | [], x, c, d => if d = true then [] else [(x, c)]
  | z :: m, x, c, d => if z.1 = x then (z.1, z.2 + c) :: putL m x c true else if x < z.1 ∧ d = false then (x, c) :: z :: putL m x c true else z :: putL m x c d
theorem putL_done {m : List Nd} {x : Int} (h : ∀ z ∈ m, x < z.1) (c : Int) : putL m x c true = m := by
  induction m with
  | nil => rfl
  | cons z m ih =>
    have := h z (by simp)
    simp only [putL]
    rw [if_neg (by omega : ¬ z.1 = x), if_neg (by simp : ¬ (x < z.1 ∧ true = false)), ih fun y hy => h y (by simp [hy])]
theorem putL_addR {m : List Nd} (hup : m.Pairwise fun a b => a.1 < b.1) (x c : Int) : putL m x c false = addR m x c := by
  induction m with
  | nil => rfl
  | cons z m ih =>
    obtain ⟨u1, u2⟩ := List.pairwise_cons.1 hup
    simp only [putL, addR]
    by_cases h1 : z.1 = x
    · rw [if_pos h1, if_pos h1, putL_done (fun y hy => by have := u1 y hy; omega)]; rw [h1]
    · rw [if_neg h1, if_neg h1]
      by_cases h2 : x < z.1
      · rw [if_pos (show x < z.1 ∧ True from ⟨h2, trivial⟩), if_pos h2, putL_done fun y hy => by have := u1 y hy; omega]
      · rw [if_neg (by omega), if_neg h2, ih u2]
theorem putL_eq {z : Nd} {x c : Int} {d : Bool} {L m : List Nd} (h : z.1 = x) : L ++ putL (z :: m) x c d = (L ++ [(z.1, z.2 + c)]) ++ putL m x c true := by simp [putL, h]
theorem putL_new {z : Nd} {x c : Int} {L m : List Nd} (h : x < z.1) : L ++ putL (z :: m) x c false = ((L ++ [(x, c)]) ++ [z]) ++ putL m x c true := by
  simp only [putL]
  rw [if_neg (by omega : ¬ z.1 = x), if_pos (show x < z.1 ∧ True from ⟨h, trivial⟩)]; simp
theorem putL_old {z : Nd} {x c : Int} {d : Bool} {L m : List Nd} (h1 : z.1 ≠ x) (h2 : ¬ (x < z.1 ∧ d = false)) : L ++ putL (z :: m) x c d = (L ++ [z]) ++ putL m x c d := by
  simp only [putL]
  rw [if_neg h1, if_neg h2]; simp
set_option maxHeartbeats 8000000 in
theorem ref10_put (w : World) (l : Int) (A : Option Addr) (cap : Nat) (m : List Nd) (x c : Int) (hS : Sl w w.heap.size encN A m) (hup : m.Pairwise fun a b => a.1 < b.1) (hv : ∀ x ∈ m, 1 ≤ x.2) (hc : 1 ≤ c) (hs : sumR m + c ≤ 72057594037927935) (hlen : m.length ≤ 65536) :
    Calls Tryz.prog 76 #[bagV l A m.length cap, .int .i64 x, .int .i64 c] w fun e w' => ∃ A' cap', e = .returned (bagV l A' (addR m x c).length cap') ∧ SlT w' 111 encN A' (addR m x c) ∧ Below w.heap.size w w' := by
  have HS := Lib.hid hS
  have HV := Lib.hid hv
  have HA := Lib.hid (putL_addR hup x c)
  have HN := Lib.hid hs
  clear hS hv hup
  unfold bagV
  have X0 : Hid (((w.alloc (.cells #[.int .i64 l, .slice A m.length cap] 76)).alloc (.cells #[.int .i64 0, .slice none 0 0] 76)).heap[w.heap.size]? = some (.cells #[.int .i64 l, .slice A m.length cap] 76 (0, 0))) := Lib.hid ((heap_new_lt _ _ _ (by simp)).trans (heap_alloc_new w _))
  have X1 : Hid (((w.alloc (.cells #[.int .i64 l, .slice A m.length cap] 76)).alloc (.cells #[.int .i64 0, .slice none 0 0] 76)).heap[w.heap.size + 1]? = some (.cells #[.int .i64 0, .slice none 0 0] 76 (0, 0))) := Lib.hid (heap_new_at (w.alloc _) _ _ (by simp))
  have BW0 : Hid (Below w.heap.size w ((w.alloc (.cells #[.int .i64 l, .slice A m.length cap] 76)).alloc (.cells #[.int .i64 0, .slice none 0 0] 76))) := Lib.hid (by repeat (first | with_reducible exact Below.refl _ _ | with_reducible assumption | ((with_reducible refine Below.setCell ?_ ?_ _); rotate_left; · (first | omega | exact Nat.le_refl _ | (simp <;> omega))) | (with_reducible refine Below.allocW ?_ _) | (with_reducible refine Below.drew ?_) | (with_reducible refine Below.extW ?_ _)))
  have Z0 : Hid (((w.alloc (.cells #[.int .i64 l, .slice A m.length cap] 76)).alloc (.cells #[.int .i64 0, .slice none 0 0] 76)).heap.size = w.heap.size + 1 + 1) := Lib.hid (by simp)
  go_enter Tryz.func76, Tryz.ntmps76
  go_upto_region 1 with fail
  generalize (w.alloc (.cells #[.int .i64 l, .slice A m.length cap] 76)).alloc (.cells #[.int .i64 0, .slice none 0 0] 76) = W0 at X0 X1 BW0 Z0 ⊢
  have S0 := Lib.hid (HS.out.keep (B' := W0.heap.size) BW0.out.size fun p hp => BW0.out.cell hp)
  clear HS
  go_wp2_with fail
  go_loopw [7, 8, 9] (fun o d j wr => ∃ (q : Nat) (L : List Nd) (f : Bool), q ≤ m.length ∧ j = .int .i64 q ∧ d = .bool f ∧ Own wr W0.heap.size 111 encN o L ∧ L ++ putL (m.drop q) x c f = addR m x c ∧ L.length ≤ 2 * q ∧ Below W0.heap.size W0 wr) (fun _ _ j _ => m.length - (intOf j).toNat)
  case atStart => exact ⟨0, [], false, Nat.zero_le _, rfl, rfl, .nil _ _ _ _, HA.out, by simp, Below.refl _ _⟩
  case round =>
    obtain ⟨q, L, f, hq, rfl, rfl, ho, hL, hLl, hB⟩ := hrel
    obtain ⟨Ao, co, rfl, _⟩ := ho.form
    have hX := blk_below X0.out hB
    have c0 : wr.cell? ⟨w.heap.size, 1, none⟩ = some (.slice A m.length cap) := by rw [blk_cell hX]; rfl
    have c00 : wr.cell? ⟨w.heap.size, 0, none⟩ = some (.int .i64 l) := by rw [blk_cell hX]; rfl
    have z0 := lt_of_block hX
    have HO := Lib.hid ho
    have HL := Lib.hid hL
    have SZ := Lib.hid hB.size
    clear hX ho hL
    by_cases hlt : q < m.length
    · have hE := HL.out
      rw [List.drop_eq_getElem_cons hlt] at hE
      obtain ⟨b, off, rfl, hb, hc2⟩ := S0.out.at_ hlt
      have d0 := (hB.cell (p := ⟨b, off + q * 2 + 1, none⟩) hb).trans (hc2 1 (.int .i64 m[q].2) rfl)
      have d1 := (hB.cell (p := ⟨b, off + q * 2, none⟩) hb).trans (by have := hc2 0 (.int .i64 m[q].1) rfl; simpa using this)
      have lb : b < wr.heap.size := Nat.lt_of_lt_of_le hb hB.size
      have v1 := HV.out _ (List.getElem_mem hlt)
      have s1 : m[q].2 + c ≤ 72057594037927935 := by have := sum_part HV.out hlt; have := HN.out; omega
      obtain ⟨y, hy⟩ : ∃ y : Nd, y = m[q] := ⟨_, rfl⟩
      rw [← hy] at d0 d1 v1 s1 hE
      obtain ⟨u, v⟩ := y
      simp only at d0 d1 v1 s1
      clear hc2 hy
      by_cases k1 : u = x
      · subst k1
        rw [putL_eq rfl] at hE
        have HE := Lib.hid hE
        clear hE
        have sz := SZ.out
        have OA := Lib.hid (HO.out.alloc (.cells #[.int .i64 u, .int .i64 (v + c)] 111))
        have BM := Lib.hid (show Below W0.heap.size W0 (wr.alloc (.cells #[.int .i64 u, .int .i64 (v + c)] 111)) from (by repeat (first | with_reducible exact Below.refl _ _ | with_reducible assumption | ((with_reducible refine Below.setCell ?_ ?_ _); rotate_left; · (first | omega | exact Nat.le_refl _ | (simp <;> omega))) | (with_reducible refine Below.allocW ?_ _) | (with_reducible refine Below.drew ?_) | (with_reducible refine Below.extW ?_ _))))
        have wfu : (decide (u ≤ u)) = true := by simp
        go_wp2_with ((at_builtin; refine wpList_push tyRd rfl _ _ rfl encN (wr.alloc (.cells #[.int .i64 u, .int .i64 (v + c)] 111)) W0.heap.size (.slice Ao L.length co) L rfl OA.out (u, v + c) (by go_simp) rfl ?c1 ?c2 ?c3 ?c4))
        case c1 => (try simp only [List.length_append, List.length_cons, List.length_nil]); omega
        case c2 => (try simp only [maxLen, List.length_append, List.length_cons, List.length_nil]); omega
        case c3 => (try simp [World.setCell]); omega
        case c4 =>
          intro v5 w5 ho5 _ _ _ hb5 _
          have H5 := Lib.hid (And.intro ho5 hb5)
          clear ho5 hb5
          go_wp2_with fail
          go_roundw
          case rel => exact ⟨q + 1, L ++ [(u, v + c)], true, by omega, by go_num, rfl, H5.out.1, HE.out, by simp; omega, BM.out.trans H5.out.2⟩
          case measure => simp [intOf]; omega
      · have k1' : (u == x) = false := by simpa using k1
        have sz := SZ.out
        have OA := Lib.hid (HO.out.alloc (.cells #[.int .i64 u, .int .i64 v] 111))
        have BM := Lib.hid (show Below W0.heap.size W0 (wr.alloc (.cells #[.int .i64 u, .int .i64 v] 111)) from (by repeat (first | with_reducible exact Below.refl _ _ | with_reducible assumption | ((with_reducible refine Below.setCell ?_ ?_ _); rotate_left; · (first | omega | exact Nat.le_refl _ | (simp <;> omega))) | (with_reducible refine Below.allocW ?_ _) | (with_reducible refine Below.drew ?_) | (with_reducible refine Below.extW ?_ _))))
        by_cases k2 : x < u
        · cases f
          · rw [putL_new k2] at hE
            have HE := Lib.hid hE
            clear hE
            go_wp2_with ((at_builtin; refine wpList_push tyRd rfl _ _ rfl encN (wr.alloc (.cells #[.int .i64 u, .int .i64 v] 111)) W0.heap.size (.slice Ao L.length co) L rfl OA.out (x, c) (by go_simp) rfl ?c1 ?c2 ?c3 ?c4))
            case c1 => (try simp only [List.length_append, List.length_cons, List.length_nil]); omega
            case c2 => (try simp only [maxLen, List.length_append, List.length_cons, List.length_nil]); omega
            case c3 => (try simp [World.setCell]); omega
            case c4 =>
              intro v5 w5 ho5 hg5 hs5 _ hb5 _
              obtain ⟨A5, c5, rfl, _⟩ := ho5.form
              have hy5 := blk_grown_not (heap_alloc_new wr (.cells #[.int .i64 u, .int .i64 v] 111)) hg5 (HO.out.not_at _ (Nat.le_refl _))
              have cy5 := blk_cell hy5
              have zy5 := lt_of_block hy5
              have O5 := Lib.hid ho5
              have B5 := Lib.hid (BM.out.trans hb5)
              have s5 := B5.out.size
              clear ho5 hg5 hb5
              go_wp2_with ((at_builtin; refine wpList_push tyRd rfl _ _ rfl encN w5 W0.heap.size (.slice A5 (L ++ [(x, c)]).length c5) (L ++ [(x, c)]) rfl O5.out (u, v) (by go_simp) rfl ?c1 ?c2 ?c3 ?c4))
              case c1 => (try simp only [List.length_append, List.length_cons, List.length_nil]); omega
              case c2 => (try simp only [maxLen, List.length_append, List.length_cons, List.length_nil]); omega
              case c3 => (try simp [World.setCell]); omega
              case c4 =>
                intro v6 w6 ho6 _ _ _ hb6 _
                have H6 := Lib.hid (And.intro ho6 hb6)
                clear ho6 hb6
                go_wp2_with fail
                go_roundw
                case rel => exact ⟨q + 1, L ++ [(x, c), (u, v)], true, by omega, by go_num, rfl, H6.out.1, by have := HE.out; simpa using this, by simp; omega, B5.out.trans H6.out.2⟩
                case measure => simp [intOf]; omega
          · rw [putL_old k1 (by simp)] at hE
            have HE := Lib.hid hE
            clear hE
            go_wp2_with ((at_builtin; refine wpList_push tyRd rfl _ _ rfl encN (wr.alloc (.cells #[.int .i64 u, .int .i64 v] 111)) W0.heap.size (.slice Ao L.length co) L rfl OA.out (u, v) (by go_simp) rfl ?c1 ?c2 ?c3 ?c4))
            case c1 => (try simp only [List.length_append, List.length_cons, List.length_nil]); omega
            case c2 => (try simp only [maxLen, List.length_append, List.length_cons, List.length_nil]); omega
            case c3 => (try simp [World.setCell]); omega
            case c4 =>
              intro v5 w5 ho5 _ _ _ hb5 _
              have H5 := Lib.hid (And.intro ho5 hb5)
              clear ho5 hb5
              go_wp2_with fail
              go_roundw
              case rel => exact ⟨q + 1, L ++ [(u, v)], true, by omega, by go_num, rfl, H5.out.1, HE.out, by simp; omega, BM.out.trans H5.out.2⟩
              case measure => simp [intOf]; omega
        · rw [putL_old k1 (by omega)] at hE
          have k2' : decide (x < u) = false := by simpa using k2
          have HE := Lib.hid hE
          clear hE
          go_wp2_with ((at_builtin; refine wpList_push tyRd rfl _ _ rfl encN (wr.alloc (.cells #[.int .i64 u, .int .i64 v] 111)) W0.heap.size (.slice Ao L.length co) L rfl OA.out (u, v) (by go_simp) rfl ?c1 ?c2 ?c3 ?c4))
          case c1 => (try simp only [List.length_append, List.length_cons, List.length_nil]); omega
          case c2 => (try simp only [maxLen, List.length_append, List.length_cons, List.length_nil]); omega
          case c3 => (try simp [World.setCell]); omega
          case c4 =>
            intro v5 w5 ho5 _ _ _ hb5 _
            have H5 := Lib.hid (And.intro ho5 hb5)
            clear ho5 hb5
            go_wp2_with fail
            go_roundw
            case rel => exact ⟨q + 1, L ++ [(u, v)], f, by omega, by go_num, rfl, H5.out.1, HE.out, by simp; omega, BM.out.trans H5.out.2⟩
            case measure => simp [intOf]; omega
    · obtain rfl : q = m.length := by omega
      have hE := HL.out
      rw [List.drop_length] at hE
      have sz := SZ.out
      have hX1 := blk_below X1.out hB
      have c3 := blk_cell hX1
      have f3 := blk_frozen hX1
      have z3 := lt_of_block hX1
      have X1c := Lib.hid hX1
      have XC := Lib.hid (blk_below X0.out hB)
      have HB := Lib.hid (BW0.out.trans (hB.mono BW0.out.size))
      cases f
      · simp only [putL, Bool.false_eq_true, if_false] at hE
        have HE := Lib.hid hE
        clear hE hX1
        go_wp2_with ((at_builtin; refine wpList_push tyRd rfl _ _ rfl encN wr W0.heap.size (.slice Ao L.length co) L rfl HO.out (x, c) (by go_simp) rfl ?c1 ?c2 ?c3 ?c4))
        case c1 => (try simp only [List.length_append, List.length_cons, List.length_nil]); omega
        case c2 => (try simp only [maxLen, List.length_append, List.length_cons, List.length_nil]); omega
        case c3 => (try simp [World.setCell]); omega
        case c4 =>
          intro v5 w5 ho5 hg5 hs5 _ hb5 _
          obtain ⟨A5, cc5, rfl, _⟩ := ho5.form
          rw [HE.out] at ho5 ⊢
          have O5 := Lib.hid ho5
          have hX5 : w5.heap[w.heap.size + 1]? = _ := (hb5.block _ (by have := Z0.out; omega)).trans X1c.out
          have hX0 : w5.heap[w.heap.size]? = _ := (hb5.block _ (by have := Z0.out; omega)).trans XC.out
          have c5 := blk_cell hX5
          have f5 := blk_frozen hX5
          have z5 := lt_of_block hX5
          have c50 : w5.cell? ⟨w.heap.size, 0, none⟩ = some (.int .i64 l) := by rw [blk_cell hX0]; rfl
          have B5 := Lib.hid (HB.out.trans (hb5.mono (by have := Z0.out; omega)))
          clear c0 c00 c3 f3 z3 z0 ho5 hg5 hs5 hb5 hX5 hX0
          go_wp2_with fail
          exact bodyPost_ret (v := .agg #[.int .i64 l, .slice A5 (addR m x c).length cc5]) (by simp only [results, Tryz.results76]; go_simp) rfl ⟨_, _, rfl, (((O5.out.setCellB (p := ⟨w.heap.size + 1, 0, none⟩) (by have := Z0.out; simp only; omega)).setCellB (p := ⟨w.heap.size + 1, 1, none⟩) (by have := Z0.out; simp only; omega)).slT), Below.setCell (p := ⟨w.heap.size + 1, 1, none⟩) (Below.setCell (p := ⟨w.heap.size + 1, 0, none⟩) B5.out (by simp) _) (by simp) _⟩
      · simp only [putL, if_true, List.append_nil] at hE
        subst hE
        go_wp2_with fail
        exact bodyPost_ret (v := .agg #[.int .i64 l, .slice Ao (addR m x c).length co]) (by simp only [results, Tryz.results76]; go_simp) rfl ⟨_, _, rfl, (((HO.out.setCellB (p := ⟨w.heap.size + 1, 0, none⟩) (by have := Z0.out; simp only; omega)).setCellB (p := ⟨w.heap.size + 1, 1, none⟩) (by have := Z0.out; simp only; omega)).slT), Below.setCell (p := ⟨w.heap.size + 1, 1, none⟩) (Below.setCell (p := ⟨w.heap.size + 1, 0, none⟩) HB.out (by simp) _) (by simp) _⟩
end Go.Proofs.YtgjaopfjffncbaaGreat
/- Reference 10: Add. -/
namespace Go.Proofs.YtgjaopfjffncbaaGreat
open Go.ChangeShapes Go.WideShapes Go.ChangeAt Go.RowKit
set_option linter.unusedVariables false
set_option linter.unusedSimpArgs false
set_option maxRecDepth 100000

set_option maxHeartbeats 4000000 in
theorem ref10_Add (w : World) (l : Nat) (A : Option Addr) (cap : Nat) (m : List Nd) (x c : Int) (hl : 1 ≤ l ∧ l ≤ 48) (hS : SlT w 111 encN A m) (hm : BagL l m) (hlen : m.length ≤ 65536) (hc2 : c ≤ 9223372036854775807) :
    Calls Tryz.prog 25 #[bagV l A m.length cap, .int .i64 x, .int .i64 c] w fun e w' => ∃ A' cap', e = .returned (.tuple #[bagV l A' (addB l m x c).1.length cap', .int .i64 (addB l m x c).2]) ∧ SlT w' 111 encN A' (addB l m x c).1 ∧ Below w.heap.size w w' := by
  have HS := Lib.hid hS
  have HP := Lib.hid (fun W => ref2_Power W l (by omega))
  have hval : ∀ x ∈ m, 1 ≤ x.2 := fun y hy => (hm.val y hy).2.2
  have HT := Lib.hid (fun W h => ref10_Total W l A cap m h hval hm.sum)
  have hsum := hm.sum
  have hsum0 := hm.sum0
  have HU := Lib.hid hm.up
  have HVAL := Lib.hid hval
  unfold bagV at HT ⊢
  clear hS hval hm
  have X0 : Hid (((w.alloc (.cells #[.int .i64 l, .slice A m.length cap] 76)).alloc (.cells #[.int .i64 0, .slice none 0 0] 76)).heap[w.heap.size]? = some (.cells #[.int .i64 l, .slice A m.length cap] 76 (0, 0))) := Lib.hid ((heap_new_lt _ _ _ (by simp)).trans (heap_alloc_new w _))
  have X1 : Hid (((w.alloc (.cells #[.int .i64 l, .slice A m.length cap] 76)).alloc (.cells #[.int .i64 0, .slice none 0 0] 76)).heap[w.heap.size + 1]? = some (.cells #[.int .i64 0, .slice none 0 0] 76 (0, 0))) := Lib.hid (heap_new_at (w.alloc _) _ _ (by simp))
  have BW0 : Hid (Below w.heap.size w ((w.alloc (.cells #[.int .i64 l, .slice A m.length cap] 76)).alloc (.cells #[.int .i64 0, .slice none 0 0] 76))) := Lib.hid (by repeat (first | with_reducible exact Below.refl _ _ | with_reducible assumption | ((with_reducible refine Below.setCell ?_ ?_ _); rotate_left; · (first | omega | exact Nat.le_refl _ | (simp <;> omega))) | (with_reducible refine Below.allocW ?_ _) | (with_reducible refine Below.drew ?_) | (with_reducible refine Below.extW ?_ _)))
  have Z0 : Hid (((w.alloc (.cells #[.int .i64 l, .slice A m.length cap] 76)).alloc (.cells #[.int .i64 0, .slice none 0 0] 76)).heap.size = w.heap.size + 1 + 1) := Lib.hid (by simp)
  obtain ⟨p, hp⟩ : ∃ p : Int, p = 2 ^ l := ⟨_, rfl⟩
  have hv : isVal l x = (decide (0 ≤ x) && decide (x < p)) := by unfold isVal; rw [hp]
  rw [← hp] at HP
  have KS : Hid (∀ W', Below w.heap.size w W' → SlT W' 111 encN A m) := Lib.hid fun W' hb => HS.out.below hb
  have cd : c < 1 ∨ decide (c < 1) = false := by
    by_cases h : c < 1
    · exact .inl h
    · exact .inr (decide_eq_false h)
  by_cases h1 : x < 0
  · have e1 : addB l m x c = (m, 3) := by unfold addB; rw [if_pos (by rw [hv]; simp; omega)]
    rw [e1]
    clear e1 hv hp
    go_enter Tryz.func25, Tryz.ntmps25
    go_wp2_with fail
    exact bodyPost_ret (v := .tuple #[.agg #[.int .i64 l, .slice A m.length cap], .int .i64 3]) (by simp only [results, Tryz.results25]; go_simp) rfl ⟨A, cap, rfl, KS.out _ (by repeat (first | with_reducible exact Below.refl _ _ | with_reducible assumption | ((with_reducible refine Below.setCell ?_ ?_ _); rotate_left; · (first | omega | exact Nat.le_refl _ | (simp <;> omega))) | (with_reducible refine Below.allocW ?_ _) | (with_reducible refine Below.drew ?_) | (with_reducible refine Below.extW ?_ _))), (by repeat (first | with_reducible exact Below.refl _ _ | with_reducible assumption | ((with_reducible refine Below.setCell ?_ ?_ _); rotate_left; · (first | omega | exact Nat.le_refl _ | (simp <;> omega))) | (with_reducible refine Below.allocW ?_ _) | (with_reducible refine Below.drew ?_) | (with_reducible refine Below.extW ?_ _)))⟩
  · have h1' : decide (x < 0) = false := by simpa using h1
    by_cases h2 : p ≤ x
    · have e1 : addB l m x c = (m, 3) := by unfold addB; rw [if_pos (by rw [hv]; simp; omega)]
      rw [e1]
      clear e1 hv hp
      go_enter Tryz.func25, Tryz.ntmps25
      go_upto_region 1 with fail
      generalize (w.alloc (.cells #[.int .i64 l, .slice A m.length cap] 76)).alloc (.cells #[.int .i64 0, .slice none 0 0] 76) = W0 at X0 X1 BW0 Z0 ⊢
      have c0 := blk_cell X0.out
      have z0 := lt_of_block X0.out
      go_wp2_with fail
      refine (HP.out _).mono ?_
      rintro e w1 ⟨rfl, hb1⟩
      have Y0 := blk_below X0.out hb1
      have Y1 := blk_below X1.out hb1
      have B1 := Lib.hid (BW0.out.trans (hb1.mono BW0.out.size))
      have hz1 : w.heap.size + 1 + 1 ≤ w1.heap.size := by have := hb1.size; have := Z0.out; omega
      clear c0 z0 X0 X1 hb1
      have c1 : w1.cell? ⟨w.heap.size, 0, none⟩ = some (.int .i64 l) := by rw [blk_cell Y0]; rfl
      have c2 : w1.cell? ⟨w.heap.size, 1, none⟩ = some (.slice A m.length cap) := by rw [blk_cell Y0]; rfl
      have z1 := lt_of_block Y0
      have d1 := blk_cell Y1
      have f1 := blk_frozen Y1
      have z2 := lt_of_block Y1
      go_wp2_with fail
      exact bodyPost_ret (v := .tuple #[.agg #[.int .i64 l, .slice A m.length cap], .int .i64 3]) (by simp only [results, Tryz.results25]; go_simp) rfl ⟨A, cap, rfl, KS.out _ (Below.setCell (p := ⟨w.heap.size + 1, 1, none⟩) (Below.setCell (p := ⟨w.heap.size + 1, 0, none⟩) B1.out (by simp) _) (by simp) _), (Below.setCell (p := ⟨w.heap.size + 1, 1, none⟩) (Below.setCell (p := ⟨w.heap.size + 1, 0, none⟩) B1.out (by simp) _) (by simp) _)⟩
    · have h2' : decide (p ≤ x) = false := by simpa using h2
      have hv1 : isVal l x = true := by rw [hv]; simp; omega
      have HV1 := Lib.hid (show ¬ (isVal l x = false) by simp [hv1])
      clear hv hp hv1
      rcases cd with h3 | h3
      · have e1 : addB l m x c = (m, 4) := by unfold addB; rw [if_neg HV1.out, if_pos h3]
        rw [e1]
        clear e1
        go_enter Tryz.func25, Tryz.ntmps25
        go_upto_region 1 with fail
        generalize (w.alloc (.cells #[.int .i64 l, .slice A m.length cap] 76)).alloc (.cells #[.int .i64 0, .slice none 0 0] 76) = W0 at X0 X1 BW0 Z0 ⊢
        have c0 := blk_cell X0.out
        have z0 := lt_of_block X0.out
        go_wp2_with fail
        refine (HP.out _).mono ?_
        rintro e w1 ⟨rfl, hb1⟩
        have Y0 := blk_below X0.out hb1
        have Y1 := blk_below X1.out hb1
        have B1 := Lib.hid (BW0.out.trans (hb1.mono BW0.out.size))
        have hz1 : w.heap.size + 1 + 1 ≤ w1.heap.size := by have := hb1.size; have := Z0.out; omega
        clear c0 z0 X0 X1 hb1
        have c1 : w1.cell? ⟨w.heap.size, 0, none⟩ = some (.int .i64 l) := by rw [blk_cell Y0]; rfl
        have c2 : w1.cell? ⟨w.heap.size, 1, none⟩ = some (.slice A m.length cap) := by rw [blk_cell Y0]; rfl
        have z1 := lt_of_block Y0
        have d1 := blk_cell Y1
        have f1 := blk_frozen Y1
        have z2 := lt_of_block Y1
        go_wp2_with fail
        exact bodyPost_ret (v := .tuple #[.agg #[.int .i64 l, .slice A m.length cap], .int .i64 4]) (by simp only [results, Tryz.results25]; go_simp) rfl ⟨A, cap, rfl, KS.out _ (Below.setCell (p := ⟨w.heap.size + 1, 1, none⟩) (Below.setCell (p := ⟨w.heap.size + 1, 0, none⟩) B1.out (by simp) _) (by simp) _), (Below.setCell (p := ⟨w.heap.size + 1, 1, none⟩) (Below.setCell (p := ⟨w.heap.size + 1, 0, none⟩) B1.out (by simp) _) (by simp) _)⟩
      · have h3' : ¬ c < 1 := by simpa using h3
        by_cases h4 : 72057594037927935 < sumR m + c
        · have e1 : addB l m x c = (m, 5) := by unfold addB; rw [if_neg HV1.out, if_neg h3', if_pos h4]
          rw [e1]
          clear e1
          obtain ⟨n, hn⟩ : ∃ n, n = sumR m := ⟨_, rfl⟩
          rw [← hn] at HT hsum hsum0 h4
          have h4' : 72057594037927935 - n < c := by omega
          clear hn h4
          go_enter Tryz.func25, Tryz.ntmps25
          go_upto_region 1 with fail
          generalize (w.alloc (.cells #[.int .i64 l, .slice A m.length cap] 76)).alloc (.cells #[.int .i64 0, .slice none 0 0] 76) = W0 at X0 X1 BW0 Z0 ⊢
          have c0 := blk_cell X0.out
          have z0 := lt_of_block X0.out
          go_wp2_with fail
          refine (HP.out _).mono ?_
          rintro e w1 ⟨rfl, hb1⟩
          have Y0 := blk_below X0.out hb1
          have Y1 := blk_below X1.out hb1
          have B1 := Lib.hid (BW0.out.trans (hb1.mono BW0.out.size))
          have hz1 : w.heap.size + 1 + 1 ≤ w1.heap.size := by have := hb1.size; have := Z0.out; omega
          clear c0 z0 X0 X1 hb1
          have c1 : w1.cell? ⟨w.heap.size, 0, none⟩ = some (.int .i64 l) := by rw [blk_cell Y0]; rfl
          have c2 : w1.cell? ⟨w.heap.size, 1, none⟩ = some (.slice A m.length cap) := by rw [blk_cell Y0]; rfl
          have z1 := lt_of_block Y0
          have d1 := blk_cell Y1
          have f1 := blk_frozen Y1
          have z2 := lt_of_block Y1
          go_wp2_with fail
          refine (HT.out _ (KS.out _ B1.out).sl).mono ?_
          rintro e w2 ⟨rfl, hb2⟩
          have Y0' := blk_below Y0 hb2
          have Y1' := blk_below Y1 hb2
          have B2 := Lib.hid (B1.out.trans (hb2.mono B1.out.size))
          have hz2 : w.heap.size + 1 + 1 ≤ w2.heap.size := by have := hb2.size; omega
          clear c1 c2 z1 d1 f1 z2 Y0 Y1
          have c1 : w2.cell? ⟨w.heap.size, 0, none⟩ = some (.int .i64 l) := by rw [blk_cell Y0']; rfl
          have c2 : w2.cell? ⟨w.heap.size, 1, none⟩ = some (.slice A m.length cap) := by rw [blk_cell Y0']; rfl
          have z1 := lt_of_block Y0'
          have d1 := blk_cell Y1'
          have f1 := blk_frozen Y1'
          have z2 := lt_of_block Y1'
          go_wp2_with fail
          exact bodyPost_ret (v := .tuple #[.agg #[.int .i64 l, .slice A m.length cap], .int .i64 5]) (by simp only [results, Tryz.results25]; go_simp) rfl ⟨A, cap, rfl, KS.out _ (Below.setCell (p := ⟨w.heap.size + 1, 1, none⟩) (Below.setCell (p := ⟨w.heap.size + 1, 0, none⟩) B2.out (by simp) _) (by simp) _), (Below.setCell (p := ⟨w.heap.size + 1, 1, none⟩) (Below.setCell (p := ⟨w.heap.size + 1, 0, none⟩) B2.out (by simp) _) (by simp) _)⟩
        · have e1 : addB l m x c = (addR m x c, 0) := by unfold addB; rw [if_neg HV1.out, if_neg h3', if_neg h4]
          rw [e1]
          clear e1
          have HPut := Lib.hid (fun W h => ref10_put W l A cap m x c h HU.out HVAL.out (by omega) (by omega) hlen)
          unfold bagV at HPut
          obtain ⟨n, hn⟩ : ∃ n, n = sumR m := ⟨_, rfl⟩
          rw [← hn] at HT hsum hsum0 h4
          have h4' : decide (72057594037927935 - n < c) = false := by simp; omega
          clear hn h4
          go_enter Tryz.func25, Tryz.ntmps25
          go_upto_region 1 with fail
          generalize (w.alloc (.cells #[.int .i64 l, .slice A m.length cap] 76)).alloc (.cells #[.int .i64 0, .slice none 0 0] 76) = W0 at X0 X1 BW0 Z0 ⊢
          have c0 := blk_cell X0.out
          have z0 := lt_of_block X0.out
          go_wp2_with fail
          refine (HP.out _).mono ?_
          rintro e w1 ⟨rfl, hb1⟩
          have Y0 := blk_below X0.out hb1
          have Y1 := blk_below X1.out hb1
          have B1 := Lib.hid (BW0.out.trans (hb1.mono BW0.out.size))
          have hz1 : w.heap.size + 1 + 1 ≤ w1.heap.size := by have := hb1.size; have := Z0.out; omega
          clear c0 z0 X0 X1 hb1
          have c1 : w1.cell? ⟨w.heap.size, 0, none⟩ = some (.int .i64 l) := by rw [blk_cell Y0]; rfl
          have c2 : w1.cell? ⟨w.heap.size, 1, none⟩ = some (.slice A m.length cap) := by rw [blk_cell Y0]; rfl
          have z1 := lt_of_block Y0
          have d1 := blk_cell Y1
          have f1 := blk_frozen Y1
          have z2 := lt_of_block Y1
          go_wp2_with fail
          refine (HT.out _ (KS.out _ B1.out).sl).mono ?_
          rintro e w2 ⟨rfl, hb2⟩
          have Y0' := blk_below Y0 hb2
          have Y1' := blk_below Y1 hb2
          have B2 := Lib.hid (B1.out.trans (hb2.mono B1.out.size))
          have hz2 : w.heap.size + 1 + 1 ≤ w2.heap.size := by have := hb2.size; omega
          clear c1 c2 z1 d1 f1 z2 Y0 Y1
          have c1 : w2.cell? ⟨w.heap.size, 0, none⟩ = some (.int .i64 l) := by rw [blk_cell Y0']; rfl
          have c2 : w2.cell? ⟨w.heap.size, 1, none⟩ = some (.slice A m.length cap) := by rw [blk_cell Y0']; rfl
          have z1 := lt_of_block Y0'
          have d1 := blk_cell Y1'
          have f1 := blk_frozen Y1'
          have z2 := lt_of_block Y1'
          go_wp2_with fail
          refine (HPut.out _ (KS.out _ B2.out).sl).mono ?_
          rintro e w3 ⟨A3, cap3, rfl, hS3, hb3⟩
          have B3 := Lib.hid (B2.out.trans (hb3.mono B2.out.size))
          have Y3 := blk_below Y1' hb3
          have hz3 : w.heap.size + 1 + 1 ≤ w3.heap.size := by have := hb3.size; omega
          have d3 := blk_cell Y3
          have f3 := blk_frozen Y3
          have z3 := lt_of_block Y3
          have S3 := Lib.hid hS3
          clear c1 c2 z1 d1 f1 z2 Y0' Y1' hS3 hb3
          go_wp2_with fail
          have T3 : TypeAt w3 (w.heap.size + 1) 76 := TypeAt.of Y3
          exact bodyPost_ret (v := .tuple #[.agg #[.int .i64 l, .slice A3 (addR m x c).length cap3], .int .i64 0]) (by simp only [results, Tryz.results25]; go_simp) rfl ⟨A3, cap3, rfl, (S3.out.setCellT (p := ⟨w.heap.size + 1, 0, none⟩) (u := .int .i64 l) T3 (by decide)).setCellT (p := ⟨w.heap.size + 1, 1, none⟩) T3.setCell (by decide), Below.setCell (p := ⟨w.heap.size + 1, 1, none⟩) (Below.setCell (p := ⟨w.heap.size + 1, 0, none⟩) B3.out (by simp) _) (by simp) _⟩
end Go.Proofs.YtgjaopfjffncbaaGreat
/- Chapter 10: bags that are made of readings. -/
namespace Go.Proofs.YtgjaopfjffncbaaGreat
open Go.ChangeShapes Go.WideShapes Go.ChangeAt Go.RowKit
set_option linter.unusedVariables false
set_option linter.unusedSimpArgs false
set_option maxRecDepth 100000

def madeB (l : Nat) (r : List Nd) : List Nd := r.foldl (fun m z => (addB l m z.1 z.2).1) []
theorem madeB_snoc {l : Nat} {r : List Nd} {q : Nat} (h : q < r.length) : madeB l (r.take (q + 1)) = (addB l (madeB l (r.take q)) r[q].1 r[q].2).1 := by
  unfold madeB
  rw [List.take_succ_eq_append_getElem h, List.foldl_append]; rfl
theorem foldB_bag {l : Nat} (r m : List Nd) (h : BagL l m) : BagL l (r.foldl (fun m z => (addB l m z.1 z.2).1) m) := by
  induction r generalizing m with
  | nil => exact h
  | cons z r ih => exact ih _ (h.addB _ _)
theorem madeB_bag (l : Nat) (r : List Nd) : BagL l (madeB l r) := foldB_bag r [] (.nil l)
theorem foldB_len {l : Nat} (r m : List Nd) : (r.foldl (fun m z => (addB l m z.1 z.2).1) m).length ≤ m.length + r.length := by
  induction r generalizing m with
  | nil => simp
  | cons z r ih =>
    have := ih (addB l m z.1 z.2).1
    have := addB_len l m z.1 z.2
    simp only [List.foldl_cons, List.length_cons]; omega
theorem madeB_len (l : Nat) (r : List Nd) : (madeB l r).length ≤ r.length := by have := foldB_len (l := l) r []; simpa [madeB] using this
end Go.Proofs.YtgjaopfjffncbaaGreat
/- How many nodes there are: once nothing can be folded, and ever. Plain laws. -/
namespace Go.Proofs.YtgjaopfjffncbaaGreat
open Go.ChangeShapes Go.WideShapes Go.ChangeAt Go.RowKit
set_option linter.unusedVariables false

def sumP (P : List Int) (g : Int → Int) : Int := (P.map g).sum
theorem sumP_add (P : List Int) (g h : Int → Int) : sumP P (fun p => g p + h p) = sumP P g + sumP P h := by
  unfold sumP
  induction P with
  | nil => rfl
  | cons p P ih => simp only [List.map_cons, List.sum_cons, ih]; omega
theorem sumP_zero (P : List Int) (a c : Int) (h : a ∉ P) : sumP P (fun p => if a = p then c else 0) = 0 := by
  unfold sumP
  induction P with
  | nil => rfl
  | cons p P ih =>
    simp only [List.map_cons, List.sum_cons]
    rw [ih fun hm => h (List.mem_cons_of_mem _ hm), if_neg (by rintro rfl; exact h (by simp))]
    rfl
theorem sumP_one (P : List Int) (hP : P.Nodup) (a c : Int) (h : a ∈ P) : sumP P (fun p => if a = p then c else 0) = c := by
  induction P with
  | nil => simp at h
  | cons p P ih =>
    obtain ⟨h1, h2⟩ := List.nodup_cons.1 hP
    have e : sumP (p :: P) (fun p => if a = p then c else 0) = (if a = p then c else 0) + sumP P (fun p => if a = p then c else 0) := by simp [sumP]
    rw [e]
    by_cases hap : a = p
    · subst hap
      rw [if_pos rfl, sumP_zero P a c h1]; omega
    · rw [if_neg hap, ih h2 (by simpa [hap] using h)]; omega
theorem sumP_le {P : List Int} {g h : Int → Int} (hg : ∀ p ∈ P, g p ≤ h p) : sumP P g ≤ sumP P h := by
  unfold sumP
  induction P with
  | nil => simp
  | cons p P ih =>
    simp only [List.map_cons, List.sum_cons]
    have := hg p (by simp)
    have := ih fun q hq => hg q (by simp [hq])
    omega
theorem sumP_const (P : List Int) (c : Int) : sumP P (fun _ => c) = P.length * c := by
  unfold sumP
  induction P with
  | nil => simp
  | cons p P ih => simp only [List.map_cons, List.sum_cons, ih, List.length_cons]; push_cast; rw [Int.add_mul]; omega
theorem pairR_cons {x : Nd} {r : List Nd} (h : Roll (x :: r)) (p : Int) : pairR (x :: r) p = (if x.1 / 2 = p then x.2 else 0) + pairR r p := by
  have hn : getR r x.1 = 0 := getR_none fun y hy => by have := h.head y hy; omega
  unfold pairR
  simp only [getR]
  by_cases h1 : x.1 = 2 * p
  · rw [if_pos h1, if_neg (by omega), if_pos (by omega)]
    rw [h1] at hn
    omega
  · rw [if_neg h1]
    by_cases h2 : x.1 = 2 * p + 1
    · rw [if_pos h2, if_pos (by omega)]
      rw [h2] at hn
      omega
    · rw [if_neg h2, if_neg (by omega)]; omega
theorem getR_cons {x : Nd} {r : List Nd} (h : Roll (x :: r)) (p : Int) : getR (x :: r) p = (if x.1 = p then x.2 else 0) + getR r p := by
  have hn : getR r x.1 = 0 := getR_none fun y hy => by have := h.head y hy; omega
  simp only [getR]
  by_cases h1 : x.1 = p
  · rw [if_pos h1, if_pos h1]; rw [h1] at hn; omega
  · rw [if_neg h1, if_neg h1]; omega
theorem sum_pairs_le {P : List Int} (hP : P.Nodup) : ∀ {r : List Nd}, Roll r → sumP P (pairR r) ≤ sumR r := by
  intro r
  induction r with
  | nil => intro _; have : pairR [] = fun _ => 0 := by funext p; rfl
           rw [this, sumP_const]; simp [sumR]
  | cons x r ih =>
    intro h
    have e : pairR (x :: r) = fun p => (if x.1 / 2 = p then x.2 else 0) + pairR r p := by funext p; exact pairR_cons h p
    rw [e, sumP_add]
    have h1 := ih h.tail
    have h2 := (h.2 x (by simp)).2
    simp only [sumR]
    by_cases hm : x.1 / 2 ∈ P
    · rw [sumP_one P hP _ _ hm]; omega
    · rw [sumP_zero P _ _ hm]; omega
theorem sum_own_le {P : List Int} (hP : P.Nodup) : ∀ {r : List Nd}, Roll r → sumP P (getR r) ≤ sumR r := by
  intro r
  induction r with
  | nil => intro _; have : getR [] = fun _ => 0 := by funext p; rfl
           rw [this, sumP_const]; simp [sumR]
  | cons x r ih =>
    intro h
    have e : getR (x :: r) = fun p => (if x.1 = p then x.2 else 0) + getR r p := by funext p; exact getR_cons h p
    rw [e, sumP_add]
    have h1 := ih h.tail
    have h2 := (h.2 x (by simp)).2
    simp only [sumR]
    by_cases hm : x.1 ∈ P
    · rw [sumP_one P hP _ _ hm]; omega
    · rw [sumP_zero P _ _ hm]; omega
theorem sum_pairs_ge {P : List Int} (hP : P.Nodup) : ∀ {r : List Nd}, Roll r → (∀ x ∈ r, x.1 ≠ 1 → x.1 / 2 ∈ P) → sumR r ≤ sumP P (pairR r) + getR r 1 := by
  intro r
  induction r with
  | nil => intro _ _; have : pairR [] = fun _ => 0 := by funext p; rfl
           rw [this, sumP_const]; simp [sumR, getR]
  | cons x r ih =>
    intro h hc
    have e : pairR (x :: r) = fun p => (if x.1 / 2 = p then x.2 else 0) + pairR r p := by funext p; exact pairR_cons h p
    rw [e, sumP_add, getR_cons h]
    have h1 := ih h.tail fun y hy => hc y (by simp [hy])
    have h2 := (h.2 x (by simp)).2
    simp only [sumR]
    by_cases h1' : x.1 = 1
    · rw [if_pos h1']
      have : 0 ≤ sumP P (fun p => if x.1 / 2 = p then x.2 else 0) := by
        by_cases hm : x.1 / 2 ∈ P
        · rw [sumP_one P hP _ _ hm]; omega
        · rw [sumP_zero P _ _ hm]; omega
      omega
    · rw [if_neg h1', sumP_one P hP _ _ (hc x (by simp) h1')]; omega
/-- Each node once. -/
def onesR (r : List Nd) : List Nd := r.map fun x => (x.1, 1)
theorem ones_roll {r : List Nd} (h : Roll r) : Roll (onesR r) := by
  refine ⟨?_, fun x hx => ?_⟩
  · unfold onesR; rw [List.pairwise_map]; exact h.1
  · obtain ⟨y, hy, rfl⟩ := List.mem_map.1 hx
    have := h.2 y hy
    exact ⟨this.1, Int.le_refl _⟩
theorem ones_sum (r : List Nd) : sumR (onesR r) = r.length := by
  induction r with
  | nil => rfl
  | cons x r ih => simp only [onesR, List.map_cons, sumR, List.length_cons] at ih ⊢; rw [ih]; push_cast; omega
theorem ones_get (r : List Nd) (id : Int) : getR (onesR r) id ≤ 1 := by
  induction r with
  | nil => simp [onesR, getR]
  | cons x r ih =>
    simp only [onesR, List.map_cons, getR] at ih ⊢
    split
    · omega
    · exact ih
/-- Once nothing can be folded there are at most four times k nodes, less one. -/
theorem tight_len {l : Nat} {r : List Nd} (hf : Fits l r) (hl : 1 ≤ l ∧ l ≤ 48) {k : Int} (hk : 1 ≤ k) (ht : ∀ p, readyR l r p (sumR r / k) = false) : (r.length : Int) ≤ 4 * k - 1 := by
  have hP := (putAll_wait (halves r)).once
  have hPm := putAll_mem (halves r)
  generalize putAll (halves r) = P at hP hPm
  have hcov : ∀ x ∈ r, x.1 ≠ 1 → x.1 / 2 ∈ P := fun x hx h1 => by
    have := (hf.roll.2 x hx).1
    exact (hPm _).2 ⟨by omega, List.mem_map.2 ⟨x, hx, rfl⟩⟩
  have hbig : ∀ p ∈ P, sumR r / k + 1 ≤ pairR r p + getR r p := fun p hp => by
    obtain ⟨h1, h2⟩ := (hPm p).1 hp
    obtain ⟨x, hx, rfl⟩ := List.mem_map.1 h2
    have h3 := hf.lt x hx
    have h4 := (hf.roll.2 x hx).2
    have h5 := getR_mem hf.roll hx
    have h6 := hf.nodes hl x hx
    have hpos : 0 < pairR r (x.1 / 2) := by
      have g1 := getR_nonneg hf.roll (2 * (x.1 / 2))
      have g2 := getR_nonneg hf.roll (2 * (x.1 / 2) + 1)
      unfold pairR
      rcases (by omega : x.1 = 2 * (x.1 / 2) ∨ x.1 = 2 * (x.1 / 2) + 1) with e | e
      · have e' := congrArg (getR r) e
        omega
      · have e' := congrArg (getR r) e
        omega
    have hk1 : (kidsOf l (x.1 / 2)).2.2 = true := by
      rw [kids_iff]
      refine ⟨?_, by omega⟩
      have hp := pow_pos' l
      simp only [isNode, decide_eq_true_eq, Int.toNat_natCast] at h6 ⊢
      omega
    have hnot := ht (x.1 / 2)
    rw [← Bool.not_eq_true, ready_iff] at hnot
    apply Classical.byContradiction
    intro hc
    exact hnot ⟨hk1, hpos, by omega⟩
  have a1 := sum_pairs_le hP hf.roll
  have a2 := sum_own_le hP hf.roll
  have a3 := sumP_le hbig
  rw [sumP_const P (sumR r / k + 1), sumP_add P (pairR r) (getR r)] at a3
  have a4 := sum_pairs_ge hP (ones_roll hf.roll) (fun x hx h1 => by
    obtain ⟨y, hy, rfl⟩ := List.mem_map.1 hx
    exact hcov y hy h1)
  rw [ones_sum] at a4
  have a5 : sumP P (pairR (onesR r)) ≤ sumP P (fun _ => 2) := sumP_le fun p _ => by
    have := ones_get r (2 * p)
    have := ones_get r (2 * p + 1)
    unfold pairR; omega
  rw [sumP_const] at a5
  have a6 := ones_get r 1
  have hN := sumR_nonneg hf.roll
  have hm : sumR r < k * (sumR r / k + 1) := by
    have := Int.lt_ediv_add_one_mul_self (sumR r) (show 0 < k by omega)
    rw [Int.mul_comm]; exact this
  have hm0 : 0 ≤ sumR r / k := Int.ediv_nonneg hN (by omega)
  have hP2 : (P.length : Int) < 2 * k := by
    apply Classical.byContradiction
    intro hc
    have : 2 * k * (sumR r / k + 1) ≤ P.length * (sumR r / k + 1) := Int.mul_le_mul_of_nonneg_right (by omega) (by omega)
    rw [Int.mul_assoc] at this
    omega
  omega
/-- There are never more nodes than there is room for. -/
theorem DoTo.room {l : Nat} {k : Int} {r r' : List Nd} {o : Op3} {n : Int} (h : DoTo l k r o r' n) (hf : Fits l r) (hl : 1 ≤ l ∧ l ≤ 48) (hk : 1 ≤ k) (hr : (r.length : Int) ≤ 8 * k) : (r'.length : Int) ≤ 8 * k := by
  rcases h with ⟨_, ps, h, _⟩ | ⟨_, rfl, _⟩ | ⟨_, _, h, _⟩
  · have := h.folded.len hf; omega
  · simp; omega
  · rcases h with ⟨_, rfl⟩ | ⟨_, s, h, rfl⟩
    · exact hr
    · have hs := h.same hf
      rw [len_add hs.1.roll]
      rcases h with ⟨_, h1, ps, h⟩ | ⟨h1, rfl⟩
      · have ht := tight_len hs.1 hl hk (fun p => by rw [hs.2.1]; exact h.tight p)
        split <;> omega
      · split
        · rename_i h0
          have : ¬ 8 * k ≤ s.length := fun h2 => h1 ⟨h0, h2⟩
          omega
        · omega
/-- A roll of a universe is one. -/
theorem total_ok {n : Int} {r : List Nd} (h1 : ∀ x ∈ r, 1 ≤ x.2) (hn : 0 ≤ n) (hs : n + sumR r ≤ 72057594037927935) : totalFrom n r = (n + sumR r, true) := by
  induction r generalizing n with
  | nil => simp [totalFrom, sumR]
  | cons x r ih =>
    have h2 := h1 x (by simp)
    have h3 := (sumR_pos fun y hy => h1 y (List.mem_cons_of_mem _ hy)).1
    simp only [sumR] at hs ⊢
    have e : addOf n x.2 = (n + x.2, true) := by unfold addOf; rw [if_pos (by omega)]
    simp only [totalFrom, e]
    rw [if_pos ⟨trivial, by unfold most; omega⟩, ih (fun y hy => h1 y (List.mem_cons_of_mem _ hy)) (by omega) (by omega)]
    congr 1; omega
theorem rises_ok {l last : Int} {r : List Nd} (h : ∀ x ∈ r, last < x.1 ∧ isNode l x.1 = true ∧ 1 ≤ x.2) (hp : r.Pairwise fun a b => a.1 < b.1) : risesFrom l last r = true := by
  induction r generalizing last with
  | nil => rfl
  | cons x r ih =>
    obtain ⟨h1, h2, h3⟩ := h x (by simp)
    obtain ⟨p1, p2⟩ := List.pairwise_cons.1 hp
    simp only [risesFrom, Bool.and_eq_true, decide_eq_true_eq]
    exact ⟨⟨⟨h1, h2⟩, h3⟩, ih (fun y hy => ⟨p1 y hy, (h y (List.mem_cons_of_mem _ hy)).2⟩) p2⟩
theorem fits_right {l : Nat} {r : List Nd} (hf : Fits l r) (hl : 1 ≤ l ∧ l ≤ 48) : rightOf l r = true := by
  have hp := pow_pos' l
  unfold rightOf totalOf
  rw [total_ok (fun x hx => (hf.roll.2 x hx).2) (Int.le_refl _) (by have := hf.sum; omega), rises_ok (fun x hx => ⟨by have := (hf.roll.2 x hx).1; omega, hf.nodes hl x hx, (hf.roll.2 x hx).2⟩) hf.roll.1]
  simp only [Bool.true_and, isNode, decide_eq_true_eq, Int.toNat_natCast]
  omega
/-- A bag of a bag's readings is that bag. -/
theorem madeB_self {l : Nat} {m : List Nd} (h : BagL l m) : madeB l m = m := by
  have key : ∀ q, q ≤ m.length → madeB l (m.take q) = m.take q := by
    intro q
    induction q with
    | zero => intro _; rfl
    | succ q ih =>
      intro hq
      have hlt : q < m.length := by omega
      rw [madeB_snoc hlt, ih (by omega)]
      have hv := h.val _ (List.getElem_mem hlt)
      have hs := sumR_take_succ hlt
      have hle : sumR (m.take (q + 1)) ≤ sumR m := (sumV_take_le (fun x hx => (h.val x hx).2.2) (q + 1)).2
      have hsum := h.sum
      unfold Go.Proofs.YtgjaopfjffncbaaGreat.addB
      rw [if_neg (by simp [isVal]; omega), if_neg (by omega), if_neg (by omega)]
      simp only
      rw [addR_last, List.take_succ_eq_append_getElem hlt]
      intro x hx
      obtain ⟨i, hi, rfl⟩ := List.mem_take_iff_getElem.1 hx
      exact List.pairwise_iff_getElem.1 h.up i q (by omega) hlt (by omega)
  have := key m.length (Nat.le_refl _)
  rwa [List.take_length] at this
end Go.Proofs.YtgjaopfjffncbaaGreat
/- Chapter 13: Do, Made. -/
namespace Go.Proofs.YtgjaopfjffncbaaGreat
open Go.ChangeShapes Go.WideShapes Go.ChangeAt Go.RowKit
set_option linter.unusedVariables false
set_option linter.unusedSimpArgs false
set_option maxRecDepth 100000

theorem DigTo.from {w W w' : World} {g K l : Nat} {k : Int} {s : List Nd} {F : Nat → Prop} (hB : Below w.heap.size w W) (h : DigTo W g K l k s F w') : DigTo w g K l k s F w' := by
  obtain ⟨F', h1, h2, h3⟩ := h
  exact ⟨F', h1, (Turn.of_below hB).trans h2 Grow.refl, fun b hb => (h3 b hb).imp id fun h => Nat.le_trans hB.size h⟩
theorem DigTo.then_ {w w1 w' : World} {g K l : Nat} {k : Int} {s : List Nd} {F : Nat → Prop} (h : DigTo w g K l k s F w1) (hB : Below w1.heap.size w1 w') : DigTo w g K l k s F w' := by
  obtain ⟨F', h1, h2, h3⟩ := h
  exact ⟨F', h1.below hB, h2.more hB, h3⟩
/-- What a call leaves, and tells. -/
def DoPost (g K l : Nat) (k : Int) (r : List Nd) (o : Op3) (F : Nat → Prop) (w : World) (e : Ending) (w' : World) : Prop :=
  ∃ (r' : List Nd) (n : Int), e = .returned (.int .i64 n) ∧ DoTo l k r o r' n ∧ DigTo w g K l k r' F w'
theorem DigAt.typed {w : World} {g K l : Nat} {k : Int} {r : List Nd} {F : Nat → Prop} (h : DigAt w g K l k r F) : ∀ b, F b → ∃ t, (t = 122 ∨ PoolTypes t) ∧ TypeAt w b t := by
  obtain ⟨p, F0, rfl, hh, hP, _, _, _⟩ := h.parts
  rintro b (rfl | hb)
  · exact ⟨_, .inl rfl, .of hh⟩
  · obtain ⟨t, ht, h⟩ := hP.typed b hb
    exact ⟨t, .inr ht, h⟩
/-- A block of another type is none of the digest's. -/
theorem DigAt.not_type {w : World} {g K l : Nat} {k : Int} {r : List Nd} {F : Nat → Prop} (h : DigAt w g K l k r F) {b t : Nat} (hb : TypeAt w b t) (ht : t ≠ 122 ∧ t ≠ 174 ∧ t ≠ 218 ∧ t ≠ 3 ∧ t ≠ 220 ∧ t ≠ 115) : ¬ F b := fun hf => by
  obtain ⟨t', h1, h2⟩ := h.typed b hf
  have := typeAt_eq hb h2
  subst this
  obtain ⟨a1, a2, a3, a4, a5, a6⟩ := ht
  rcases h1 with h1 | h1 | h1 | h1 | h1 | h1
  · exact a1 h1
  · exact a2 h1
  · exact a3 h1
  · exact a4 h1
  · exact a5 h1
  · exact a6 h1
theorem SlT.turn {α : Type} {size : Nat} {w w' : World} {e : TypeId} {E : Enc α size} {A : Option Addr} {l : List α} {F : Nat → Prop} (h : SlT w e E A l) (ht : Turn F w w') (hF : ∀ b, TypeAt w b e → ¬ F b) : SlT w' e E A l := by
  rcases h with h | ⟨b, off, hA, hT, hc⟩
  · exact .inl h
  · have hk := ht.block b hT.lt (hF b hT)
    refine .inr ⟨b, off, hA, ?_, fun i x hi j u hj => (World.cell?_of_block hk).trans (hc i x hi j u hj)⟩
    obtain ⟨cs, fr, hh⟩ := hT
    exact ⟨cs, fr, hk.trans hh⟩
/-- What stands while a digest is made. -/
structure MadeS (w : World) (pb g K l : Nat) (k : Int) (r m : List Nd) (F : Nat → Prop) (A : Option Addr) (cap : Nat) (W : World) : Prop where
  d : DigAt W g K l k r F
  fw : ∀ b, F b → w.heap.size ≤ b
  b : W.heap[pb]? = some (.cells #[.int .i64 l, .slice A m.length cap] 76 (0, 0))
  pw : w.heap.size + 1 < pb
  z : W.heap[w.heap.size + 1]? = some (.cells #[.int .i64 0, .slice none 0 0] 76 (0, 0))
  s : SlT W 111 encN A m
  blw : Below w.heap.size w W
section
variable {w : World} {pb g K l : Nat} {k : Int} {r r' m m' : List Nd} {F F' : Nat → Prop} {A A' : Option Addr} {cap cap' : Nat} {W W' : World}
theorem MadeS.below (h : MadeS w pb g K l k r m F A cap W) (hb : Below W.heap.size W W') : MadeS w pb g K l k r m F A cap W' :=
  ⟨h.d.below hb, h.fw, blk_below h.b hb, h.pw, blk_below h.z hb, h.s.below hb, h.blw.trans (hb.mono h.blw.size)⟩
theorem MadeS.dig (h : MadeS w pb g K l k r m F A cap W) (ht : DigTo W g K l k r' F W') : ∃ F', MadeS w pb g K l k r' m F' A cap W' := by
  obtain ⟨F', h1, h2, h3⟩ := ht
  refine ⟨F', h1, fun b hb => ?_, h2.keep h.b (h.d.not_type (.of h.b) (by decide)), h.pw, h2.keep h.z (h.d.not_type (.of h.z) (by decide)), h.s.turn h2 fun b hb => h.d.not_type hb (by decide), h.blw.trans (h2.below h.fw h.blw.size)⟩
  rcases h3 b hb with hb | hb
  · exact h.fw b hb
  · exact Nat.le_trans h.blw.size hb
theorem set_one {W : World} {pb t : Nat} {a c u : Value} (h : W.heap[pb]? = some (.cells #[a, c] t (0, 0))) : (W.setCell ⟨pb, 1, none⟩ u).heap[pb]? = some (.cells #[a, u] t (0, 0)) := by
  simp [World.setCell, Array.getElem?_modify, h]
theorem set_nil {W : World} {pb t : Nat} {a c u : Value} (h : W.heap[pb]? = some (.cells #[a, c] t (0, 0))) : (W.setCell ⟨pb, 0, none⟩ u).heap[pb]? = some (.cells #[u, c] t (0, 0)) := by
  simp [World.setCell, Array.getElem?_modify, h]
theorem MadeS.set1 (h : MadeS w pb g K l k r m F A cap W) (hs : SlT W 111 encN A' m') : MadeS w pb g K l k r m' F A' cap' (W.setCell ⟨pb, 1, none⟩ (.slice A' m'.length cap')) := by
  have hne : ∀ b, b ≠ pb → (W.setCell ⟨pb, 1, none⟩ (.slice A' m'.length cap')).heap[b]? = W.heap[b]? := fun b hb => Below.heap_setCell _ _ _ _ hb
  have hF : ¬ F pb := h.d.not_type (.of h.b) (by decide)
  refine ⟨h.d.keep fun b hb => hne b (by rintro rfl; exact hF hb), h.fw, set_one h.b, h.pw, (hne _ (by have := h.pw; omega)).trans h.z, hs.setCellT (p := ⟨pb, 1, none⟩) (.of h.b) (by decide), h.blw.setCell (by have := h.pw; simp only; omega) _⟩
theorem MadeS.set0 (h : MadeS w pb g K l k r m F A cap W) : MadeS w pb g K l k r m F A cap (W.setCell ⟨pb, 0, none⟩ (.int .i64 l)) := by
  have hne : ∀ b, b ≠ pb → (W.setCell ⟨pb, 0, none⟩ (.int .i64 l)).heap[b]? = W.heap[b]? := fun b hb => Below.heap_setCell _ _ _ _ hb
  have hF : ¬ F pb := h.d.not_type (.of h.b) (by decide)
  refine ⟨h.d.keep fun b hb => hne b (by rintro rfl; exact hF hb), h.fw, set_nil h.b, h.pw, (hne _ (by have := h.pw; omega)).trans h.z, h.s.setCellT (p := ⟨pb, 0, none⟩) (.of h.b) (by decide), h.blw.setCell (by have := h.pw; simp only; omega) _⟩
end
theorem isDig_nat {l k K : Int} (h : isDig l k K = true) : ∃ n m : Nat, l = n ∧ K = m := by
  simp only [isDig, isPool, Bool.and_eq_true, decide_eq_true_eq] at h
  exact ⟨l.toNat, K.toNat, by omega, by omega⟩
/-- A digest of calls, and the bag. -/
def CallsPost (K l : Nat) (k : Int) (n : Nat) (w : World) (e : Ending) (w' : World) : Prop :=
  ∃ (g : Nat) (F : Nat → Prop) (r m : List Nd) (A : Option Addr) (cap : Nat), e = .returned (.tuple #[.pointer (some ⟨g, 0, none⟩), bagV l A m.length cap]) ∧ DigAt w' g K l k r F ∧ (∀ b, F b → w.heap.size ≤ b) ∧ SlT w' 111 encN A m ∧ Held l k r m ∧ r.length ≤ n ∧ m.length ≤ n ∧ (r.length : Int) ≤ 8 * k ∧ Below w.heap.size w w'
end Go.Proofs.YtgjaopfjffncbaaGreat
/- Package sensor: Send. -/
namespace Go.Proofs.YtgjaopfjffncbaaGreat
open Go.ChangeShapes Go.WideShapes Go.ChangeAt Go.RowKit
set_option linter.unusedVariables false
set_option linter.unusedSimpArgs false
set_option maxRecDepth 100000

/-- What is always so of a sensor's numbers. -/
structure SenOk (s : Sen) : Prop where
  p : rightS s.p = true
  e0 : 0 ≤ s.ep
  e1 : s.ep ≤ 1099511627776
  t0 : 0 ≤ s.ti
  t1 : s.ti ≤ s.p.wait
  c : rightC s.cover = true
  me : hasC s.cover s.p.me = true
  h : rightC s.heard = true
theorem SenOk.wait {s : Sen} (h : SenOk s) : s.p.wait ≤ 1048576 ∧ 1 ≤ s.p.wait ∧ isCrew s.p.me = true ∧ rightC s.p.kids = true ∧ hasC s.p.kids s.p.me = false := by
  have := h.p
  simp only [rightS, Bool.and_eq_true, decide_eq_true_eq, Bool.not_eq_true'] at this
  exact ⟨this.2, this.1.2, this.1.1.1.1, this.1.1.1.2, this.1.1.2⟩
theorem SenOk.kids {s : Sen} (h : SenOk s) : s.p.kids < 2 ^ 64 := by
  have := h.wait.2.2.2.1
  simp only [rightC, decide_eq_true_eq] at this
  omega
theorem SenOk.tick {s : Sen} (h : SenOk s) : SenOk (tickedS s) := by
  unfold tickedS
  split
  · rename_i h1
    have := h.t0
    exact ⟨h.p, h.e0, h.e1, by show 0 ≤ s.ti + 1; omega, by show s.ti + 1 ≤ s.p.wait; omega, h.c, h.me, h.h⟩
  · exact h
theorem SenOk.toSent {s : Sen} (h : SenOk s) : SenOk (sentS s) := ⟨h.p, h.e0, h.e1, h.t0, h.t1, h.c, h.me, h.h⟩
theorem withC_me {i : Int} (h : isCrew i = true) : rightC (withC 0 i) = true ∧ hasC (withC 0 i) i = true := by
  obtain ⟨n, rfl, hn⟩ := isCrew_nat h
  have hp := pow_crew hn
  have h0 : hasN 0 n = false := by unfold hasN; simp
  have e : withC 0 (n : Int) = 2 ^ n := by
    unfold withC
    rw [if_pos h, Int.toNat_natCast, if_neg (by simp [h0])]; simp
  rw [e]
  refine ⟨by unfold rightC; simp only [decide_eq_true_eq]; omega, ?_⟩
  unfold hasC hasN
  rw [h, Int.toNat_natCast, Nat.div_self hp.2]
  rfl
theorem SenOk.new {l k K : Int} {p : Plc} {ep : Int} (h : newS l k K p ep = true) : SenOk (senNew l k K p ep) := by
  simp only [newS, Bool.and_eq_true, decide_eq_true_eq] at h
  have hp := h.1.1.2
  simp only [rightS, Bool.and_eq_true, decide_eq_true_eq, Bool.not_eq_true'] at hp
  have hm := withC_me hp.1.1.1.1
  exact ⟨h.1.1.2, h.1.2, h.2, Int.le_refl _, by show (0 : Int) ≤ p.wait; omega, hm.1, hm.2, rfl⟩
/-- What a sensor's letter is. -/
def senL (l : Nat) (s : Sen) (r : List Nd) : Ltr := ⟨s.ep, s.p.me, s.cover, wireT l s.k r⟩
theorem wireT_len {l : Nat} {k : Int} {r : List Nd} (hl : 1 ≤ l ∧ l ≤ 48) (hf : Fits l r) (hk : 1 ≤ k) (hk2 : k ≤ 1048576) (hn : r.length ≤ 50000) : (wireT l k r).length ≤ 36 + 18 * r.length := by
  have h := WireF.of hl hf hk hk2 (by omega)
  have h1 := h.l1
  have h2 := h.l2
  have h3 := h.l3
  unfold wireT
  rw [sealT_len]
  simp only [List.length_append, List.length_cons, List.length_nil]
  omega
theorem senL_right {l : Nat} {s : Sen} {r : List Nd} (ho : SenOk s) (hl : 1 ≤ l ∧ l ≤ 48) (hf : Fits l r) (hk : 1 ≤ s.k) (hk2 : s.k ≤ 1048576) (hn : r.length ≤ 50000) : rightL (senL l s r) = true := by
  have h1 := wireT_len hl hf hk hk2 hn
  have h2 := ho.e0
  have h3 := ho.me
  have h4 := ho.c
  unfold rightL senL
  simp only [Bool.and_eq_true, decide_eq_true_eq]
  exact ⟨⟨⟨h2, h3⟩, h4⟩, by omega⟩
/-- What Send tells, and leaves. -/
def SendPost (g K l : Nat) (s : Sen) (r : List Nd) (F : Nat → Prop) (w : World) (e : Ending) (w' : World) : Prop :=
  if s.sent = true then e = .returned (.tuple #[.string ⟨#[]⟩, .int .i64 18]) ∧ Below w.heap.size w w'
  else if readyS s = false then e = .returned (.tuple #[.string ⟨#[]⟩, .int .i64 22]) ∧ Below w.heap.size w w'
  else ∃ ps r', RunTo l (sumR r / s.k) r ps r' ∧ e = .returned (.tuple #[.string ⟨(ltrT (senL l s r')).toArray⟩, .int .i64 0]) ∧ SensTo w g K l (sentS s) r' F w'
set_option maxHeartbeats 4000000 in
theorem sensor_Send (w : World) (g K l : Nat) (s : Sen) (r : List Nd) (F : Nat → Prop) (h : SensAt w g K l s r F) (ho : SenOk s) (hn : r.length ≤ 50000) :
    Calls Tryz.prog 39 #[.pointer (some ⟨g, 0, none⟩)] w (SendPost g K l s r F w) := by
  have HOk := Lib.hid ho
  have HS := Lib.hid h
  obtain ⟨dg, F0, hF, h1, h2, h3, h4, h5⟩ := h
  have HR := Lib.hid (sensor_Ready w g dg s h1)
  have HI := Lib.hid h1
  have HGD := Lib.hid h4
  have HF0 := Lib.hid h5
  have HX : Hid (∀ W r', DigTo w dg K l s.k r' F0 W → SensTo w g K l s r' F W) := Lib.hid fun W r' hd => SensAt.dig hF h1 h2 h3 h5 hd
  have HL := Lib.hid h2
  have HK := Lib.hid h3
  have HFe := Lib.hid hF
  have cc := blk_cell h1
  have cf := blk_frozen h1
  have zb := lt_of_block h1
  have hll := h4.l_le
  have hfit := h4.fits
  have hk : 1 ≤ s.k ∧ s.k ≤ 1048576 := by obtain ⟨p, F0, _, _, _, _, h1, h2⟩ := h4.parts; exact ⟨h1, h2⟩
  clear h1 h2 h3 h4 h5 hF ho
  have HP : Hid (∀ (e : Ending) (W : World), (s.sent = true → e = .returned (.tuple #[.string ⟨#[]⟩, .int .i64 18]) ∧ Below w.heap.size w W) → (s.sent = false → readyS s = false → e = .returned (.tuple #[.string ⟨#[]⟩, .int .i64 22]) ∧ Below w.heap.size w W) →
      (s.sent = false → readyS s = true → ∃ ps r', RunTo l (sumR r / s.k) r ps r' ∧ e = .returned (.tuple #[.string ⟨(ltrT (senL l s r')).toArray⟩, .int .i64 0]) ∧ SensTo w g K l (sentS s) r' F W) → SendPost g K l s r F w e W) := Lib.hid fun e W a b c => by
    unfold SendPost
    by_cases q1 : s.sent = true
    · rw [if_pos q1]; exact a q1
    · rw [if_neg q1]
      have q1' : s.sent = false := by simpa using q1
      by_cases q2 : readyS s = false
      · rw [if_pos q2]; exact b q1' q2
      · rw [if_neg q2]; exact c q1' (by simpa using q2)
  have HNS : Hid (readyS s = true → s.sent = false) := Lib.hid fun h => by
    unfold readyS at h
    cases hs : s.sent
    · rfl
    · rw [hs] at h; simp at h
  obtain ⟨b, hb⟩ : ∃ b, b = s.sent := ⟨_, rfl⟩
  rw [← hb] at cc HP
  have hbh := Lib.hid hb
  clear hb
  cases b
  · obtain ⟨y, hy⟩ : ∃ y, y = readyS s := ⟨_, rfl⟩
    rw [← hy] at HR HP
    clear hy
    go_enter Tryz.func39, Tryz.ntmps39
    go_wp2_with fail
    refine HR.out.mono ?_
    rintro e w1 ⟨rfl, hb1⟩
    have B1 := Lib.hid hb1
    clear hb1
    cases y
    · go_wp2_with fail
      exact bodyPost_ret (v := .tuple #[.string ⟨#[]⟩, .int .i64 22]) (by simp only [results, Tryz.results39]; go_simp) rfl (HP.out _ _ (fun h => by simp at h) (fun _ _ => ⟨rfl, B1.out⟩) (fun _ h => by simp at h))
    · have I1 := Lib.hid (HI.out.below B1.out)
      have c1 := blk_cell I1.out
      have f1 := blk_frozen I1.out
      have z1 := lt_of_block I1.out
      clear cc cf zb
      go_wp2_with fail
      refine (digest_Compress w1 dg K l s.k r F0 (HGD.out.below B1.out) (by omega)).mono ?_
      rintro e w2 ⟨ps, r', rfl, hrun, hto⟩
      have hto' := DigTo.from B1.out hto
      have S2 := Lib.hid (HX.out w2 r' hto')
      have HRun := Lib.hid hrun
      have hfit2 := hrun.folded.fits hfit
      have hlen2 := hrun.folded.len hfit
      obtain ⟨F1, hd2, ht2, hg2⟩ := hto'
      have I2 : Hid (SenAt w2 g dg s) := Lib.hid (ht2.keep HI.out HF0.out)
      have D2 := Lib.hid hd2
      have HRt := Lib.hid (senL_right (r := r') HOk.out hll hfit2 hk.1 hk.2 (by omega))
      have hle := HOk.out.e1
      have hle0 := HOk.out.e0
      have hme : i64 s.p.me := by
        obtain ⟨n, hn, h48⟩ := isCrew_nat HOk.out.wait.2.2.1
        rw [hn]; constructor <;> omega
      have HEn := Lib.hid (fun W => letter_Encode W (senL l s r') HRt.out (by show i64 s.ep; constructor <;> omega) hme)
      have HWi := Lib.hid (wire_Encode w2 dg K l s.k r' F1 hd2 (by omega))
      have HPf : Hid (∀ W, Below w2.heap.size w2 W → SendPost g K l s r F w (.returned (.tuple #[.string ⟨(ltrT (senL l s r')).toArray⟩, .int .i64 0])) (W.setCell ⟨g, 10, none⟩ (.bool true))) := Lib.hid fun W hb => by
        refine HP.out _ _ (fun h => by simp at h) (fun _ h => by simp at h) fun _ _ => ⟨ps, r', HRun.out, rfl, ?_⟩
        have hk := S2.out.then_ hb
        obtain ⟨F', k1, k2, k3⟩ := hk
        obtain ⟨dg', F0', e1, e2, e3, e4, e5, e6⟩ := k1
        exact ⟨F', SensAt.set (s' := sentS s) e1 e2.toSent e2 e3 e4 e5 e6, k2.setCell (.inl HS.out.own) _, k3⟩
      have HEn2 : Hid (∀ W, Calls Tryz.prog 90 #[.agg #[.int .i64 s.ep, .int .i64 s.p.me, .int .u64 s.cover, .string ⟨(wireT l s.k r').toArray⟩]] W fun e w' => e = .returned (.tuple #[.string ⟨(ltrT (senL l s r')).toArray⟩, .int .i64 0]) ∧ Below W.heap.size W w') := HEn
      generalize ltrT (senL l s r') = G at HPf HEn2
      generalize wireT l s.k r' = T at HWi HEn2
      have c2 := blk_cell I2.out
      have f2 := blk_frozen I2.out
      have z2 := lt_of_block I2.out
      clear hrun hto ht2 hg2 hd2 c1 f1 z1 I1 HR HX HP S2 HRt HEn hfit2 hlen2
      go_wp2_with fail
      refine HWi.out.mono ?_
      rintro e w3 ⟨rfl, hb3⟩
      have I3 := Lib.hid (I2.out.below hb3)
      have B3 := Lib.hid hb3
      clear hb3 c2 f2 z2
      go_upto_region 9 with fail
      have I3d : Hid (SenAt w3.drew g dg s) := Lib.hid I3.out
      have B3d := Lib.hid B3.out.drew
      refine wp_region_noPanic ?_
      refine wp_region_N (fun w' => SenAt w' g dg s) [] (by kernel_rfl) (I3.out) (fun hHeld => ?_)
      generalize w3.drew = Wd at I3d B3d hHeld ⊢
      refine wpAnyN_pure (i := 0) (v := Value.pointer (some ⟨g, 0, none⟩)) rfl (by kernel_rfl) (by kernel_rfl) (by kernel_rfl) (fun _ _ _ h => h) (Or.inl ⟨by rfl, fun W _ => by go_simp⟩) ?_
      try simp only [List.getElem_toArray, List.getElem_cons_zero, List.getElem_cons_succ, Act.put, List.setIfInBounds_toArray, List.set_cons_zero, List.set_cons_succ]
      refine wpAnyN_pure (i := 1) (v := Value.pointer (some ⟨g, 0, none⟩)) rfl (by kernel_rfl) (by kernel_rfl) (by kernel_rfl) (fun _ _ _ h => h) (Or.inl ⟨by rfl, fun W _ => by go_simp⟩) ?_
      try simp only [List.getElem_toArray, List.getElem_cons_zero, List.getElem_cons_succ, Act.put, List.setIfInBounds_toArray, List.set_cons_zero, List.set_cons_succ]
      refine wpAnyN_pure (i := 4) (v := Value.pointer (some ⟨g, 0, none⟩)) rfl (by kernel_rfl) (by kernel_rfl) (by kernel_rfl) (fun _ _ _ h => h) (Or.inl ⟨by rfl, fun W _ => by go_simp⟩) ?_
      try simp only [List.getElem_toArray, List.getElem_cons_zero, List.getElem_cons_succ, Act.put, List.setIfInBounds_toArray, List.set_cons_zero, List.set_cons_succ]
      refine wpAnyN_pure (i := 5) (v := Value.pointer (some ⟨g, 0, none⟩)) rfl (by kernel_rfl) (by kernel_rfl) (by kernel_rfl) (fun _ _ _ h => h) (Or.inl ⟨by rfl, fun W _ => by go_simp⟩) ?_
      try simp only [List.getElem_toArray, List.getElem_cons_zero, List.getElem_cons_succ, Act.put, List.setIfInBounds_toArray, List.set_cons_zero, List.set_cons_succ]
      refine wpAnyN_pure (i := 9) (v := Value.pointer (some ⟨g, 0, none⟩)) rfl (by kernel_rfl) (by kernel_rfl) (by kernel_rfl) (fun _ _ _ h => h) (Or.inl ⟨by rfl, fun W _ => by go_simp⟩) ?_
      try simp only [List.getElem_toArray, List.getElem_cons_zero, List.getElem_cons_succ, Act.put, List.setIfInBounds_toArray, List.set_cons_zero, List.set_cons_succ]
      refine wpAnyN_pure (i := 10) (v := Value.pointer (some ⟨g, 0, none⟩)) rfl (by kernel_rfl) (by kernel_rfl) (by kernel_rfl) (fun _ _ _ h => h) (Or.inl ⟨by rfl, fun W _ => by go_simp⟩) ?_
      try simp only [List.getElem_toArray, List.getElem_cons_zero, List.getElem_cons_succ, Act.put, List.setIfInBounds_toArray, List.set_cons_zero, List.set_cons_succ]
      refine wpAnyN_pure (i := 2) (v := Value.pointer (some ⟨g, 6, none⟩)) rfl (by kernel_rfl) (by kernel_rfl) (by kernel_rfl) (fun _ _ _ h => h) (Or.inl ⟨by rfl, fun W _ => by go_simp⟩) ?_
      try simp only [List.getElem_toArray, List.getElem_cons_zero, List.getElem_cons_succ, Act.put, List.setIfInBounds_toArray, List.set_cons_zero, List.set_cons_succ]
      refine wpAnyN_pure (i := 6) (v := Value.pointer (some ⟨g, 3, none⟩)) rfl (by kernel_rfl) (by kernel_rfl) (by kernel_rfl) (fun _ _ _ h => h) (Or.inl ⟨by rfl, fun W _ => by go_simp⟩) ?_
      try simp only [List.getElem_toArray, List.getElem_cons_zero, List.getElem_cons_succ, Act.put, List.setIfInBounds_toArray, List.set_cons_zero, List.set_cons_succ]
      refine wpAnyN_pure (i := 7) (v := Value.pointer (some ⟨g, 3, none⟩)) rfl (by kernel_rfl) (by kernel_rfl) (by kernel_rfl) (fun _ _ _ h => h) (Or.inl ⟨by rfl, fun W _ => by go_simp⟩) ?_
      try simp only [List.getElem_toArray, List.getElem_cons_zero, List.getElem_cons_succ, Act.put, List.setIfInBounds_toArray, List.set_cons_zero, List.set_cons_succ]
      refine wpAnyN_pure (i := 11) (v := Value.pointer (some ⟨g, 9, none⟩)) rfl (by kernel_rfl) (by kernel_rfl) (by kernel_rfl) (fun _ _ _ h => h) (Or.inl ⟨by rfl, fun W _ => by go_simp⟩) ?_
      try simp only [List.getElem_toArray, List.getElem_cons_zero, List.getElem_cons_succ, Act.put, List.setIfInBounds_toArray, List.set_cons_zero, List.set_cons_succ]
      refine wpAnyN_take (i := 3) (v := Value.int .i64 s.ep) rfl (by kernel_rfl) (by kernel_rfl) (by kernel_rfl) (by kernel_rfl) (fun _ _ _ h => h) (Or.inl ⟨by rfl, fun W hW => by have q1 := blk_cell hW; have q2 := lt_of_block hW; go_simp⟩) I3d.out ?_
      try simp only [List.getElem_toArray, List.getElem_cons_zero, List.getElem_cons_succ, Act.put, List.setIfInBounds_toArray, List.set_cons_zero, List.set_cons_succ]
      refine wpAnyN_take (i := 8) (v := Value.int .i64 s.p.me) rfl (by kernel_rfl) (by kernel_rfl) (by kernel_rfl) (by kernel_rfl) (fun _ _ _ h => h) (Or.inl ⟨by rfl, fun W hW => by have q1 := blk_cell hW; have q2 := lt_of_block hW; go_simp⟩) I3d.out ?_
      try simp only [List.getElem_toArray, List.getElem_cons_zero, List.getElem_cons_succ, Act.put, List.setIfInBounds_toArray, List.set_cons_zero, List.set_cons_succ]
      refine wpAnyN_take (i := 12) (v := Value.int .u64 s.cover) rfl (by kernel_rfl) (by kernel_rfl) (by kernel_rfl) (by kernel_rfl) (fun _ _ _ h => h) (Or.inl ⟨by rfl, fun W hW => by have q1 := blk_cell hW; have q2 := lt_of_block hW; go_simp⟩) I3d.out ?_
      try simp only [List.getElem_toArray, List.getElem_cons_zero, List.getElem_cons_succ, Act.put, List.setIfInBounds_toArray, List.set_cons_zero, List.set_cons_succ]
      refine wpAnyN_pure (i := 13) (v := Value.string ⟨T.toArray⟩) rfl (by kernel_rfl) (by kernel_rfl) (by kernel_rfl) (fun _ _ _ h => h) (Or.inl ⟨by rfl, fun W _ => by go_simp⟩) ?_
      try simp only [List.getElem_toArray, List.getElem_cons_zero, List.getElem_cons_succ, Act.put, List.setIfInBounds_toArray, List.set_cons_zero, List.set_cons_succ]
      refine wpAnyN_pure (i := 14) (v := Value.agg #[.int .i64 s.ep, .int .i64 s.p.me, .int .u64 s.cover, .string ⟨T.toArray⟩]) rfl (by kernel_rfl) (by kernel_rfl) (by kernel_rfl) (fun _ _ _ h => h) (Or.inl ⟨by rfl, fun W _ => by go_simp⟩) ?_
      try simp only [List.getElem_toArray, List.getElem_cons_zero, List.getElem_cons_succ, Act.put, List.setIfInBounds_toArray, List.set_cons_zero, List.set_cons_succ]
      refine wpAnyN_one (i := 15) (by kernel_rfl) rfl (fun K hK => ?_)
      go_simp
      refine (HEn2.out _).mono ?_
      rintro e w4 ⟨rfl, hb4⟩
      have I4 := Lib.hid (I3d.out.below hb4)
      have B4 := Lib.hid (Below.then_ B3d.out hb4)
      clear hb4
      refine hK.out _ _ (fun _ _ => I4.out) ?_
      clear hK K
      try simp only [List.getElem_toArray, List.getElem_cons_zero, List.getElem_cons_succ, Act.put, List.setIfInBounds_toArray, List.set_cons_zero, List.set_cons_succ]
      refine wpAnyN_pure (i := 16) (v := Value.tuple #[.string ⟨G.toArray⟩, .int .i64 0]) rfl (by kernel_rfl) (by kernel_rfl) (by kernel_rfl) (fun _ _ _ h => h) (Or.inl ⟨by rfl, fun W _ => by go_simp⟩) ?_
      try simp only [List.getElem_toArray, List.getElem_cons_zero, List.getElem_cons_succ, Act.put, List.setIfInBounds_toArray, List.set_cons_zero, List.set_cons_succ]
      refine wpAnyN_pure (i := 17) (v := Value.string ⟨G.toArray⟩) rfl (by kernel_rfl) (by kernel_rfl) (by kernel_rfl) (fun _ _ _ h => h) (Or.inl ⟨by rfl, fun W _ => by go_simp⟩) ?_
      try simp only [List.getElem_toArray, List.getElem_cons_zero, List.getElem_cons_succ, Act.put, List.setIfInBounds_toArray, List.set_cons_zero, List.set_cons_succ]
      refine wpAnyN_pure (i := 18) (v := Value.int .i64 0) rfl (by kernel_rfl) (by kernel_rfl) (by kernel_rfl) (fun _ _ _ h => h) (Or.inl ⟨by rfl, fun W _ => by go_simp⟩) ?_
      try simp only [List.getElem_toArray, List.getElem_cons_zero, List.getElem_cons_succ, Act.put, List.setIfInBounds_toArray, List.set_cons_zero, List.set_cons_succ]
      refine wpAnyN_pure (i := 19) (v := Value.string ⟨G.toArray⟩) rfl (by kernel_rfl) (by kernel_rfl) (by kernel_rfl) (fun _ _ _ h => h) (Or.inl ⟨by rfl, fun W _ => by go_simp⟩) ?_
      try simp only [List.getElem_toArray, List.getElem_cons_zero, List.getElem_cons_succ, Act.put, List.setIfInBounds_toArray, List.set_cons_zero, List.set_cons_succ]
      refine wpAnyN_one (i := 20) (by kernel_rfl) rfl (fun K hK => ?_)
      go_simp
      refine hK.out _ _ (fun _ _ => I4.out) ?_
      clear hK K
      try simp only [List.getElem_toArray, List.getElem_cons_zero, List.getElem_cons_succ, Act.put, List.setIfInBounds_toArray, List.set_cons_zero, List.set_cons_succ]
      refine wpAnyN_done (by kernel_rfl) ?_ _
      refine NoPanic.normal ?_
      have c4 := blk_cell I4.out
      have f4 := blk_frozen I4.out
      have z4 := lt_of_block I4.out
      clear I3 B3 I2
      go_wp2_with fail
      exact bodyPost_ret (v := .tuple #[.string ⟨G.toArray⟩, .int .i64 0]) (by simp only [results, Tryz.results39]; go_simp) rfl (HPf.out _ B4.out)
  · go_enter Tryz.func39, Tryz.ntmps39
    go_wp2_with fail
    exact bodyPost_ret (v := .tuple #[.string ⟨#[]⟩, .int .i64 18]) (by simp only [results, Tryz.results39]; go_simp) rfl (HP.out _ _ (fun _ => ⟨rfl, (by repeat (first | with_reducible exact Below.refl _ _ | with_reducible assumption | ((with_reducible refine Below.setCell ?_ ?_ _); rotate_left; · (first | omega | exact Nat.le_refl _ | (simp <;> omega))) | (with_reducible refine Below.allocW ?_ _) | (with_reducible refine Below.drew ?_) | (with_reducible refine Below.extW ?_ _)))⟩) (fun h => by simp at h) (fun h => by simp at h))
end Go.Proofs.YtgjaopfjffncbaaGreat
/- Chapter 31: a sensor of the call's own; the chapter's example. -/
namespace Go.Proofs.YtgjaopfjffncbaaGreat
open Go.ChangeShapes Go.WideShapes Go.ChangeAt Go.RowKit
set_option linter.unusedVariables false
set_option linter.unusedSimpArgs false
set_option maxRecDepth 100000

/-- A sensor that the call itself made. -/
def SensIn (w : World) (g K l : Nat) (s : Sen) (r : List Nd) (W : World) : Prop := ∃ F, SensAt W g K l s r F ∧ (∀ b, F b → w.heap.size ≤ b) ∧ Below w.heap.size w W
section
variable {w W W' : World} {g K l : Nat} {s s' : Sen} {r r' : List Nd}
theorem SensIn.below (h : SensIn w g K l s r W) (hb : Below W.heap.size W W') : SensIn w g K l s r W' := by
  obtain ⟨F, h1, h2, h3⟩ := h
  exact ⟨F, h1.below hb, h2, h3.trans (hb.mono h3.size)⟩
theorem SensIn.to {F : Nat → Prop} (h2 : ∀ b, F b → w.heap.size ≤ b) (h3 : Below w.heap.size w W) (h : SensTo W g K l s r F W') : SensIn w g K l s r W' := by
  obtain ⟨F', k1, k2, k3⟩ := h
  exact ⟨F', k1, fun b hb => (k3 b hb).elim (h2 b) fun h => Nat.le_trans h3.size h, h3.trans (k2.below h2 h3.size)⟩
theorem SensIn.le (h : SensIn w g K l s r W) : Below w.heap.size w W := by
  obtain ⟨F, _, _, h3⟩ := h
  exact h3
theorem SensIn.fits (h : SensIn w g K l s r W) : Fits l r := by
  obtain ⟨F, ⟨dg, F0, _, _, _, _, h, _⟩, _⟩ := h
  exact h.fits
theorem SensIn.l_le (h : SensIn w g K l s r W) : 1 ≤ l ∧ l ≤ 48 := by
  obtain ⟨F, ⟨dg, F0, _, _, _, _, h, _⟩, _⟩ := h
  exact h.l_le
theorem SensIn.at_ (h : SensIn w g K l s r W) : ∃ dg, SenAt W g dg s := by
  obtain ⟨F, ⟨dg, F0, _, h, _⟩, _⟩ := h
  exact ⟨dg, h⟩
theorem SensIn.put (h : SensIn w g K l s r W) (hn : r.length ≤ 67108864) (x c : Int) : Calls Tryz.prog 15 #[.pointer (some ⟨g, 0, none⟩), .int .i64 x, .int .i64 c] W fun e W' => ∃ r', e = .returned (.int .i64 (putErr l s r x c)) ∧ PutTo l s r x c r' ∧ SensIn w g K l s r' W' := by
  obtain ⟨F, h1, h2, h3⟩ := h
  refine (sensor_Put W g K l s r F h1 hn x c).mono ?_
  rintro e W' ⟨r', he, hp, ht⟩
  exact ⟨r', he, hp, SensIn.to h2 h3 ht⟩
theorem SensIn.tick (h : SensIn w g K l s r W) (ht : s.ti ≤ 9223372036854775806) (ht0 : 0 ≤ s.ti) : Calls Tryz.prog 40 #[.pointer (some ⟨g, 0, none⟩)] W fun e W' => e = .returned (.tuple #[]) ∧ SensIn w g K l (tickedS s) r W' := by
  obtain ⟨F, h1, h2, h3⟩ := h
  refine (sensor_Tick W g K l s r F h1 ht ht0).mono ?_
  rintro e W' ⟨he, ht⟩
  exact ⟨he, SensIn.to h2 h3 ht⟩
def SendIn (w : World) (g K l : Nat) (s : Sen) (r : List Nd) (e : Ending) (W' : World) : Prop :=
  if s.sent = true then e = .returned (.tuple #[.string ⟨#[]⟩, .int .i64 18]) ∧ SensIn w g K l s r W'
  else if readyS s = false then e = .returned (.tuple #[.string ⟨#[]⟩, .int .i64 22]) ∧ SensIn w g K l s r W'
  else ∃ ps r', RunTo l (sumR r / s.k) r ps r' ∧ e = .returned (.tuple #[.string ⟨(ltrT (senL l s r')).toArray⟩, .int .i64 0]) ∧ SensIn w g K l (sentS s) r' W'
theorem SensIn.send (h : SensIn w g K l s r W) (ho : SenOk s) (hn : r.length ≤ 50000) : Calls Tryz.prog 39 #[.pointer (some ⟨g, 0, none⟩)] W (SendIn w g K l s r) := by
  have h0 := h
  obtain ⟨F, h1, h2, h3⟩ := h
  refine (sensor_Send W g K l s r F h1 ho hn).mono ?_
  intro e W' hp
  unfold SendPost at hp
  unfold SendIn
  split
  · rename_i q; rw [if_pos q] at hp; exact ⟨hp.1, h0.below hp.2⟩
  · rename_i q
    rw [if_neg q] at hp
    split
    · rename_i q2; rw [if_pos q2] at hp; exact ⟨hp.1, h0.below hp.2⟩
    · rename_i q2
      rw [if_neg q2] at hp
      obtain ⟨ps, r', k1, k2, k3⟩ := hp
      exact ⟨ps, r', k1, k2, SensIn.to h2 h3 k3⟩
theorem SensIn.ready (h : SensIn w g K l s r W) : Calls Tryz.prog 38 #[.pointer (some ⟨g, 0, none⟩)] W fun e W' => e = .returned (.bool (readyS s)) ∧ Below W.heap.size W W' := by
  obtain ⟨dg, h1⟩ := h.at_
  exact sensor_Ready W g dg s h1
theorem SensIn.sent (h : SensIn w g K l s r W) : Calls Tryz.prog 41 #[.pointer (some ⟨g, 0, none⟩)] W fun e W' => e = .returned (.bool s.sent) ∧ Below W.heap.size W W' := by
  obtain ⟨dg, h1⟩ := h.at_
  exact sensor_Sent W g dg s h1
end
def NewIn (w : World) (K l : Nat) (s : Sen) (e : Ending) (W' : World) : Prop := ∃ g, e = .returned (.tuple #[.pointer (some ⟨g, 0, none⟩), .int .i64 0]) ∧ SensIn w g K l s [] W'
theorem SensIn.new (w : World) (l K : Nat) (k : Int) (p : Plc) (ep : Int) (hk : p.kids < 2 ^ 64) (h : newS l k K p ep = true) : Calls Tryz.prog 9 #[confV l k K, plcV p, .int .i64 ep] w (NewIn w K l (senNew l k K p ep)) := by
  refine (sensor_New w l K k p ep hk h).mono ?_
  rintro e W' ⟨g, F, he, h1, h2, h3⟩
  exact ⟨g, he, F, h1, h2, h3⟩
theorem InsTo.len {l : Nat} {k : Int} {r r' : List Nd} {x c : Int} (h : InsTo l k r x c r') (hf : Fits l r) : r'.length ≤ r.length + 1 := by
  rcases h with ⟨_, rfl⟩ | ⟨_, s, h, rfl⟩
  · omega
  · have := (h.same hf).2.2
    have := addR_len s (2 ^ l + x) c
    omega
theorem PutTo.len {l : Nat} {s : Sen} {r r' : List Nd} {x c : Int} (h : PutTo l s r x c r') (hf : Fits l r) : r'.length ≤ r.length + 1 := by
  rcases h with ⟨_, rfl⟩ | ⟨_, h⟩
  · omega
  · exact h.len hf
/-- The example's sensor behind some ticks. -/
def exS (n : Nat) : Sen := ⟨3, 2, 2, ⟨0, 2, 5⟩, 0, n, 0, 1, false⟩
theorem exS_ok {n : Nat} (h : n ≤ 5) : SenOk (exS n) := ⟨by show rightS ⟨0, 2, 5⟩ = true; decide, Int.le_refl 0, by show (0 : Int) ≤ 1099511627776; decide, by show (0 : Int) ≤ n; omega, by show (n : Int) ≤ 5; omega, by show rightC 1 = true; decide, by show hasC 1 0 = true; decide, by show rightC 0 = true; decide⟩
theorem exS_new : senNew 3 2 2 ⟨0, 2, 5⟩ 0 = exS 0 := by
  unfold senNew exS
  have : withC 0 (0 : Int) = 1 := by decide
  simp only [this]
  rfl
theorem exS_tick {n : Nat} (h : n < 5) : tickedS (exS n) = exS (n + 1) := by
  unfold tickedS
  rw [if_pos (by show (n : Int) < 5; omega)]
  rfl
set_option maxHeartbeats 2000000 in
theorem alive31 (w : World) : Calls Tryz.prog 8 #[] w fun e w' => e = .returned (.bool true) ∧ Below w.heap.size w w' := by
  have HN := Lib.hid (SensIn.new w 3 2 2 ⟨0, 2, 5⟩ 0 (by decide) (by decide))
  rw [show ((3 : Nat) : Int) = 3 from rfl, show ((2 : Nat) : Int) = 2 from rfl, exS_new] at HN
  unfold confV plcV at HN
  dsimp only at HN
  have r0 : readyS (exS 0) = false := by decide
  have p0 : putErr 3 (exS 0) [] 5 1 = 0 := by decide
  have s0 : (exS 0).sent = false := rfl
  go_enter Tryz.func8, Tryz.ntmps8
  go_wp2_with fail
  refine HN.out.mono ?_
  rintro e w1 ⟨g, rfl, h1⟩
  have S1 := Lib.hid h1
  clear h1
  go_wp2_with fail
  refine S1.out.ready.mono ?_
  rintro e w2 ⟨rfl, hb2⟩
  rw [r0]
  have S2 := Lib.hid (S1.out.below hb2)
  clear hb2 r0
  go_wp2_with fail
  refine (S2.out.put (by simp) 5 1).mono ?_
  rintro e w3 ⟨r', rfl, hp, h3⟩
  rw [p0]
  have hl3 := hp.len S2.out.fits
  have S3 := Lib.hid h3
  clear hp h3 p0
  simp only [List.length_nil] at hl3
  go_wp2_with fail
  refine (S3.out.send (exS_ok (by omega)) (by omega)).mono ?_
  intro e w4 h4
  have h4 : e = .returned (.tuple #[.string ⟨#[]⟩, .int .i64 22]) ∧ SensIn w g 2 3 (exS 0) r' w4 := by
    unfold SendIn at h4
    rw [if_neg (by decide), if_pos (by decide)] at h4
    exact h4
  obtain ⟨rfl, k4⟩ := h4
  have S4 := Lib.hid k4
  clear k4
  go_wp2_with fail
  go_loopw [33] (fun j wr => ∃ q : Nat, j = .int .i64 q ∧ q ≤ 5 ∧ SensIn w g 2 3 (exS q) r' wr) (fun j _ => 5 - (intOf j).toNat)
  case atStart => exact ⟨0, rfl, by omega, S4.out⟩
  case round =>
    obtain ⟨q, rfl, hq, hS⟩ := hrel
    have SR := Lib.hid hS
    clear hS
    by_cases hlt : q < 5
    · have hqi : (q : Int) < 5 := by omega
      have ht := exS_tick hlt
      go_wp2_with fail
      refine (SR.out.tick (by show (q : Int) ≤ _; omega) (by show (0 : Int) ≤ q; omega)).mono ?_
      rintro e w5 ⟨rfl, h5⟩
      rw [ht] at h5
      have S5 := Lib.hid h5
      clear h5 ht
      go_wp2_with fail
      go_roundw
      case rel => exact ⟨q + 1, by go_num, by omega, S5.out⟩
      case measure => simp [intOf]; omega
    · obtain rfl : q = 5 := by omega
      clear hlt hq
      go_wp2_with fail
      refine (SR.out.send (exS_ok (by omega)) (by omega)).mono ?_
      intro e w5 h5
      have h5 : ∃ r'' G, e = .returned (.tuple #[.string G, .int .i64 0]) ∧ SensIn w g 2 3 (sentS (exS 5)) r'' w5 ∧ r''.length ≤ r'.length := by
        unfold SendIn at h5
        rw [if_neg (by decide), if_neg (by decide)] at h5
        obtain ⟨ps, r'', k1, k2, k3⟩ := h5
        exact ⟨r'', _, k2, k3, k1.folded.len SR.out.fits⟩
      obtain ⟨r'', G, rfl, h5, hl5⟩ := h5
      have S5 := Lib.hid h5
      clear h5
      go_wp2_with fail
      refine S5.out.sent.mono ?_
      rintro e w6 ⟨rfl, hb6⟩
      have S6 := Lib.hid (S5.out.below hb6)
      have e6 : (sentS (exS 5)).sent = true := rfl
      rw [e6]
      clear hb6 e6
      go_wp2_with fail
      refine (S6.out.put (by omega) 5 1).mono ?_
      rintro e w7 ⟨r7, rfl, _, h7⟩
      have e7 : putErr 3 (sentS (exS 5)) r'' 5 1 = 18 := by unfold putErr; rw [if_pos (show (sentS (exS 5)).sent = true from rfl)]
      rw [e7]
      have B7 := Lib.hid h7.le
      clear h7 e7
      go_wp2_with fail
      exact bodyPost_ret (v := .bool true) (by simp only [results, Tryz.results8]; go_simp) rfl ⟨rfl, B7.out⟩
end Go.Proofs.YtgjaopfjffncbaaGreat
/- Reference 31: Is, New, Ready; reference 6: Same of the same. -/
namespace Go.Proofs.YtgjaopfjffncbaaGreat
open Go.ChangeShapes Go.WideShapes Go.ChangeAt Go.RowKit
set_option linter.unusedVariables false
set_option linter.unusedSimpArgs false
set_option maxRecDepth 100000

set_option maxHeartbeats 1000000 in
theorem ref06_Same (w : World) (A B : Option Addr) (c1 c2 : Nat) (L : List Nd) (h1 : Sl w w.heap.size encN A L) (h2 : Sl w w.heap.size encN B L) (hn : L.length ≤ maxLen) :
    Calls Tryz.prog 16 #[.slice A L.length c1, .slice B L.length c2] w fun e w' => e = .returned (.bool true) ∧ Below w.heap.size w w' := by
  have HA := Lib.hid h1
  have HB := Lib.hid h2
  unfold maxLen at hn
  clear h1 h2
  go_enter Tryz.func16, Tryz.ntmps16
  go_wp2_with fail
  go_loopw [5] (fun j wr => ∃ q : Nat, j = .int .i64 q ∧ q ≤ L.length ∧ Below w.heap.size w wr) (fun j _ => L.length - (intOf j).toNat)
  case atStart => exact ⟨0, rfl, Nat.zero_le _, Below.refl _ _⟩
  case round =>
    obtain ⟨q, rfl, hq, hB⟩ := hrel
    have BR := Lib.hid hB
    have sz := hB.size
    clear hB
    by_cases hlt : q < L.length
    · have hqi : (q : Int) < (L.length : Int) := by omega
      obtain ⟨b, off, rfl, hb, hc⟩ := HA.out.at_ hlt
      obtain ⟨b', off', rfl, hb', hc'⟩ := HB.out.at_ hlt
      have d0 := (BR.out.cell (p := ⟨b, off + q * 2, none⟩) hb).trans (by have := hc 0 (.int .i64 L[q].1) rfl; simpa using this)
      have d1 := (BR.out.cell (p := ⟨b, off + q * 2 + 1, none⟩) hb).trans (hc 1 (.int .i64 L[q].2) rfl)
      have e0 := (BR.out.cell (p := ⟨b', off' + q * 2, none⟩) hb').trans (by have := hc' 0 (.int .i64 L[q].1) rfl; simpa using this)
      have e1 := (BR.out.cell (p := ⟨b', off' + q * 2 + 1, none⟩) hb').trans (hc' 1 (.int .i64 L[q].2) rfl)
      have lb : b < wr.heap.size := Nat.lt_of_lt_of_le hb sz
      have lb' : b' < wr.heap.size := Nat.lt_of_lt_of_le hb' sz
      generalize L[q] = y at d0 d1 e0 e1
      clear hc hc'
      go_upto_region 6 with fail
      refine wp_region_ext (by kernel_rfl) (by kernel_rfl) ?_
      repeat (go_big_quiet_step (fail))
      have BRo := BR.out
      refine wpQuiet_nil ?_
      intro w1 hb1
      replace hb1 := below_of_ext hb1
      have B1 : Below w.heap.size w w1 := Below.then_ (by repeat (first | with_reducible exact Below.refl _ _ | with_reducible assumption | ((with_reducible refine Below.setCell ?_ ?_ _); rotate_left; · (first | omega | exact Nat.le_refl _ | (simp <;> omega))) | (with_reducible refine Below.allocW ?_ _) | (with_reducible refine Below.drew ?_) | (with_reducible refine Below.extW ?_ _))) hb1
      have s1 : w.heap.size ≤ w1.heap.size := B1.size
      have B2 := Lib.hid (Below.then_ BR.out hb1)
      go_wp2_with fail
      go_roundw
      case rel => exact ⟨q + 1, by go_num, by omega, B2.out⟩
      case measure => simp [intOf]; omega
    · have hqe : decide ((q : Int) < (L.length : Int)) = false := by simp; omega
      go_wp2_with fail
      exact bodyPost_ret (v := .bool true) (by simp only [results, Tryz.results16]; go_simp) rfl ⟨rfl, BR.out⟩
/-- A sensor of the document's. -/
theorem store14 {W : World} {b t : Nat} {z0 z1 z2 z3 z4 z5 z6 z7 z8 z9 z10 z11 z12 z13 : Value} (h : W.heap[b]? = some (.cells #[z0, z1, z2, z3, z4, z5, z6, z7, z8, z9, z10, z11, z12, z13] t (0, 0))) (v0 v1 v2 v3 v4 v5 v6 v7 v8 v9 v10 v11 v12 v13 : Value) : ((((((((((((((W.setCell ⟨b, 0, none⟩ (v0)).setCell ⟨b, 1, none⟩ (v1)).setCell ⟨b, 2, none⟩ (v2)).setCell ⟨b, 3, none⟩ (v3)).setCell ⟨b, 4, none⟩ (v4)).setCell ⟨b, 5, none⟩ (v5)).setCell ⟨b, 6, none⟩ (v6)).setCell ⟨b, 7, none⟩ (v7)).setCell ⟨b, 8, none⟩ (v8)).setCell ⟨b, 9, none⟩ (v9)).setCell ⟨b, 10, none⟩ (v10)).setCell ⟨b, 11, none⟩ (v11)).setCell ⟨b, 12, none⟩ (v12)).setCell ⟨b, 13, none⟩ (v13)).heap[b]? = some (.cells #[v0, v1, v2, v3, v4, v5, v6, v7, v8, v9, v10, v11, v12, v13] t (0, 0)) := by
  have h0 : (W.setCell ⟨b, 0, none⟩ v0).heap[b]? = some (.cells #[v0, z1, z2, z3, z4, z5, z6, z7, z8, z9, z10, z11, z12, z13] t (0, 0)) := heap_set_at (i := 0) h v0
  have h1 : ((W.setCell ⟨b, 0, none⟩ v0).setCell ⟨b, 1, none⟩ v1).heap[b]? = some (.cells #[v0, v1, z2, z3, z4, z5, z6, z7, z8, z9, z10, z11, z12, z13] t (0, 0)) := heap_set_at (i := 1) h0 v1
  have h2 : (((W.setCell ⟨b, 0, none⟩ v0).setCell ⟨b, 1, none⟩ v1).setCell ⟨b, 2, none⟩ v2).heap[b]? = some (.cells #[v0, v1, v2, z3, z4, z5, z6, z7, z8, z9, z10, z11, z12, z13] t (0, 0)) := heap_set_at (i := 2) h1 v2
  have h3 : ((((W.setCell ⟨b, 0, none⟩ v0).setCell ⟨b, 1, none⟩ v1).setCell ⟨b, 2, none⟩ v2).setCell ⟨b, 3, none⟩ v3).heap[b]? = some (.cells #[v0, v1, v2, v3, z4, z5, z6, z7, z8, z9, z10, z11, z12, z13] t (0, 0)) := heap_set_at (i := 3) h2 v3
  have h4 : (((((W.setCell ⟨b, 0, none⟩ v0).setCell ⟨b, 1, none⟩ v1).setCell ⟨b, 2, none⟩ v2).setCell ⟨b, 3, none⟩ v3).setCell ⟨b, 4, none⟩ v4).heap[b]? = some (.cells #[v0, v1, v2, v3, v4, z5, z6, z7, z8, z9, z10, z11, z12, z13] t (0, 0)) := heap_set_at (i := 4) h3 v4
  have h5 : ((((((W.setCell ⟨b, 0, none⟩ v0).setCell ⟨b, 1, none⟩ v1).setCell ⟨b, 2, none⟩ v2).setCell ⟨b, 3, none⟩ v3).setCell ⟨b, 4, none⟩ v4).setCell ⟨b, 5, none⟩ v5).heap[b]? = some (.cells #[v0, v1, v2, v3, v4, v5, z6, z7, z8, z9, z10, z11, z12, z13] t (0, 0)) := heap_set_at (i := 5) h4 v5
  have h6 : (((((((W.setCell ⟨b, 0, none⟩ v0).setCell ⟨b, 1, none⟩ v1).setCell ⟨b, 2, none⟩ v2).setCell ⟨b, 3, none⟩ v3).setCell ⟨b, 4, none⟩ v4).setCell ⟨b, 5, none⟩ v5).setCell ⟨b, 6, none⟩ v6).heap[b]? = some (.cells #[v0, v1, v2, v3, v4, v5, v6, z7, z8, z9, z10, z11, z12, z13] t (0, 0)) := heap_set_at (i := 6) h5 v6
  have h7 : ((((((((W.setCell ⟨b, 0, none⟩ v0).setCell ⟨b, 1, none⟩ v1).setCell ⟨b, 2, none⟩ v2).setCell ⟨b, 3, none⟩ v3).setCell ⟨b, 4, none⟩ v4).setCell ⟨b, 5, none⟩ v5).setCell ⟨b, 6, none⟩ v6).setCell ⟨b, 7, none⟩ v7).heap[b]? = some (.cells #[v0, v1, v2, v3, v4, v5, v6, v7, z8, z9, z10, z11, z12, z13] t (0, 0)) := heap_set_at (i := 7) h6 v7
  have h8 : (((((((((W.setCell ⟨b, 0, none⟩ v0).setCell ⟨b, 1, none⟩ v1).setCell ⟨b, 2, none⟩ v2).setCell ⟨b, 3, none⟩ v3).setCell ⟨b, 4, none⟩ v4).setCell ⟨b, 5, none⟩ v5).setCell ⟨b, 6, none⟩ v6).setCell ⟨b, 7, none⟩ v7).setCell ⟨b, 8, none⟩ v8).heap[b]? = some (.cells #[v0, v1, v2, v3, v4, v5, v6, v7, v8, z9, z10, z11, z12, z13] t (0, 0)) := heap_set_at (i := 8) h7 v8
  have h9 : ((((((((((W.setCell ⟨b, 0, none⟩ v0).setCell ⟨b, 1, none⟩ v1).setCell ⟨b, 2, none⟩ v2).setCell ⟨b, 3, none⟩ v3).setCell ⟨b, 4, none⟩ v4).setCell ⟨b, 5, none⟩ v5).setCell ⟨b, 6, none⟩ v6).setCell ⟨b, 7, none⟩ v7).setCell ⟨b, 8, none⟩ v8).setCell ⟨b, 9, none⟩ v9).heap[b]? = some (.cells #[v0, v1, v2, v3, v4, v5, v6, v7, v8, v9, z10, z11, z12, z13] t (0, 0)) := heap_set_at (i := 9) h8 v9
  have h10 : (((((((((((W.setCell ⟨b, 0, none⟩ v0).setCell ⟨b, 1, none⟩ v1).setCell ⟨b, 2, none⟩ v2).setCell ⟨b, 3, none⟩ v3).setCell ⟨b, 4, none⟩ v4).setCell ⟨b, 5, none⟩ v5).setCell ⟨b, 6, none⟩ v6).setCell ⟨b, 7, none⟩ v7).setCell ⟨b, 8, none⟩ v8).setCell ⟨b, 9, none⟩ v9).setCell ⟨b, 10, none⟩ v10).heap[b]? = some (.cells #[v0, v1, v2, v3, v4, v5, v6, v7, v8, v9, v10, z11, z12, z13] t (0, 0)) := heap_set_at (i := 10) h9 v10
  have h11 : ((((((((((((W.setCell ⟨b, 0, none⟩ v0).setCell ⟨b, 1, none⟩ v1).setCell ⟨b, 2, none⟩ v2).setCell ⟨b, 3, none⟩ v3).setCell ⟨b, 4, none⟩ v4).setCell ⟨b, 5, none⟩ v5).setCell ⟨b, 6, none⟩ v6).setCell ⟨b, 7, none⟩ v7).setCell ⟨b, 8, none⟩ v8).setCell ⟨b, 9, none⟩ v9).setCell ⟨b, 10, none⟩ v10).setCell ⟨b, 11, none⟩ v11).heap[b]? = some (.cells #[v0, v1, v2, v3, v4, v5, v6, v7, v8, v9, v10, v11, z12, z13] t (0, 0)) := heap_set_at (i := 11) h10 v11
  have h12 : (((((((((((((W.setCell ⟨b, 0, none⟩ v0).setCell ⟨b, 1, none⟩ v1).setCell ⟨b, 2, none⟩ v2).setCell ⟨b, 3, none⟩ v3).setCell ⟨b, 4, none⟩ v4).setCell ⟨b, 5, none⟩ v5).setCell ⟨b, 6, none⟩ v6).setCell ⟨b, 7, none⟩ v7).setCell ⟨b, 8, none⟩ v8).setCell ⟨b, 9, none⟩ v9).setCell ⟨b, 10, none⟩ v10).setCell ⟨b, 11, none⟩ v11).setCell ⟨b, 12, none⟩ v12).heap[b]? = some (.cells #[v0, v1, v2, v3, v4, v5, v6, v7, v8, v9, v10, v11, v12, z13] t (0, 0)) := heap_set_at (i := 12) h11 v12
  have h13 : ((((((((((((((W.setCell ⟨b, 0, none⟩ v0).setCell ⟨b, 1, none⟩ v1).setCell ⟨b, 2, none⟩ v2).setCell ⟨b, 3, none⟩ v3).setCell ⟨b, 4, none⟩ v4).setCell ⟨b, 5, none⟩ v5).setCell ⟨b, 6, none⟩ v6).setCell ⟨b, 7, none⟩ v7).setCell ⟨b, 8, none⟩ v8).setCell ⟨b, 9, none⟩ v9).setCell ⟨b, 10, none⟩ v10).setCell ⟨b, 11, none⟩ v11).setCell ⟨b, 12, none⟩ v12).setCell ⟨b, 13, none⟩ v13).heap[b]? = some (.cells #[v0, v1, v2, v3, v4, v5, v6, v7, v8, v9, v10, v11, v12, v13] t (0, 0)) := heap_set_at (i := 13) h12 v13
  exact h13
theorem store14_below {w W : World} {b base : Nat} (h : Below base w W) (hb : base ≤ b) (v0 v1 v2 v3 v4 v5 v6 v7 v8 v9 v10 v11 v12 v13 : Value) : Below base w ((((((((((((((W.setCell ⟨b, 0, none⟩ (v0)).setCell ⟨b, 1, none⟩ (v1)).setCell ⟨b, 2, none⟩ (v2)).setCell ⟨b, 3, none⟩ (v3)).setCell ⟨b, 4, none⟩ (v4)).setCell ⟨b, 5, none⟩ (v5)).setCell ⟨b, 6, none⟩ (v6)).setCell ⟨b, 7, none⟩ (v7)).setCell ⟨b, 8, none⟩ (v8)).setCell ⟨b, 9, none⟩ (v9)).setCell ⟨b, 10, none⟩ (v10)).setCell ⟨b, 11, none⟩ (v11)).setCell ⟨b, 12, none⟩ (v12)).setCell ⟨b, 13, none⟩ (v13)) :=
  Below.setCell (p := ⟨b, 13, none⟩) (Below.setCell (p := ⟨b, 12, none⟩) (Below.setCell (p := ⟨b, 11, none⟩) (Below.setCell (p := ⟨b, 10, none⟩) (Below.setCell (p := ⟨b, 9, none⟩) (Below.setCell (p := ⟨b, 8, none⟩) (Below.setCell (p := ⟨b, 7, none⟩) (Below.setCell (p := ⟨b, 6, none⟩) (Below.setCell (p := ⟨b, 5, none⟩) (Below.setCell (p := ⟨b, 4, none⟩) (Below.setCell (p := ⟨b, 3, none⟩) (Below.setCell (p := ⟨b, 2, none⟩) (Below.setCell (p := ⟨b, 1, none⟩) (Below.setCell (p := ⟨b, 0, none⟩) (h) hb v0) hb v1) hb v2) hb v3) hb v4) hb v5) hb v6) hb v7) hb v8) hb v9) hb v10) hb v11) hb v12) hb v13
/-- A sensor of the document's, by its cells. -/
def refC (s : Sen) (A : Option Addr) (n c : Nat) : Array Value := #[.int .i64 s.l, .int .i64 s.k, .int .i64 s.kd, .int .i64 s.p.me, .int .i64 s.p.wait, .int .u64 s.p.kids, .int .i64 s.ep, .int .i64 s.ti, .int .u64 s.heard, .int .u64 s.cover, .bool s.sent, .int .i64 s.k, .int .i64 s.l, .slice A n c]
def refV (s : Sen) (A : Option Addr) (n c : Nat) : Value := .agg (refC s A n c)
set_option maxHeartbeats 2000000 in
theorem ref31_Is (w : World) (l k K : Int) (p : Plc) (ep : Int) (hk : p.kids < 2 ^ 64) :
    Calls Tryz.prog 10 #[confV l k K, .int .i64 p.me, .int .u64 p.kids, .int .i64 p.wait, .int .i64 ep] w fun e w' => e = .returned (.bool (newS l k K p ep)) ∧ Below w.heap.size w w' := by
  obtain ⟨me, kids, wait⟩ := p
  dsimp only at *
  have HD := Lib.hid (fun W => ref13_Is W l k K)
  have HI := Lib.hid (fun W => ref27_Is me W)
  have HR := Lib.hid (fun W => ref27_Right kids W)
  have HH := Lib.hid (fun W => ref27_Has kids me hk W)
  have B0 : Hid (Below w.heap.size w (w.alloc (.cells #[.int .i64 l, .int .i64 k, .int .i64 K] 23))) := Lib.hid (by repeat (first | with_reducible exact Below.refl _ _ | with_reducible assumption | ((with_reducible refine Below.setCell ?_ ?_ _); rotate_left; · (first | omega | exact Nat.le_refl _ | (simp <;> omega))) | (with_reducible refine Below.allocW ?_ _) | (with_reducible refine Below.drew ?_) | (with_reducible refine Below.extW ?_ _)))
  obtain ⟨z, hz⟩ : ∃ z, z = newS l k K ⟨me, kids, wait⟩ ep := ⟨_, rfl⟩
  rw [← hz]
  have HZ := Lib.hid hz
  unfold newS rightS at HZ
  dsimp only at HZ
  unfold confV
  clear hk hz
  generalize isDig l k K = z0 at HD HZ
  generalize isCrew me = z1 at HI HZ
  generalize rightC kids = z2 at HR HZ
  generalize hasC kids me = z3 at HH HZ
  go_enter Tryz.func10, Tryz.ntmps10
  go_wp2_with fail
  refine (HD.out _).mono ?_
  rintro e w1 ⟨rfl, hb1⟩
  have B1 := Lib.hid (B0.out.trans (hb1.mono (by simp)))
  clear hb1
  cases z0
  · go_wp2_with fail
    exact bodyPost_ret (v := .bool false) (by simp only [results, Tryz.results10]; go_simp) rfl ⟨by rw [HZ.out]; rfl, B1.out⟩
  go_wp2_with fail
  refine (HI.out _).mono ?_
  rintro e w2 ⟨rfl, hb2⟩
  have B2 := Lib.hid (Below.then_ B1.out hb2)
  clear hb2
  cases z1
  · go_wp2_with fail
    exact bodyPost_ret (v := .bool false) (by simp only [results, Tryz.results10]; go_simp) rfl ⟨by rw [HZ.out]; rfl, B2.out⟩
  go_wp2_with fail
  refine (HR.out _).mono ?_
  rintro e w3 ⟨rfl, hb3⟩
  have B3 := Lib.hid (Below.then_ B2.out hb3)
  clear hb3
  cases z2
  · go_wp2_with fail
    exact bodyPost_ret (v := .bool false) (by simp only [results, Tryz.results10]; go_simp) rfl ⟨by rw [HZ.out]; rfl, B3.out⟩
  go_wp2_with fail
  refine (HH.out _).mono ?_
  rintro e w4 ⟨rfl, hb4⟩
  have B4 := Lib.hid (Below.then_ B3.out hb4)
  clear hb4
  cases z3
  · by_cases h1 : 1 ≤ wait
    · have d1 : decide (1 ≤ wait) = true := by simpa using h1
      by_cases h2 : wait ≤ 1048576
      · have d2 : decide (wait ≤ 1048576) = true := by simpa using h2
        by_cases h3 : 0 ≤ ep
        · have d3 : decide (0 ≤ ep) = true := by simpa using h3
          rw [d1, d2, d3] at HZ
          go_wp2_with fail
          exact bodyPost_ret (v := .bool (decide (ep ≤ 1099511627776))) (by simp only [results, Tryz.results10]; go_simp) rfl ⟨by rw [HZ.out]; rfl, B4.out⟩
        · have d3 : decide (0 ≤ ep) = false := by simpa using h3
          rw [d1, d2, d3] at HZ
          go_wp2_with fail
          exact bodyPost_ret (v := .bool false) (by simp only [results, Tryz.results10]; go_simp) rfl ⟨by rw [HZ.out]; rfl, B4.out⟩
      · have d2 : decide (wait ≤ 1048576) = false := by simpa using h2
        rw [d1, d2] at HZ
        go_wp2_with fail
        exact bodyPost_ret (v := .bool false) (by simp only [results, Tryz.results10]; go_simp) rfl ⟨by rw [HZ.out]; rfl, B4.out⟩
    · have d1 : decide (1 ≤ wait) = false := by simpa using h1
      rw [d1] at HZ
      go_wp2_with fail
      exact bodyPost_ret (v := .bool false) (by simp only [results, Tryz.results10]; go_simp) rfl ⟨by rw [HZ.out]; rfl, B4.out⟩
  · go_wp2_with fail
    exact bodyPost_ret (v := .bool false) (by simp only [results, Tryz.results10]; go_simp) rfl ⟨by rw [HZ.out]; rfl, B4.out⟩
/-- A sensor of the document's in memory. -/
def RefAt (W : World) (g : Nat) (s : Sen) (A : Option Addr) (n c : Nat) : Prop := W.heap[g]? = some (.cells (refC s A n c) 43 (0, 0))
theorem RefAt.below {w w' : World} {g : Nat} {s : Sen} {A : Option Addr} {n c : Nat} (h : RefAt w g s A n c) (hb : Below w.heap.size w w') : RefAt w' g s A n c := blk_below h hb
theorem RefAt.new (w : World) (s : Sen) (A : Option Addr) (n c : Nat) : RefAt (w.alloc (.cells (refC s A n c) 43)) w.heap.size s A n c := heap_alloc_new w _
theorem ref31_Ready (w : World) (s : Sen) (A : Option Addr) (n c : Nat) (h : SenOk s) : Calls Tryz.prog 51 #[refV s A n c] w fun e w' => e = .returned (.bool (readyS s)) ∧ Below w.heap.size w w' := by
  have h1 := h.t1
  have e1 : decide (s.p.wait ≤ s.ti) = (s.ti == s.p.wait) := by
    rw [Bool.eq_iff_iff, decide_eq_true_iff, beq_iff_eq]; omega
  unfold readyS
  rw [e1]
  clear e1 h1 h
  unfold refV refC
  obtain ⟨l, k, kd, ⟨me, kids, wait⟩, ep, ti, heard, cover, sent⟩ := s
  dsimp only
  cases sent
  · by_cases h1 : heard = kids
    · have h1' : ((heard : Int) == (kids : Int)) = true := beq_iff_eq.2 (by omega)
      have hd : decide (heard = kids) = true := by simpa using h1
      rw [hd]
      clear h1 hd
      go_enter Tryz.func51, Tryz.ntmps51
      go_wp2_with fail
      exact bodyPost_ret (v := .bool true) (by simp only [results, Tryz.results51]; go_simp) rfl ⟨rfl, (by repeat (first | with_reducible exact Below.refl _ _ | with_reducible assumption | ((with_reducible refine Below.setCell ?_ ?_ _); rotate_left; · (first | omega | exact Nat.le_refl _ | (simp <;> omega))) | (with_reducible refine Below.allocW ?_ _) | (with_reducible refine Below.drew ?_) | (with_reducible refine Below.extW ?_ _)))⟩
    · have h1' : ((heard : Int) == (kids : Int)) = false := by simp; omega
      have hd : decide (heard = kids) = false := by simpa using h1
      rw [hd]
      clear h1 hd
      go_enter Tryz.func51, Tryz.ntmps51
      go_wp2_with fail
      exact bodyPost_ret (v := .bool (ti == wait)) (by simp only [results, Tryz.results51]; go_simp) rfl ⟨rfl, (by repeat (first | with_reducible exact Below.refl _ _ | with_reducible assumption | ((with_reducible refine Below.setCell ?_ ?_ _); rotate_left; · (first | omega | exact Nat.le_refl _ | (simp <;> omega))) | (with_reducible refine Below.allocW ?_ _) | (with_reducible refine Below.drew ?_) | (with_reducible refine Below.extW ?_ _)))⟩
  · go_enter Tryz.func51, Tryz.ntmps51
    go_wp2_with fail
    exact bodyPost_ret (v := .bool false) (by simp only [results, Tryz.results51]; go_simp) rfl ⟨rfl, (by repeat (first | with_reducible exact Below.refl _ _ | with_reducible assumption | ((with_reducible refine Below.setCell ?_ ?_ _); rotate_left; · (first | omega | exact Nat.le_refl _ | (simp <;> omega))) | (with_reducible refine Below.allocW ?_ _) | (with_reducible refine Below.drew ?_) | (with_reducible refine Below.extW ?_ _)))⟩
set_option maxHeartbeats 4000000 in
theorem ref31_New (w : World) (l k kd : Int) (p : Plc) (ep : Int) : Calls Tryz.prog 12 #[confV l k kd, .int .i64 p.me, .int .u64 p.kids, .int .i64 p.wait, .int .i64 ep] w fun e w' => e = .returned (refV (senNew l k kd p ep) none 0 0) ∧ Below w.heap.size w w' := by
  obtain ⟨me, kids, wait⟩ := p
  unfold senNew refV refC confV
  dsimp only
  have HW := Lib.hid (fun W => ref27_With 0 me (by decide) W)
  have HN := Lib.hid (fun W => ref13_New W l k kd)
  go_enter Tryz.func12, Tryz.ntmps12
  go_upto_region 1 with fail
  have X0 : Hid (((w.alloc (.cells #[.int .i64 l, .int .i64 k, .int .i64 kd] 23)).alloc (.cells #[.int .i64 0, .int .i64 0, .int .i64 0, .int .i64 0, .int .i64 0, .int .u64 0, .int .i64 0, .int .i64 0, .int .u64 0, .int .u64 0, .bool false, .int .i64 0, .int .i64 0, .slice none 0 0] 43)).heap[w.heap.size]? = some (.cells #[.int .i64 l, .int .i64 k, .int .i64 kd] 23 (0, 0))) := Lib.hid ((heap_new_lt _ _ _ (by simp)).trans (heap_alloc_new w _))
  have Y0 : Hid (((w.alloc (.cells #[.int .i64 l, .int .i64 k, .int .i64 kd] 23)).alloc (.cells #[.int .i64 0, .int .i64 0, .int .i64 0, .int .i64 0, .int .i64 0, .int .u64 0, .int .i64 0, .int .i64 0, .int .u64 0, .int .u64 0, .bool false, .int .i64 0, .int .i64 0, .slice none 0 0] 43)).heap[w.heap.size + 1]? = some (.cells #[.int .i64 0, .int .i64 0, .int .i64 0, .int .i64 0, .int .i64 0, .int .u64 0, .int .i64 0, .int .i64 0, .int .u64 0, .int .u64 0, .bool false, .int .i64 0, .int .i64 0, .slice none 0 0] 43 (0, 0))) := Lib.hid (heap_new_at (w.alloc _) _ _ (by simp))
  have B0 : Hid (Below w.heap.size w ((w.alloc (.cells #[.int .i64 l, .int .i64 k, .int .i64 kd] 23)).alloc (.cells #[.int .i64 0, .int .i64 0, .int .i64 0, .int .i64 0, .int .i64 0, .int .u64 0, .int .i64 0, .int .i64 0, .int .u64 0, .int .u64 0, .bool false, .int .i64 0, .int .i64 0, .slice none 0 0] 43))) := Lib.hid (by repeat (first | with_reducible exact Below.refl _ _ | with_reducible assumption | ((with_reducible refine Below.setCell ?_ ?_ _); rotate_left; · (first | omega | exact Nat.le_refl _ | (simp <;> omega))) | (with_reducible refine Below.allocW ?_ _) | (with_reducible refine Below.drew ?_) | (with_reducible refine Below.extW ?_ _)))
  generalize (w.alloc (.cells #[.int .i64 l, .int .i64 k, .int .i64 kd] 23)).alloc (.cells #[.int .i64 0, .int .i64 0, .int .i64 0, .int .i64 0, .int .i64 0, .int .u64 0, .int .i64 0, .int .i64 0, .int .u64 0, .int .u64 0, .bool false, .int .i64 0, .int .i64 0, .slice none 0 0] 43) = W0 at X0 Y0 B0 ⊢
  replace Y0 : Hid (W0.drew.heap[w.heap.size + 1]? = _) := Y0
  replace B0 := Lib.hid B0.out.drew
  refine wp_region_noPanic ?_
  refine wp_region_N (fun w' => w'.heap[w.heap.size]? = some (.cells #[.int .i64 l, .int .i64 k, .int .i64 kd] 23 (0, 0))) [10] (by kernel_rfl) (X0.out) (fun hHeld => ?_)
  generalize W0.drew = Wd at Y0 B0 hHeld ⊢
  refine wpAnyN_take (i := 0) (v := Value.agg #[.int .i64 l, .int .i64 k, .int .i64 kd]) rfl (by kernel_rfl) (by kernel_rfl) (by kernel_rfl) (by kernel_rfl) (fun _ _ _ h => h) (Or.inl ⟨by rfl, fun W hW => by have q1 := blk_cell hW; have q2 := lt_of_block hW; go_simp⟩) hHeld ?_
  try simp only [List.getElem_toArray, List.getElem_cons_zero, List.getElem_cons_succ, Act.put, List.setIfInBounds_toArray, List.set_cons_zero, List.set_cons_succ]
  refine wpAnyN_pure (i := 1) (v := Value.int .i64 me) rfl (by kernel_rfl) (by kernel_rfl) (by kernel_rfl) (fun _ _ _ h => h) (Or.inl ⟨by rfl, fun W _ => by go_simp⟩) ?_
  try simp only [List.getElem_toArray, List.getElem_cons_zero, List.getElem_cons_succ, Act.put, List.setIfInBounds_toArray, List.set_cons_zero, List.set_cons_succ]
  refine wpAnyN_pure (i := 2) (v := Value.int .i64 wait) rfl (by kernel_rfl) (by kernel_rfl) (by kernel_rfl) (fun _ _ _ h => h) (Or.inl ⟨by rfl, fun W _ => by go_simp⟩) ?_
  try simp only [List.getElem_toArray, List.getElem_cons_zero, List.getElem_cons_succ, Act.put, List.setIfInBounds_toArray, List.set_cons_zero, List.set_cons_succ]
  refine wpAnyN_pure (i := 3) (v := Value.int .u64 kids) rfl (by kernel_rfl) (by kernel_rfl) (by kernel_rfl) (fun _ _ _ h => h) (Or.inl ⟨by rfl, fun W _ => by go_simp⟩) ?_
  try simp only [List.getElem_toArray, List.getElem_cons_zero, List.getElem_cons_succ, Act.put, List.setIfInBounds_toArray, List.set_cons_zero, List.set_cons_succ]
  refine wpAnyN_pure (i := 4) (v := Value.int .i64 ep) rfl (by kernel_rfl) (by kernel_rfl) (by kernel_rfl) (fun _ _ _ h => h) (Or.inl ⟨by rfl, fun W _ => by go_simp⟩) ?_
  try simp only [List.getElem_toArray, List.getElem_cons_zero, List.getElem_cons_succ, Act.put, List.setIfInBounds_toArray, List.set_cons_zero, List.set_cons_succ]
  refine wpAnyN_pure (i := 5) (v := Value.int .i64 me) rfl (by kernel_rfl) (by kernel_rfl) (by kernel_rfl) (fun _ _ _ h => h) (Or.inl ⟨by rfl, fun W _ => by go_simp⟩) ?_
  try simp only [List.getElem_toArray, List.getElem_cons_zero, List.getElem_cons_succ, Act.put, List.setIfInBounds_toArray, List.set_cons_zero, List.set_cons_succ]
  refine wpAnyN_take (i := 7) (v := Value.agg #[.int .i64 l, .int .i64 k, .int .i64 kd]) rfl (by kernel_rfl) (by kernel_rfl) (by kernel_rfl) (by kernel_rfl) (fun _ _ _ h => h) (Or.inl ⟨by rfl, fun W hW => by have q1 := blk_cell hW; have q2 := lt_of_block hW; go_simp⟩) hHeld ?_
  try simp only [List.getElem_toArray, List.getElem_cons_zero, List.getElem_cons_succ, Act.put, List.setIfInBounds_toArray, List.set_cons_zero, List.set_cons_succ]
  refine wpAnyN_one (i := 6) (by kernel_rfl) rfl (fun K hK => ?_)
  go_simp
  refine (HW.out _).mono ?_
  rintro e w1 ⟨rfl, hb1⟩
  have Y1 := Lib.hid (blk_below Y0.out hb1)
  have B1 := Lib.hid (Below.then_ B0.out hb1)
  replace hHeld := blk_below hHeld hb1
  clear hb1
  refine hK.out _ _ (fun _ _ => hHeld) ?_
  clear hK K
  try simp only [List.getElem_toArray, List.getElem_cons_zero, List.getElem_cons_succ, Act.put, List.setIfInBounds_toArray, List.set_cons_zero, List.set_cons_succ]
  refine wpAnyN_one (i := 8) (by kernel_rfl) rfl (fun K hK => ?_)
  go_simp
  refine (HN.out _).mono ?_
  rintro e w2 ⟨rfl, hb2⟩
  have Y2 := Lib.hid (blk_below Y1.out hb2)
  have B2 := Lib.hid (Below.then_ B1.out hb2)
  replace hHeld := blk_below hHeld hb2
  clear hb2
  refine hK.out _ _ (fun _ _ => hHeld) ?_
  clear hK K
  try simp only [List.getElem_toArray, List.getElem_cons_zero, List.getElem_cons_succ, Act.put, List.setIfInBounds_toArray, List.set_cons_zero, List.set_cons_succ]
  refine wpAnyN_pure (i := 9) (v := Value.agg #[.int .i64 l, .int .i64 k, .int .i64 kd, .int .i64 me, .int .i64 wait, .int .u64 kids, .int .i64 ep, .int .i64 0, .int .u64 0, .int .u64 ((withC 0 me : Nat) : Int), .bool false, .int .i64 k, .int .i64 l, .slice none 0 0]) rfl (by kernel_rfl) (by kernel_rfl) (by kernel_rfl) (fun _ _ _ h => h) (Or.inl ⟨by rfl, fun W _ => by go_simp⟩) ?_
  try simp only [List.getElem_toArray, List.getElem_cons_zero, List.getElem_cons_succ, Act.put, List.setIfInBounds_toArray, List.set_cons_zero, List.set_cons_succ]
  have q3 := blk_cell Y2.out
  have q4 := lt_of_block Y2.out
  have q5 := blk_frozen Y2.out
  refine wpAnyN_one (i := 10) (by kernel_rfl) rfl (fun K hK => ?_)
  go_simp
  go_simp
  refine hK.out _ _ (fun h _ => absurd (by decide) h) ?_
  clear hK K
  try simp only [List.getElem_toArray, List.getElem_cons_zero, List.getElem_cons_succ, Act.put, List.setIfInBounds_toArray, List.set_cons_zero, List.set_cons_succ]
  refine wpAnyN_done (by kernel_rfl) ?_ _
  refine NoPanic.normal ?_
  have Y3 : Hid (((((((((((((((w2.setCell ⟨w.heap.size + 1, 0, none⟩ (.int .i64 l)).setCell ⟨w.heap.size + 1, 1, none⟩ (.int .i64 k)).setCell ⟨w.heap.size + 1, 2, none⟩ (.int .i64 kd)).setCell ⟨w.heap.size + 1, 3, none⟩ (.int .i64 me)).setCell ⟨w.heap.size + 1, 4, none⟩ (.int .i64 wait)).setCell ⟨w.heap.size + 1, 5, none⟩ (.int .u64 kids)).setCell ⟨w.heap.size + 1, 6, none⟩ (.int .i64 ep)).setCell ⟨w.heap.size + 1, 7, none⟩ (.int .i64 0)).setCell ⟨w.heap.size + 1, 8, none⟩ (.int .u64 0)).setCell ⟨w.heap.size + 1, 9, none⟩ (.int .u64 ((withC 0 me : Nat) : Int))).setCell ⟨w.heap.size + 1, 10, none⟩ (.bool false)).setCell ⟨w.heap.size + 1, 11, none⟩ (.int .i64 k)).setCell ⟨w.heap.size + 1, 12, none⟩ (.int .i64 l)).setCell ⟨w.heap.size + 1, 13, none⟩ (.slice none 0 0)).heap[w.heap.size + 1]? = some (.cells #[.int .i64 l, .int .i64 k, .int .i64 kd, .int .i64 me, .int .i64 wait, .int .u64 kids, .int .i64 ep, .int .i64 0, .int .u64 0, .int .u64 ((withC 0 me : Nat) : Int), .bool false, .int .i64 k, .int .i64 l, .slice none 0 0] 43 (0, 0))) := Lib.hid (store14 Y2.out (.int .i64 l) (.int .i64 k) (.int .i64 kd) (.int .i64 me) (.int .i64 wait) (.int .u64 kids) (.int .i64 ep) (.int .i64 0) (.int .u64 0) (.int .u64 ((withC 0 me : Nat) : Int)) (.bool false) (.int .i64 k) (.int .i64 l) (.slice none 0 0))
  have B3 : Hid (Below w.heap.size w ((((((((((((((w2.setCell ⟨w.heap.size + 1, 0, none⟩ (.int .i64 l)).setCell ⟨w.heap.size + 1, 1, none⟩ (.int .i64 k)).setCell ⟨w.heap.size + 1, 2, none⟩ (.int .i64 kd)).setCell ⟨w.heap.size + 1, 3, none⟩ (.int .i64 me)).setCell ⟨w.heap.size + 1, 4, none⟩ (.int .i64 wait)).setCell ⟨w.heap.size + 1, 5, none⟩ (.int .u64 kids)).setCell ⟨w.heap.size + 1, 6, none⟩ (.int .i64 ep)).setCell ⟨w.heap.size + 1, 7, none⟩ (.int .i64 0)).setCell ⟨w.heap.size + 1, 8, none⟩ (.int .u64 0)).setCell ⟨w.heap.size + 1, 9, none⟩ (.int .u64 ((withC 0 me : Nat) : Int))).setCell ⟨w.heap.size + 1, 10, none⟩ (.bool false)).setCell ⟨w.heap.size + 1, 11, none⟩ (.int .i64 k)).setCell ⟨w.heap.size + 1, 12, none⟩ (.int .i64 l)).setCell ⟨w.heap.size + 1, 13, none⟩ (.slice none 0 0))) := Lib.hid (store14_below B2.out (by simp) (.int .i64 l) (.int .i64 k) (.int .i64 kd) (.int .i64 me) (.int .i64 wait) (.int .u64 kids) (.int .i64 ep) (.int .i64 0) (.int .u64 0) (.int .u64 ((withC 0 me : Nat) : Int)) (.bool false) (.int .i64 k) (.int .i64 l) (.slice none 0 0))
  clear q3 q4 q5
  generalize ((((((((((((((w2.setCell ⟨w.heap.size + 1, 0, none⟩ (.int .i64 l)).setCell ⟨w.heap.size + 1, 1, none⟩ (.int .i64 k)).setCell ⟨w.heap.size + 1, 2, none⟩ (.int .i64 kd)).setCell ⟨w.heap.size + 1, 3, none⟩ (.int .i64 me)).setCell ⟨w.heap.size + 1, 4, none⟩ (.int .i64 wait)).setCell ⟨w.heap.size + 1, 5, none⟩ (.int .u64 kids)).setCell ⟨w.heap.size + 1, 6, none⟩ (.int .i64 ep)).setCell ⟨w.heap.size + 1, 7, none⟩ (.int .i64 0)).setCell ⟨w.heap.size + 1, 8, none⟩ (.int .u64 0)).setCell ⟨w.heap.size + 1, 9, none⟩ (.int .u64 ((withC 0 me : Nat) : Int))).setCell ⟨w.heap.size + 1, 10, none⟩ (.bool false)).setCell ⟨w.heap.size + 1, 11, none⟩ (.int .i64 k)).setCell ⟨w.heap.size + 1, 12, none⟩ (.int .i64 l)).setCell ⟨w.heap.size + 1, 13, none⟩ (.slice none 0 0)) = W3 at Y3 B3 ⊢
  have c3 := blk_cell Y3.out
  have f3 := blk_frozen Y3.out
  have z3 := lt_of_block Y3.out
  go_wp2_with fail
  exact bodyPost_ret (v := .agg #[.int .i64 l, .int .i64 k, .int .i64 kd, .int .i64 me, .int .i64 wait, .int .u64 kids, .int .i64 ep, .int .i64 0, .int .u64 0, .int .u64 ((withC 0 me : Nat) : Int), .bool false, .int .i64 k, .int .i64 l, .slice none 0 0]) (by simp only [results, Tryz.results12]; go_simp) rfl ⟨rfl, B3.out⟩
end Go.Proofs.YtgjaopfjffncbaaGreat
/- Law 31's like. -/
namespace Go.Proofs.YtgjaopfjffncbaaGreat
open Go.ChangeShapes Go.WideShapes Go.ChangeAt Go.RowKit
set_option linter.unusedVariables false
set_option linter.unusedSimpArgs false
set_option maxRecDepth 100000

/-- What stands while a sensor is held against the document's. -/
structure LikeS (w : World) (g K l : Nat) (s : Sen) (r : List Nd) (F : Nat → Prop) (A : Option Addr) (c : Nat) (W : World) : Prop where
  sa : SensAt W g K l s r F
  b : W.heap[w.heap.size]? = some (.cells #[.int .i64 s.l, .int .i64 s.k, .int .i64 s.kd, .int .i64 s.p.me, .int .i64 s.p.wait, .int .u64 s.p.kids, .int .i64 s.ep, .int .i64 s.ti, .int .u64 s.heard, .int .u64 s.cover, .bool s.sent, .int .i64 s.k, .int .i64 s.l, .slice A r.length c] 43 (0, 0))
  p : W.heap[w.heap.size + 1]? = some (.cells #[.int .i64 s.p.me, .int .u64 s.p.kids, .int .i64 s.p.wait] 34 (0, 0))
  o : Sl W W.heap.size encN A r
  le : Below w.heap.size w W
theorem LikeS.below {w : World} {g K l : Nat} {s : Sen} {r : List Nd} {F : Nat → Prop} {A : Option Addr} {c : Nat} {W W' : World} (h : LikeS w g K l s r F A c W) (hb : Below W.heap.size W W') : LikeS w g K l s r F A c W' :=
  ⟨h.sa.below hb, blk_below h.b hb, blk_below h.p hb, h.o.keep (B' := W'.heap.size) hb.size fun p hp => hb.cell hp, Below.then_ h.le hb⟩
/-- Beside the copy of its digest. -/
structure LikeD (w : World) (g K l : Nat) (s : Sen) (r : List Nd) (F : Nat → Prop) (A : Option Addr) (c dg : Nat) (F' : Nat → Prop) (W : World) : Prop where
  a : LikeS w g K l s r F A c W
  d : DigAt W dg K l s.k r F'
theorem LikeD.below {w : World} {g K l : Nat} {s : Sen} {r : List Nd} {F : Nat → Prop} {A : Option Addr} {c dg : Nat} {F' : Nat → Prop} {W W' : World} (h : LikeD w g K l s r F A c dg F' W) (hb : Below W.heap.size W W') : LikeD w g K l s r F A c dg F' W' := ⟨h.a.below hb, h.d.below hb⟩
theorem LikeD.sen {w : World} {g K l : Nat} {s : Sen} {r : List Nd} {F : Nat → Prop} {A : Option Addr} {c dg : Nat} {F' : Nat → Prop} {W : World} (h : LikeD w g K l s r F A c dg F' W) : SenAt W g (Classical.choose h.a.sa) s := by
  obtain ⟨_, _, h1, _⟩ := Classical.choose_spec h.a.sa
  exact h1
set_option maxHeartbeats 8000000 in
theorem law31_like (w : World) (g K l : Nat) (s : Sen) (r : List Nd) (F : Nat → Prop) (A : Option Addr) (c : Nat) (h : SensAt w g K l s r F) (hS : Sl w w.heap.size encN A r) (ho : SenOk s) (hn : r.length ≤ 67108864) :
    Calls Tryz.prog 11 #[.pointer (some ⟨g, 0, none⟩), refV s A r.length c] w fun e w' => e = .returned (.bool true) ∧ Below w.heap.size w w' := by
  obtain ⟨hsl, hsK⟩ : s.l = l ∧ s.kd = K := by obtain ⟨_, _, _, _, h1, h2, _⟩ := h; exact ⟨h1, h2⟩
  have HOk := Lib.hid ho
  have BW : Hid (Below w.heap.size w ((w.alloc (.cells #[.int .i64 s.l, .int .i64 s.k, .int .i64 s.kd, .int .i64 s.p.me, .int .i64 s.p.wait, .int .u64 s.p.kids, .int .i64 s.ep, .int .i64 s.ti, .int .u64 s.heard, .int .u64 s.cover, .bool s.sent, .int .i64 s.k, .int .i64 s.l, .slice A r.length c] 43)).alloc (.cells #[.int .i64 s.p.me, .int .u64 s.p.kids, .int .i64 s.p.wait] 34))) := Lib.hid (by repeat (first | with_reducible exact Below.refl _ _ | with_reducible assumption | ((with_reducible refine Below.setCell ?_ ?_ _); rotate_left; · (first | omega | exact Nat.le_refl _ | (simp <;> omega))) | (with_reducible refine Below.allocW ?_ _) | (with_reducible refine Below.drew ?_) | (with_reducible refine Below.extW ?_ _)))
  have L0 : Hid (LikeS w g K l s r F A c ((w.alloc (.cells #[.int .i64 s.l, .int .i64 s.k, .int .i64 s.kd, .int .i64 s.p.me, .int .i64 s.p.wait, .int .u64 s.p.kids, .int .i64 s.ep, .int .i64 s.ti, .int .u64 s.heard, .int .u64 s.cover, .bool s.sent, .int .i64 s.k, .int .i64 s.l, .slice A r.length c] 43)).alloc (.cells #[.int .i64 s.p.me, .int .u64 s.p.kids, .int .i64 s.p.wait] 34))) :=
    Lib.hid ⟨h.below BW.out, (heap_new_lt _ _ _ (by simp)).trans (heap_alloc_new w _), heap_new_at (w.alloc _) _ _ (by simp), hS.keep BW.out.size fun p hp => BW.out.cell hp, BW.out⟩
  have HSL := Lib.hid hsl
  have HSK := Lib.hid hsK
  clear h hS ho BW hsl hsK
  unfold refV refC
  go_enter Tryz.func11, Tryz.ntmps11
  go_upto_region 2 with fail
  generalize (w.alloc (.cells #[.int .i64 s.l, .int .i64 s.k, .int .i64 s.kd, .int .i64 s.p.me, .int .i64 s.p.wait, .int .u64 s.p.kids, .int .i64 s.ep, .int .i64 s.ti, .int .u64 s.heard, .int .u64 s.cover, .bool s.sent, .int .i64 s.k, .int .i64 s.l, .slice A r.length c] 43)).alloc (.cells #[.int .i64 s.p.me, .int .u64 s.p.kids, .int .i64 s.p.wait] 34) = W0 at L0 ⊢
  go_wp2_with fail
  refine (sensor_Digest W0 g K l s r F L0.out.sa).mono ?_
  rintro e w1 ⟨dg, F', rfl, hd, _, hb⟩
  have L1 := Lib.hid (L0.out.below hb)
  have D1 := Lib.hid hd
  clear hd hb L0
  have LD := Lib.hid (show LikeD w g K l s r F A c dg F' w1 from ⟨L1.out, D1.out⟩)
  have HC := Lib.hid (fun W h => digest_Conf W dg K l s.k r F' h)
  rw [← HSL.out, ← HSK.out] at HC
  have HPl := Lib.hid (fun W dg' h => sensor_Place W g dg' s h)
  unfold plcV at HPl
  clear L1 D1 HSL HSK
  go_upto_region 3 with fail
  replace LD := Lib.hid (LD.out.below (W' := w1.drew) ((Below.refl _ _).drew))
  refine wp_region_noPanic ?_
  refine wp_region_N (LikeD w g K l s r F A c dg F') [] (by kernel_rfl) (LD.out) (fun hHeld => ?_)
  generalize w1.drew = Wd0 at LD hHeld ⊢
  clear hHeld
  simp only [List.append_eq, List.cons_append, List.nil_append]
  refine wpAnyN_pure (i := 0) (v := Value.pointer (some ⟨g, 0, none⟩)) rfl (by kernel_rfl) (by kernel_rfl) (by kernel_rfl) (fun _ _ _ h => h) (Or.inl ⟨by rfl, fun W _ => by go_simp⟩) ?_
  try simp only [List.getElem_toArray, List.getElem_cons_zero, List.getElem_cons_succ, Act.put, List.setIfInBounds_toArray, List.set_cons_zero, List.set_cons_succ]
  refine wpAnyN_take (i := 2) (v := Value.agg #[.int .i64 s.p.me, .int .u64 s.p.kids, .int .i64 s.p.wait]) rfl (by kernel_rfl) (by kernel_rfl) (by kernel_rfl) (by kernel_rfl) (fun _ _ _ h => h) (Or.inl ⟨by rfl, fun W hW => by have q1 := blk_cell hW.a.b; have q2 := lt_of_block hW.a.b; have q3 := blk_cell hW.a.p; have q4 := lt_of_block hW.a.p; go_simp⟩) LD.out ?_
  try simp only [List.getElem_toArray, List.getElem_cons_zero, List.getElem_cons_succ, Act.put, List.setIfInBounds_toArray, List.set_cons_zero, List.set_cons_succ]
  refine wpAnyN_one (i := 1) (by kernel_rfl) rfl (fun K hK => ?_)
  go_simp
  refine (HPl.out _ _ LD.out.sen).mono ?_
  rintro e wq ⟨rfl, hb⟩
  replace LD := Lib.hid (LD.out.below hb)
  clear hb
  refine hK.out _ _ (fun _ _ => LD.out) ?_
  clear hK K
  try simp only [List.getElem_toArray, List.getElem_cons_zero, List.getElem_cons_succ, Act.put, List.setIfInBounds_toArray, List.set_cons_zero, List.set_cons_succ]
  refine wpAnyN_pure (i := 3) (v := Value.bool true) rfl (by kernel_rfl) (by kernel_rfl) (by kernel_rfl) (fun _ _ _ h => h) (Or.inl ⟨by rfl, fun W _ => by go_simp⟩) ?_
  try simp only [List.getElem_toArray, List.getElem_cons_zero, List.getElem_cons_succ, Act.put, List.setIfInBounds_toArray, List.set_cons_zero, List.set_cons_succ]
  refine wpAnyN_pure (i := 4) (v := Value.bool true) rfl (by kernel_rfl) (by kernel_rfl) (by kernel_rfl) (fun _ _ _ h => h) (Or.inl ⟨by rfl, fun W _ => by go_simp⟩) ?_
  try simp only [List.getElem_toArray, List.getElem_cons_zero, List.getElem_cons_succ, Act.put, List.setIfInBounds_toArray, List.set_cons_zero, List.set_cons_succ]
  refine wpAnyN_pure (i := 5) (v := Value.pointer (some ⟨g, 0, none⟩)) rfl (by kernel_rfl) (by kernel_rfl) (by kernel_rfl) (fun _ _ _ h => h) (Or.inl ⟨by rfl, fun W _ => by go_simp⟩) ?_
  try simp only [List.getElem_toArray, List.getElem_cons_zero, List.getElem_cons_succ, Act.put, List.setIfInBounds_toArray, List.set_cons_zero, List.set_cons_succ]
  refine wpAnyN_pure (i := 7) (v := Value.pointer (some ⟨w.heap.size, 6, none⟩)) rfl (by kernel_rfl) (by kernel_rfl) (by kernel_rfl) (fun _ _ _ h => h) (Or.inl ⟨by rfl, fun W _ => by go_simp⟩) ?_
  try simp only [List.getElem_toArray, List.getElem_cons_zero, List.getElem_cons_succ, Act.put, List.setIfInBounds_toArray, List.set_cons_zero, List.set_cons_succ]
  refine wpAnyN_take (i := 8) (v := Value.int .i64 s.ep) rfl (by kernel_rfl) (by kernel_rfl) (by kernel_rfl) (by kernel_rfl) (fun _ _ _ h => h) (Or.inl ⟨by rfl, fun W hW => by have q1 := blk_cell hW.a.b; have q2 := lt_of_block hW.a.b; have q3 := blk_cell hW.a.p; have q4 := lt_of_block hW.a.p; go_simp⟩) LD.out ?_
  try simp only [List.getElem_toArray, List.getElem_cons_zero, List.getElem_cons_succ, Act.put, List.setIfInBounds_toArray, List.set_cons_zero, List.set_cons_succ]
  refine wpAnyN_one (i := 6) (by kernel_rfl) rfl (fun K hK => ?_)
  go_simp
  refine (sensor_Epoch _ g _ s LD.out.sen).mono ?_
  rintro e wq ⟨rfl, hb⟩
  replace LD := Lib.hid (LD.out.below hb)
  clear hb
  refine hK.out _ _ (fun _ _ => LD.out) ?_
  clear hK K
  try simp only [List.getElem_toArray, List.getElem_cons_zero, List.getElem_cons_succ, Act.put, List.setIfInBounds_toArray, List.set_cons_zero, List.set_cons_succ]
  refine wpAnyN_pure (i := 9) (v := Value.bool true) rfl (by kernel_rfl) (by kernel_rfl) (by kernel_rfl) (fun _ _ _ h => h) (Or.inl ⟨by rfl, fun W _ => by go_simp⟩) ?_
  try simp only [List.getElem_toArray, List.getElem_cons_zero, List.getElem_cons_succ, Act.put, List.setIfInBounds_toArray, List.set_cons_zero, List.set_cons_succ]
  refine wpAnyN_pure (i := 10) (v := Value.bool true) rfl (by kernel_rfl) (by kernel_rfl) (by kernel_rfl) (fun _ _ _ h => h) (Or.inl ⟨by rfl, fun W _ => by go_simp⟩) ?_
  try simp only [List.getElem_toArray, List.getElem_cons_zero, List.getElem_cons_succ, Act.put, List.setIfInBounds_toArray, List.set_cons_zero, List.set_cons_succ]
  refine wpAnyN_pure (i := 11) (v := Value.bool true) rfl (by kernel_rfl) (by kernel_rfl) (by kernel_rfl) (fun _ _ _ h => h) (Or.inl ⟨by rfl, fun W _ => by go_simp⟩) ?_
  try simp only [List.getElem_toArray, List.getElem_cons_zero, List.getElem_cons_succ, Act.put, List.setIfInBounds_toArray, List.set_cons_zero, List.set_cons_succ]
  refine wpAnyN_pure (i := 12) (v := Value.pointer (some ⟨g, 0, none⟩)) rfl (by kernel_rfl) (by kernel_rfl) (by kernel_rfl) (fun _ _ _ h => h) (Or.inl ⟨by rfl, fun W _ => by go_simp⟩) ?_
  try simp only [List.getElem_toArray, List.getElem_cons_zero, List.getElem_cons_succ, Act.put, List.setIfInBounds_toArray, List.set_cons_zero, List.set_cons_succ]
  refine wpAnyN_pure (i := 14) (v := Value.pointer (some ⟨w.heap.size, 7, none⟩)) rfl (by kernel_rfl) (by kernel_rfl) (by kernel_rfl) (fun _ _ _ h => h) (Or.inl ⟨by rfl, fun W _ => by go_simp⟩) ?_
  try simp only [List.getElem_toArray, List.getElem_cons_zero, List.getElem_cons_succ, Act.put, List.setIfInBounds_toArray, List.set_cons_zero, List.set_cons_succ]
  refine wpAnyN_take (i := 15) (v := Value.int .i64 s.ti) rfl (by kernel_rfl) (by kernel_rfl) (by kernel_rfl) (by kernel_rfl) (fun _ _ _ h => h) (Or.inl ⟨by rfl, fun W hW => by have q1 := blk_cell hW.a.b; have q2 := lt_of_block hW.a.b; have q3 := blk_cell hW.a.p; have q4 := lt_of_block hW.a.p; go_simp⟩) LD.out ?_
  try simp only [List.getElem_toArray, List.getElem_cons_zero, List.getElem_cons_succ, Act.put, List.setIfInBounds_toArray, List.set_cons_zero, List.set_cons_succ]
  refine wpAnyN_one (i := 13) (by kernel_rfl) rfl (fun K hK => ?_)
  go_simp
  refine (sensor_Ticks _ g _ s LD.out.sen).mono ?_
  rintro e wq ⟨rfl, hb⟩
  replace LD := Lib.hid (LD.out.below hb)
  clear hb
  refine hK.out _ _ (fun _ _ => LD.out) ?_
  clear hK K
  try simp only [List.getElem_toArray, List.getElem_cons_zero, List.getElem_cons_succ, Act.put, List.setIfInBounds_toArray, List.set_cons_zero, List.set_cons_succ]
  refine wpAnyN_pure (i := 16) (v := Value.bool true) rfl (by kernel_rfl) (by kernel_rfl) (by kernel_rfl) (fun _ _ _ h => h) (Or.inl ⟨by rfl, fun W _ => by go_simp⟩) ?_
  try simp only [List.getElem_toArray, List.getElem_cons_zero, List.getElem_cons_succ, Act.put, List.setIfInBounds_toArray, List.set_cons_zero, List.set_cons_succ]
  refine wpAnyN_pure (i := 17) (v := Value.bool true) rfl (by kernel_rfl) (by kernel_rfl) (by kernel_rfl) (fun _ _ _ h => h) (Or.inl ⟨by rfl, fun W _ => by go_simp⟩) ?_
  try simp only [List.getElem_toArray, List.getElem_cons_zero, List.getElem_cons_succ, Act.put, List.setIfInBounds_toArray, List.set_cons_zero, List.set_cons_succ]
  refine wpAnyN_pure (i := 18) (v := Value.bool true) rfl (by kernel_rfl) (by kernel_rfl) (by kernel_rfl) (fun _ _ _ h => h) (Or.inl ⟨by rfl, fun W _ => by go_simp⟩) ?_
  try simp only [List.getElem_toArray, List.getElem_cons_zero, List.getElem_cons_succ, Act.put, List.setIfInBounds_toArray, List.set_cons_zero, List.set_cons_succ]
  refine wpAnyN_pure (i := 19) (v := Value.pointer (some ⟨g, 0, none⟩)) rfl (by kernel_rfl) (by kernel_rfl) (by kernel_rfl) (fun _ _ _ h => h) (Or.inl ⟨by rfl, fun W _ => by go_simp⟩) ?_
  try simp only [List.getElem_toArray, List.getElem_cons_zero, List.getElem_cons_succ, Act.put, List.setIfInBounds_toArray, List.set_cons_zero, List.set_cons_succ]
  refine wpAnyN_pure (i := 21) (v := Value.pointer (some ⟨w.heap.size, 8, none⟩)) rfl (by kernel_rfl) (by kernel_rfl) (by kernel_rfl) (fun _ _ _ h => h) (Or.inl ⟨by rfl, fun W _ => by go_simp⟩) ?_
  try simp only [List.getElem_toArray, List.getElem_cons_zero, List.getElem_cons_succ, Act.put, List.setIfInBounds_toArray, List.set_cons_zero, List.set_cons_succ]
  refine wpAnyN_take (i := 22) (v := Value.int .u64 s.heard) rfl (by kernel_rfl) (by kernel_rfl) (by kernel_rfl) (by kernel_rfl) (fun _ _ _ h => h) (Or.inl ⟨by rfl, fun W hW => by have q1 := blk_cell hW.a.b; have q2 := lt_of_block hW.a.b; have q3 := blk_cell hW.a.p; have q4 := lt_of_block hW.a.p; go_simp⟩) LD.out ?_
  try simp only [List.getElem_toArray, List.getElem_cons_zero, List.getElem_cons_succ, Act.put, List.setIfInBounds_toArray, List.set_cons_zero, List.set_cons_succ]
  refine wpAnyN_one (i := 20) (by kernel_rfl) rfl (fun K hK => ?_)
  go_simp
  refine (sensor_Heard _ g _ s LD.out.sen).mono ?_
  rintro e wq ⟨rfl, hb⟩
  replace LD := Lib.hid (LD.out.below hb)
  clear hb
  refine hK.out _ _ (fun _ _ => LD.out) ?_
  clear hK K
  try simp only [List.getElem_toArray, List.getElem_cons_zero, List.getElem_cons_succ, Act.put, List.setIfInBounds_toArray, List.set_cons_zero, List.set_cons_succ]
  refine wpAnyN_pure (i := 23) (v := Value.bool true) rfl (by kernel_rfl) (by kernel_rfl) (by kernel_rfl) (fun _ _ _ h => h) (Or.inl ⟨by rfl, fun W _ => by go_simp⟩) ?_
  try simp only [List.getElem_toArray, List.getElem_cons_zero, List.getElem_cons_succ, Act.put, List.setIfInBounds_toArray, List.set_cons_zero, List.set_cons_succ]
  refine wpAnyN_pure (i := 24) (v := Value.bool true) rfl (by kernel_rfl) (by kernel_rfl) (by kernel_rfl) (fun _ _ _ h => h) (Or.inl ⟨by rfl, fun W _ => by go_simp⟩) ?_
  try simp only [List.getElem_toArray, List.getElem_cons_zero, List.getElem_cons_succ, Act.put, List.setIfInBounds_toArray, List.set_cons_zero, List.set_cons_succ]
  refine wpAnyN_pure (i := 25) (v := Value.bool true) rfl (by kernel_rfl) (by kernel_rfl) (by kernel_rfl) (fun _ _ _ h => h) (Or.inl ⟨by rfl, fun W _ => by go_simp⟩) ?_
  try simp only [List.getElem_toArray, List.getElem_cons_zero, List.getElem_cons_succ, Act.put, List.setIfInBounds_toArray, List.set_cons_zero, List.set_cons_succ]
  refine wpAnyN_pure (i := 26) (v := Value.pointer (some ⟨g, 0, none⟩)) rfl (by kernel_rfl) (by kernel_rfl) (by kernel_rfl) (fun _ _ _ h => h) (Or.inl ⟨by rfl, fun W _ => by go_simp⟩) ?_
  try simp only [List.getElem_toArray, List.getElem_cons_zero, List.getElem_cons_succ, Act.put, List.setIfInBounds_toArray, List.set_cons_zero, List.set_cons_succ]
  refine wpAnyN_pure (i := 28) (v := Value.pointer (some ⟨w.heap.size, 9, none⟩)) rfl (by kernel_rfl) (by kernel_rfl) (by kernel_rfl) (fun _ _ _ h => h) (Or.inl ⟨by rfl, fun W _ => by go_simp⟩) ?_
  try simp only [List.getElem_toArray, List.getElem_cons_zero, List.getElem_cons_succ, Act.put, List.setIfInBounds_toArray, List.set_cons_zero, List.set_cons_succ]
  refine wpAnyN_take (i := 29) (v := Value.int .u64 s.cover) rfl (by kernel_rfl) (by kernel_rfl) (by kernel_rfl) (by kernel_rfl) (fun _ _ _ h => h) (Or.inl ⟨by rfl, fun W hW => by have q1 := blk_cell hW.a.b; have q2 := lt_of_block hW.a.b; have q3 := blk_cell hW.a.p; have q4 := lt_of_block hW.a.p; go_simp⟩) LD.out ?_
  try simp only [List.getElem_toArray, List.getElem_cons_zero, List.getElem_cons_succ, Act.put, List.setIfInBounds_toArray, List.set_cons_zero, List.set_cons_succ]
  refine wpAnyN_one (i := 27) (by kernel_rfl) rfl (fun K hK => ?_)
  go_simp
  refine (sensor_Cover _ g _ s LD.out.sen).mono ?_
  rintro e wq ⟨rfl, hb⟩
  replace LD := Lib.hid (LD.out.below hb)
  clear hb
  refine hK.out _ _ (fun _ _ => LD.out) ?_
  clear hK K
  try simp only [List.getElem_toArray, List.getElem_cons_zero, List.getElem_cons_succ, Act.put, List.setIfInBounds_toArray, List.set_cons_zero, List.set_cons_succ]
  refine wpAnyN_pure (i := 30) (v := Value.bool true) rfl (by kernel_rfl) (by kernel_rfl) (by kernel_rfl) (fun _ _ _ h => h) (Or.inl ⟨by rfl, fun W _ => by go_simp⟩) ?_
  try simp only [List.getElem_toArray, List.getElem_cons_zero, List.getElem_cons_succ, Act.put, List.setIfInBounds_toArray, List.set_cons_zero, List.set_cons_succ]
  refine wpAnyN_pure (i := 31) (v := Value.bool true) rfl (by kernel_rfl) (by kernel_rfl) (by kernel_rfl) (fun _ _ _ h => h) (Or.inl ⟨by rfl, fun W _ => by go_simp⟩) ?_
  try simp only [List.getElem_toArray, List.getElem_cons_zero, List.getElem_cons_succ, Act.put, List.setIfInBounds_toArray, List.set_cons_zero, List.set_cons_succ]
  refine wpAnyN_pure (i := 32) (v := Value.bool true) rfl (by kernel_rfl) (by kernel_rfl) (by kernel_rfl) (fun _ _ _ h => h) (Or.inl ⟨by rfl, fun W _ => by go_simp⟩) ?_
  try simp only [List.getElem_toArray, List.getElem_cons_zero, List.getElem_cons_succ, Act.put, List.setIfInBounds_toArray, List.set_cons_zero, List.set_cons_succ]
  refine wpAnyN_pure (i := 33) (v := Value.pointer (some ⟨g, 0, none⟩)) rfl (by kernel_rfl) (by kernel_rfl) (by kernel_rfl) (fun _ _ _ h => h) (Or.inl ⟨by rfl, fun W _ => by go_simp⟩) ?_
  try simp only [List.getElem_toArray, List.getElem_cons_zero, List.getElem_cons_succ, Act.put, List.setIfInBounds_toArray, List.set_cons_zero, List.set_cons_succ]
  refine wpAnyN_pure (i := 35) (v := Value.pointer (some ⟨w.heap.size, 10, none⟩)) rfl (by kernel_rfl) (by kernel_rfl) (by kernel_rfl) (fun _ _ _ h => h) (Or.inl ⟨by rfl, fun W _ => by go_simp⟩) ?_
  try simp only [List.getElem_toArray, List.getElem_cons_zero, List.getElem_cons_succ, Act.put, List.setIfInBounds_toArray, List.set_cons_zero, List.set_cons_succ]
  refine wpAnyN_take (i := 36) (v := Value.bool s.sent) rfl (by kernel_rfl) (by kernel_rfl) (by kernel_rfl) (by kernel_rfl) (fun _ _ _ h => h) (Or.inl ⟨by rfl, fun W hW => by have q1 := blk_cell hW.a.b; have q2 := lt_of_block hW.a.b; have q3 := blk_cell hW.a.p; have q4 := lt_of_block hW.a.p; go_simp⟩) LD.out ?_
  try simp only [List.getElem_toArray, List.getElem_cons_zero, List.getElem_cons_succ, Act.put, List.setIfInBounds_toArray, List.set_cons_zero, List.set_cons_succ]
  refine wpAnyN_one (i := 34) (by kernel_rfl) rfl (fun K hK => ?_)
  go_simp
  refine (sensor_Sent _ g _ s LD.out.sen).mono ?_
  rintro e wq ⟨rfl, hb⟩
  replace LD := Lib.hid (LD.out.below hb)
  clear hb
  refine hK.out _ _ (fun _ _ => LD.out) ?_
  clear hK K
  try simp only [List.getElem_toArray, List.getElem_cons_zero, List.getElem_cons_succ, Act.put, List.setIfInBounds_toArray, List.set_cons_zero, List.set_cons_succ]
  refine wpAnyN_pure (i := 37) (v := Value.bool true) rfl (by kernel_rfl) (by kernel_rfl) (by kernel_rfl) (fun _ _ _ h => h) (Or.inl ⟨by rfl, fun W _ => by go_simp⟩) ?_
  try simp only [List.getElem_toArray, List.getElem_cons_zero, List.getElem_cons_succ, Act.put, List.setIfInBounds_toArray, List.set_cons_zero, List.set_cons_succ]
  refine wpAnyN_pure (i := 38) (v := Value.bool true) rfl (by kernel_rfl) (by kernel_rfl) (by kernel_rfl) (fun _ _ _ h => h) (Or.inl ⟨by rfl, fun W _ => by go_simp⟩) ?_
  try simp only [List.getElem_toArray, List.getElem_cons_zero, List.getElem_cons_succ, Act.put, List.setIfInBounds_toArray, List.set_cons_zero, List.set_cons_succ]
  refine wpAnyN_pure (i := 39) (v := Value.bool true) rfl (by kernel_rfl) (by kernel_rfl) (by kernel_rfl) (fun _ _ _ h => h) (Or.inl ⟨by rfl, fun W _ => by go_simp⟩) ?_
  try simp only [List.getElem_toArray, List.getElem_cons_zero, List.getElem_cons_succ, Act.put, List.setIfInBounds_toArray, List.set_cons_zero, List.set_cons_succ]
  refine wpAnyN_pure (i := 40) (v := Value.pointer (some ⟨g, 0, none⟩)) rfl (by kernel_rfl) (by kernel_rfl) (by kernel_rfl) (fun _ _ _ h => h) (Or.inl ⟨by rfl, fun W _ => by go_simp⟩) ?_
  try simp only [List.getElem_toArray, List.getElem_cons_zero, List.getElem_cons_succ, Act.put, List.setIfInBounds_toArray, List.set_cons_zero, List.set_cons_succ]
  refine wpAnyN_take (i := 42) (v := Value.agg #[.int .i64 s.l, .int .i64 s.k, .int .i64 s.kd, .int .i64 s.p.me, .int .i64 s.p.wait, .int .u64 s.p.kids, .int .i64 s.ep, .int .i64 s.ti, .int .u64 s.heard, .int .u64 s.cover, .bool s.sent, .int .i64 s.k, .int .i64 s.l, .slice A r.length c]) rfl (by kernel_rfl) (by kernel_rfl) (by kernel_rfl) (by kernel_rfl) (fun _ _ _ h => h) (Or.inl ⟨by rfl, fun W hW => by have q1 := blk_cell hW.a.b; have q2 := lt_of_block hW.a.b; have q3 := blk_cell hW.a.p; have q4 := lt_of_block hW.a.p; go_simp⟩) LD.out ?_
  try simp only [List.getElem_toArray, List.getElem_cons_zero, List.getElem_cons_succ, Act.put, List.setIfInBounds_toArray, List.set_cons_zero, List.set_cons_succ]
  refine wpAnyN_one (i := 41) (by kernel_rfl) rfl (fun K hK => ?_)
  go_simp
  refine (sensor_Ready _ g _ s LD.out.sen).mono ?_
  rintro e wq ⟨rfl, hb⟩
  replace LD := Lib.hid (LD.out.below hb)
  clear hb
  refine hK.out _ _ (fun _ _ => LD.out) ?_
  clear hK K
  try simp only [List.getElem_toArray, List.getElem_cons_zero, List.getElem_cons_succ, Act.put, List.setIfInBounds_toArray, List.set_cons_zero, List.set_cons_succ]
  refine wpAnyN_one (i := 43) (by kernel_rfl) rfl (fun K hK => ?_)
  go_simp
  refine (ref31_Ready _ s A r.length c HOk.out).mono ?_
  rintro e wq ⟨rfl, hb⟩
  replace LD := Lib.hid (LD.out.below hb)
  clear hb
  refine hK.out _ _ (fun _ _ => LD.out) ?_
  clear hK K
  try simp only [List.getElem_toArray, List.getElem_cons_zero, List.getElem_cons_succ, Act.put, List.setIfInBounds_toArray, List.set_cons_zero, List.set_cons_succ]
  refine wpAnyN_pure (i := 44) (v := Value.bool true) rfl (by kernel_rfl) (by kernel_rfl) (by kernel_rfl) (fun _ _ _ h => h) (Or.inl ⟨by rfl, fun W _ => by go_simp⟩) ?_
  try simp only [List.getElem_toArray, List.getElem_cons_zero, List.getElem_cons_succ, Act.put, List.setIfInBounds_toArray, List.set_cons_zero, List.set_cons_succ]
  refine wpAnyN_pure (i := 45) (v := Value.bool true) rfl (by kernel_rfl) (by kernel_rfl) (by kernel_rfl) (fun _ _ _ h => h) (Or.inl ⟨by rfl, fun W _ => by go_simp⟩) ?_
  try simp only [List.getElem_toArray, List.getElem_cons_zero, List.getElem_cons_succ, Act.put, List.setIfInBounds_toArray, List.set_cons_zero, List.set_cons_succ]
  refine wpAnyN_pure (i := 46) (v := Value.bool true) rfl (by kernel_rfl) (by kernel_rfl) (by kernel_rfl) (fun _ _ _ h => h) (Or.inl ⟨by rfl, fun W _ => by go_simp⟩) ?_
  try simp only [List.getElem_toArray, List.getElem_cons_zero, List.getElem_cons_succ, Act.put, List.setIfInBounds_toArray, List.set_cons_zero, List.set_cons_succ]
  refine wpAnyN_pure (i := 47) (v := Value.pointer (some ⟨dg, 0, none⟩)) rfl (by kernel_rfl) (by kernel_rfl) (by kernel_rfl) (fun _ _ _ h => h) (Or.inl ⟨by rfl, fun W _ => by go_simp⟩) ?_
  try simp only [List.getElem_toArray, List.getElem_cons_zero, List.getElem_cons_succ, Act.put, List.setIfInBounds_toArray, List.set_cons_zero, List.set_cons_succ]
  refine wpAnyN_pure (i := 48) (v := Value.bool true) rfl (by kernel_rfl) (by kernel_rfl) (by kernel_rfl) (fun _ _ _ h => h) (Or.inl ⟨by rfl, fun W _ => by go_simp⟩) ?_
  try simp only [List.getElem_toArray, List.getElem_cons_zero, List.getElem_cons_succ, Act.put, List.setIfInBounds_toArray, List.set_cons_zero, List.set_cons_succ]
  refine wpAnyN_pure (i := 49) (v := Value.bool true) rfl (by kernel_rfl) (by kernel_rfl) (by kernel_rfl) (fun _ _ _ h => h) (Or.inl ⟨by rfl, fun W _ => by go_simp⟩) ?_
  try simp only [List.getElem_toArray, List.getElem_cons_zero, List.getElem_cons_succ, Act.put, List.setIfInBounds_toArray, List.set_cons_zero, List.set_cons_succ]
  refine wpAnyN_pure (i := 50) (v := Value.bool true) rfl (by kernel_rfl) (by kernel_rfl) (by kernel_rfl) (fun _ _ _ h => h) (Or.inl ⟨by rfl, fun W _ => by go_simp⟩) ?_
  try simp only [List.getElem_toArray, List.getElem_cons_zero, List.getElem_cons_succ, Act.put, List.setIfInBounds_toArray, List.set_cons_zero, List.set_cons_succ]
  refine wpAnyN_pure (i := 51) (v := Value.pointer (some ⟨dg, 0, none⟩)) rfl (by kernel_rfl) (by kernel_rfl) (by kernel_rfl) (fun _ _ _ h => h) (Or.inl ⟨by rfl, fun W _ => by go_simp⟩) ?_
  try simp only [List.getElem_toArray, List.getElem_cons_zero, List.getElem_cons_succ, Act.put, List.setIfInBounds_toArray, List.set_cons_zero, List.set_cons_succ]
  refine wpAnyN_pure (i := 53) (v := Value.pointer (some ⟨w.heap.size, 0, none⟩)) rfl (by kernel_rfl) (by kernel_rfl) (by kernel_rfl) (fun _ _ _ h => h) (Or.inl ⟨by rfl, fun W _ => by go_simp⟩) ?_
  try simp only [List.getElem_toArray, List.getElem_cons_zero, List.getElem_cons_succ, Act.put, List.setIfInBounds_toArray, List.set_cons_zero, List.set_cons_succ]
  refine wpAnyN_take (i := 54) (v := Value.agg #[.int .i64 s.l, .int .i64 s.k, .int .i64 s.kd]) rfl (by kernel_rfl) (by kernel_rfl) (by kernel_rfl) (by kernel_rfl) (fun _ _ _ h => h) (Or.inl ⟨by rfl, fun W hW => by have q1 := blk_cell hW.a.b; have q2 := lt_of_block hW.a.b; have q3 := blk_cell hW.a.p; have q4 := lt_of_block hW.a.p; go_simp⟩) LD.out ?_
  try simp only [List.getElem_toArray, List.getElem_cons_zero, List.getElem_cons_succ, Act.put, List.setIfInBounds_toArray, List.set_cons_zero, List.set_cons_succ]
  refine wpAnyN_one (i := 52) (by kernel_rfl) rfl (fun K hK => ?_)
  go_simp
  refine (HC.out _ LD.out.d).mono ?_
  rintro e wq ⟨rfl, hb⟩
  replace LD := Lib.hid (LD.out.below hb)
  clear hb
  refine hK.out _ _ (fun _ _ => LD.out) ?_
  clear hK K
  try simp only [List.getElem_toArray, List.getElem_cons_zero, List.getElem_cons_succ, Act.put, List.setIfInBounds_toArray, List.set_cons_zero, List.set_cons_succ]
  refine wpAnyN_pure (i := 55) (v := Value.bool true) rfl (by kernel_rfl) (by kernel_rfl) (by kernel_rfl) (fun _ _ _ h => h) (Or.inl ⟨by rfl, fun W _ => by go_simp⟩) ?_
  try simp only [List.getElem_toArray, List.getElem_cons_zero, List.getElem_cons_succ, Act.put, List.setIfInBounds_toArray, List.set_cons_zero, List.set_cons_succ]
  refine wpAnyN_pure (i := 56) (v := Value.bool true) rfl (by kernel_rfl) (by kernel_rfl) (by kernel_rfl) (fun _ _ _ h => h) (Or.inl ⟨by rfl, fun W _ => by go_simp⟩) ?_
  try simp only [List.getElem_toArray, List.getElem_cons_zero, List.getElem_cons_succ, Act.put, List.setIfInBounds_toArray, List.set_cons_zero, List.set_cons_succ]
  refine wpAnyN_pure (i := 57) (v := Value.bool true) rfl (by kernel_rfl) (by kernel_rfl) (by kernel_rfl) (fun _ _ _ h => h) (Or.inl ⟨by rfl, fun W _ => by go_simp⟩) ?_
  try simp only [List.getElem_toArray, List.getElem_cons_zero, List.getElem_cons_succ, Act.put, List.setIfInBounds_toArray, List.set_cons_zero, List.set_cons_succ]
  refine wpAnyN_pure (i := 58) (v := Value.pointer (some ⟨dg, 0, none⟩)) rfl (by kernel_rfl) (by kernel_rfl) (by kernel_rfl) (fun _ _ _ h => h) (Or.inl ⟨by rfl, fun W _ => by go_simp⟩) ?_
  try simp only [List.getElem_toArray, List.getElem_cons_zero, List.getElem_cons_succ, Act.put, List.setIfInBounds_toArray, List.set_cons_zero, List.set_cons_succ]
  refine wpAnyN_pure (i := 60) (v := Value.pointer (some ⟨w.heap.size, 11, none⟩)) rfl (by kernel_rfl) (by kernel_rfl) (by kernel_rfl) (fun _ _ _ h => h) (Or.inl ⟨by rfl, fun W _ => by go_simp⟩) ?_
  try simp only [List.getElem_toArray, List.getElem_cons_zero, List.getElem_cons_succ, Act.put, List.setIfInBounds_toArray, List.set_cons_zero, List.set_cons_succ]
  refine wpAnyN_pure (i := 61) (v := Value.pointer (some ⟨w.heap.size, 12, none⟩)) rfl (by kernel_rfl) (by kernel_rfl) (by kernel_rfl) (fun _ _ _ h => h) (Or.inl ⟨by rfl, fun W _ => by go_simp⟩) ?_
  try simp only [List.getElem_toArray, List.getElem_cons_zero, List.getElem_cons_succ, Act.put, List.setIfInBounds_toArray, List.set_cons_zero, List.set_cons_succ]
  refine wpAnyN_pure (i := 62) (v := Value.pointer (some ⟨w.heap.size, 13, none⟩)) rfl (by kernel_rfl) (by kernel_rfl) (by kernel_rfl) (fun _ _ _ h => h) (Or.inl ⟨by rfl, fun W _ => by go_simp⟩) ?_
  try simp only [List.getElem_toArray, List.getElem_cons_zero, List.getElem_cons_succ, Act.put, List.setIfInBounds_toArray, List.set_cons_zero, List.set_cons_succ]
  refine wpAnyN_take (i := 63) (v := Value.slice A r.length c) rfl (by kernel_rfl) (by kernel_rfl) (by kernel_rfl) (by kernel_rfl) (fun _ _ _ h => h) (Or.inl ⟨by rfl, fun W hW => by have q1 := blk_cell hW.a.b; have q2 := lt_of_block hW.a.b; have q3 := blk_cell hW.a.p; have q4 := lt_of_block hW.a.p; go_simp⟩) LD.out ?_
  try simp only [List.getElem_toArray, List.getElem_cons_zero, List.getElem_cons_succ, Act.put, List.setIfInBounds_toArray, List.set_cons_zero, List.set_cons_succ]
  refine wpAnyN_one (i := 59) (by kernel_rfl) rfl (fun K hK => ?_)
  go_simp
  refine (digest_Nodes _ dg _ l s.k r F' LD.out.d hn).mono ?_
  rintro e wq ⟨v, rfl, ho, hb⟩
  obtain ⟨Av, cv, rfl, _⟩ := ho.form
  have O := Lib.hid ho.sl
  replace LD := Lib.hid (LD.out.below hb)
  clear ho hb
  refine hK.out _ _ (fun _ _ => LD.out) ?_
  clear hK K
  try simp only [List.getElem_toArray, List.getElem_cons_zero, List.getElem_cons_succ, Act.put, List.setIfInBounds_toArray, List.set_cons_zero, List.set_cons_succ]
  refine wpAnyN_one (i := 64) (by kernel_rfl) rfl (fun K hK => ?_)
  go_simp
  refine (ref06_Same _ Av A cv c r O.out LD.out.a.o (by unfold maxLen; omega)).mono ?_
  rintro e wq ⟨rfl, hb⟩
  replace LD := Lib.hid (LD.out.below hb)
  clear hb
  refine hK.out _ _ (fun _ _ => LD.out) ?_
  clear hK K
  try simp only [List.getElem_toArray, List.getElem_cons_zero, List.getElem_cons_succ, Act.put, List.setIfInBounds_toArray, List.set_cons_zero, List.set_cons_succ]
  refine wpAnyN_pure (i := 65) (v := Value.bool true) rfl (by kernel_rfl) (by kernel_rfl) (by kernel_rfl) (fun _ _ _ h => h) (Or.inl ⟨by rfl, fun W _ => by go_simp⟩) ?_
  try simp only [List.getElem_toArray, List.getElem_cons_zero, List.getElem_cons_succ, Act.put, List.setIfInBounds_toArray, List.set_cons_zero, List.set_cons_succ]
  refine wpAnyN_one (i := 66) (by kernel_rfl) rfl (fun K hK => ?_)
  go_simp
  refine hK.out _ _ (fun _ _ => LD.out) ?_
  clear hK K
  try simp only [List.getElem_toArray, List.getElem_cons_zero, List.getElem_cons_succ, Act.put, List.setIfInBounds_toArray, List.set_cons_zero, List.set_cons_succ]
  refine wpAnyN_done (by kernel_rfl) ?_ _
  refine NoPanic.normal ?_
  have B := Lib.hid LD.out.a.le
  clear LD O HC HOk
  go_wp2_with fail
  exact bodyPost_ret (v := .bool true) (by simp only [results, Tryz.results11]; go_simp) rfl ⟨rfl, B.out⟩
end Go.Proofs.YtgjaopfjffncbaaGreat
/- A place that comes in. -/
namespace Go.Proofs.YtgjaopfjffncbaaGreat
open Go.ChangeShapes Go.WideShapes Go.ChangeAt Go.RowKit
set_option linter.unusedVariables false
set_option maxRecDepth 100000

theorem u64_of_wf {n : Int} (h : (Lit.int .u64 n).wf = true) : ∃ m : Nat, n = m ∧ m < 2 ^ 64 := by
  simp only [Lit.wf, Bool.and_eq_true, decide_eq_true_eq] at h
  have hmn : IntKind.u64.min = 0 := by decide
  have hmx : IntKind.u64.max = 18446744073709551615 := by decide
  rw [hmn, hmx] at h
  exact ⟨n.toNat, by omega, by omega⟩
section
variable {H : Type} {enc : TypeId × Value → H} {w : World} {base : Nat} {spare : Nat → Bool} {held : Bool} {fuel : Nat} {cs : List Value} {x : DataW H × List MemPlace}
theorem place_of_trod (h : DataW.trod enc Tryz.prog w base spare held fuel 26 cs = some x) :
    ∃ (l k K me wait ep : Int) (kids : Nat), cs = [.int .i64 l, .int .i64 k, .int .i64 K, .int .i64 me, .int .i64 wait, .int .i64 ep, .int .u64 kids] ∧ i64 l ∧ i64 k ∧ i64 K ∧ i64 me ∧ i64 wait ∧ i64 ep ∧ kids < 2 ^ 64 := by
  obtain ⟨xs, n, _, _, hlen, hxl, hf⟩ := DataW.trod_struct Tryz.underlying26 h
  have hC : (Tryz.prog).cellsOf 26 = 7 := by kernel_rfl
  have hCc : (Tryz.prog).cellsOf 23 = 3 := by kernel_rfl
  have hCi : (Tryz.prog).cellsOf 3 = 1 := by kernel_rfl
  have hCu : (Tryz.prog).cellsOf 24 = 1 := by kernel_rfl
  rw [hC] at hlen
  match cs, hlen with
  | [c0, c1, c2, c3, c4, c5, c6], _ =>
    match xs, hxl with
    | [y0, y1, y2, y3, y4], _ =>
      have g0 : DataW.trod enc Tryz.prog w base spare held n 23 (([c0, c1, c2, c3, c4, c5, c6].drop 0).take ((Tryz.prog).cellsOf 23)) = some y0 := hf 0 _ rfl
      have g1 : DataW.trod enc Tryz.prog w base spare held n 3 (([c0, c1, c2, c3, c4, c5, c6].drop 3).take ((Tryz.prog).cellsOf 3)) = some y1 := hf 1 _ rfl
      have g2 : DataW.trod enc Tryz.prog w base spare held n 3 (([c0, c1, c2, c3, c4, c5, c6].drop 4).take ((Tryz.prog).cellsOf 3)) = some y2 := hf 2 _ rfl
      have g3 : DataW.trod enc Tryz.prog w base spare held n 3 (([c0, c1, c2, c3, c4, c5, c6].drop 5).take ((Tryz.prog).cellsOf 3)) = some y3 := hf 3 _ rfl
      have g4 : DataW.trod enc Tryz.prog w base spare held n 24 (([c0, c1, c2, c3, c4, c5, c6].drop 6).take ((Tryz.prog).cellsOf 24)) = some y4 := hf 4 _ rfl
      rw [hCc] at g0
      rw [hCi] at g1 g2 g3
      rw [hCu] at g4
      obtain ⟨l, k, K, e0, w0, w1, w2⟩ := conf_of_trod g0
      obtain ⟨me, e1, _, k1⟩ := DataW.trod_int Tryz.underlying3 g1
      obtain ⟨wait, e2, _, k2⟩ := DataW.trod_int Tryz.underlying3 g2
      obtain ⟨ep, e3, _, k3⟩ := DataW.trod_int Tryz.underlying3 g3
      obtain ⟨kd, e4, _, k4⟩ := DataW.trod_int Tryz.underlying24 g4
      obtain ⟨m, rfl, hm⟩ := u64_of_wf k4
      simp at e0 e1 e2 e3 e4
      obtain ⟨rfl, rfl, rfl⟩ := e0
      subst e1 e2 e3 e4
      exact ⟨l, k, K, me, wait, ep, m, rfl, w0, w1, w2, i64_of_wf k1, i64_of_wf k2, i64_of_wf k3, hm⟩
end
def placeV (l k K me wait ep : Int) (kids : Nat) : Value := .agg #[.int .i64 l, .int .i64 k, .int .i64 K, .int .i64 me, .int .i64 wait, .int .i64 ep, .int .u64 kids]
theorem open_Place {H : Type} {enc : TypeId × Value → H} {w : World} {base : Nat} {spare : Nat → Bool} {held : Bool} {r : Reach} {b0 : Nat} {v : Value} {d : DataW H} {p : List MemPlace}
    (hv : Value.okWide Tryz.prog w r b0 26 v) (h : DataW.Trod enc Tryz.prog w base spare held 26 v d p) :
    ∃ (l k K me wait ep : Int) (kids : Nat), v = placeV l k K me wait ep kids ∧ i64 l ∧ i64 k ∧ i64 K ∧ i64 me ∧ i64 wait ∧ i64 ep ∧ kids < 2 ^ 64 := by
  obtain ⟨cs, rfl, hsz⟩ := okWide_struct Tryz.underlying26 hv
  obtain ⟨fuel, hf⟩ := h
  obtain ⟨l, k, K, me, wait, ep, kids, hc, rest⟩ := place_of_trod hf
  refine ⟨l, k, K, me, wait, ep, kids, ?_, rest⟩
  obtain ⟨c⟩ := cs
  have : c = [.int .i64 l, .int .i64 k, .int .i64 K, .int .i64 me, .int .i64 wait, .int .i64 ep, .int .u64 kids] := by simpa [Value.cells] using hc
  subst this
  rfl
end Go.Proofs.YtgjaopfjffncbaaGreat
/- The law SensorNew's walk. -/
namespace Go.Proofs.YtgjaopfjffncbaaGreat
open Go.ChangeShapes Go.WideShapes Go.ChangeAt Go.RowKit
set_option linter.unusedVariables false
set_option linter.unusedSimpArgs false
set_option maxRecDepth 100000

theorem isDig_nat31 {l k K : Int} (h : isDig l k K = true) : ∃ a b : Nat, l = a ∧ K = b := by
  simp only [isDig, isPool, Bool.and_eq_true, decide_eq_true_eq] at h
  exact ⟨l.toNat, K.toNat, by omega, by omega⟩
theorem newS_nat {l k K : Int} {p : Plc} {ep : Int} (h : newS l k K p ep = true) : ∃ a b : Nat, l = a ∧ K = b := by
  simp only [newS, Bool.and_eq_true] at h
  exact isDig_nat31 h.1.1.1
def PlAt (w : World) (l k K me wait ep : Int) (kids : Nat) (W : World) : Prop := W.heap[w.heap.size]? = some (.cells #[.int .i64 l, .int .i64 k, .int .i64 K, .int .i64 me, .int .i64 wait, .int .i64 ep, .int .u64 kids] 26 (0, 0))
theorem PlAt.below {w W W' : World} {l k K me wait ep : Int} {kids : Nat} (h : PlAt w l k K me wait ep kids W) (hb : Below W.heap.size W W') : PlAt w l k K me wait ep kids W' := blk_below h hb
set_option maxHeartbeats 4000000 in
theorem law_SensorNew (l k K me wait ep : Int) (kids : Nat) (w : World) (hl : i64 l) (hk : i64 k) (hK : i64 K) (hme : i64 me) (hw : i64 wait) (hep : i64 ep) (hkids : kids < 2 ^ 64) :
    Calls Tryz.prog 3 #[placeV l k K me wait ep kids] w fun e w' => e = .returned (.bool true) ∧ Below w.heap.size w w' := by
  have X0 : Hid (PlAt w l k K me wait ep kids (w.alloc (.cells #[.int .i64 l, .int .i64 k, .int .i64 K, .int .i64 me, .int .i64 wait, .int .i64 ep, .int .u64 kids] 26))) := Lib.hid (heap_alloc_new w _)
  have B0 : Hid (Below w.heap.size w (w.alloc (.cells #[.int .i64 l, .int .i64 k, .int .i64 K, .int .i64 me, .int .i64 wait, .int .i64 ep, .int .u64 kids] 26))) := Lib.hid (by repeat (first | with_reducible exact Below.refl _ _ | with_reducible assumption | ((with_reducible refine Below.setCell ?_ ?_ _); rotate_left; · (first | omega | exact Nat.le_refl _ | (simp <;> omega))) | (with_reducible refine Below.allocW ?_ _) | (with_reducible refine Below.drew ?_) | (with_reducible refine Below.extW ?_ _)))
  have HA := Lib.hid alive31
  have HIs := Lib.hid (fun W => ref31_Is W l k K ⟨me, kids, wait⟩ ep hkids)
  unfold confV at HIs
  dsimp only at HIs
  unfold placeV
  by_cases hbig : K = 1 ∧ 10 < l
  · obtain ⟨rfl, h10⟩ := hbig
    go_enter Tryz.func3, Tryz.ntmps3
    go_upto_region 2 with fail
    generalize w.alloc (.cells #[.int .i64 l, .int .i64 k, .int .i64 1, .int .i64 me, .int .i64 wait, .int .i64 ep, .int .u64 kids] 26) = W0 at X0 B0 ⊢
    go_wp2_with fail
    refine (HA.out W0).mono ?_
    rintro e w1 ⟨rfl, hb⟩
    have B1 := Lib.hid (Below.then_ B0.out hb)
    clear hb
    go_wp2_with fail
    exact bodyPost_ret (v := .bool true) (by simp only [results, Tryz.results3]; go_simp) rfl ⟨rfl, B1.out⟩
  · have hg : (K == 1) = false ∨ ((K == 1) = true ∧ decide (10 < l) = false) := by
      by_cases h1 : K = 1
      · refine .inr ⟨by simpa using h1, ?_⟩
        simp only [decide_eq_false_iff_not]
        exact fun h2 => hbig ⟨h1, h2⟩
      · exact .inl (by simpa using h1)
    clear hbig
    cases hz : newS l k K ⟨me, kids, wait⟩ ep
    · rw [hz] at HIs
      have HN := Lib.hid (fun W => sensor_New_no W l k K ⟨me, kids, wait⟩ ep hkids hz)
      unfold confV plcV at HN
      dsimp only at HN
      clear hz
      go_enter Tryz.func3, Tryz.ntmps3
      rcases hg with hg | ⟨hg, hg2⟩
      all_goals
        go_upto_region 3 with fail
        generalize w.alloc (.cells #[.int .i64 l, .int .i64 k, .int .i64 K, .int .i64 me, .int .i64 wait, .int .i64 ep, .int .u64 kids] 26) = W0 at X0 B0 ⊢
        have c0 := blk_cell X0.out
        have z0 := lt_of_block X0.out
        go_wp2_with fail
        refine (HN.out W0).mono ?_
        rintro e w1 ⟨rfl, hb⟩
        have X1 := Lib.hid (X0.out.below hb)
        have B1 := Lib.hid (Below.then_ B0.out hb)
        clear hb c0 z0
        have c1 := blk_cell X1.out
        have z1 := lt_of_block X1.out
        go_wp2_with fail
        refine (HIs.out w1).mono ?_
        rintro e w2 ⟨rfl, hb⟩
        have B2 := Lib.hid (Below.then_ B1.out hb)
        clear hb c1 z1
        go_wp2_with fail
        refine (HA.out w2).mono ?_
        rintro e w3 ⟨rfl, hb⟩
        have B3 := Lib.hid (Below.then_ B2.out hb)
        clear hb
        go_wp2_with fail
        exact bodyPost_ret (v := .bool true) (by simp only [results, Tryz.results3]; go_simp) rfl ⟨rfl, B3.out⟩
    · rw [hz] at HIs
      obtain ⟨a, b, rfl, rfl⟩ := newS_nat hz
      have HN := Lib.hid (fun W => sensor_New W a b k ⟨me, kids, wait⟩ ep hkids hz)
      have HR := Lib.hid (fun W => ref31_New W a k b ⟨me, kids, wait⟩ ep)
      have HL := Lib.hid (fun W g F h => law31_like W g b a (senNew a k b ⟨me, kids, wait⟩ ep) [] F none 0 h .nil (SenOk.new hz) (by simp))
      unfold confV plcV at HN
      unfold confV at HR
      dsimp only at HN HR
      simp only [List.length_nil] at HL
      generalize senNew a k b ⟨me, kids, wait⟩ ep = sn at HN HR HL
      clear hz
      go_enter Tryz.func3, Tryz.ntmps3
      rcases hg with hg | ⟨hg, hg2⟩
      all_goals
        go_upto_region 3 with fail
        generalize w.alloc (.cells #[.int .i64 a, .int .i64 k, .int .i64 b, .int .i64 me, .int .i64 wait, .int .i64 ep, .int .u64 kids] 26) = W0 at X0 B0 ⊢
        have c0 := blk_cell X0.out
        have z0 := lt_of_block X0.out
        go_wp2_with fail
        refine (HN.out W0).mono ?_
        rintro e w1 ⟨g, F, rfl, hs, hF, hb⟩
        have X1 := Lib.hid (X0.out.below hb)
        have B1 := Lib.hid (Below.then_ B0.out hb)
        have S1 := Lib.hid hs
        clear hb hs hF c0 z0
        have c1 := blk_cell X1.out
        have z1 := lt_of_block X1.out
        go_wp2_with fail
        refine (HIs.out w1).mono ?_
        rintro e w2 ⟨rfl, hb⟩
        have X2 := Lib.hid (X1.out.below hb)
        have B2 := Lib.hid (Below.then_ B1.out hb)
        have S2 := Lib.hid (S1.out.below hb)
        clear hb c1 z1
        have c2 := blk_cell X2.out
        have z2 := lt_of_block X2.out
        go_wp2_with fail
        refine (HR.out w2).mono ?_
        rintro e w3 ⟨rfl, hb⟩
        have B3 := Lib.hid (Below.then_ B2.out hb)
        have S3 := Lib.hid (S2.out.below hb)
        clear hb c2 z2
        go_wp2_with fail
        refine (HL.out w3 g F S3.out).mono ?_
        rintro e w4 ⟨rfl, hb⟩
        have B4 := Lib.hid (Below.then_ B3.out hb)
        clear hb
        go_wp2_with fail
        refine (HA.out w4).mono ?_
        rintro e w5 ⟨rfl, hb⟩
        have B5 := Lib.hid (Below.then_ B4.out hb)
        clear hb
        go_wp2_with fail
        exact bodyPost_ret (v := .bool true) (by simp only [results, Tryz.results3]; go_simp) rfl ⟨rfl, B5.out⟩
end Go.Proofs.YtgjaopfjffncbaaGreat
