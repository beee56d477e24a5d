/- The reference of layer 1 (reckon): digits multiplied, compared, divided. -/
import Derived.Test.YtalnhdfgjjhhbaaDigits
namespace Go.Proofs.Ytalnhdfgjjhhbaa
open Go.ChangeShapes Go.WideShapes Go.ChangeAt Go.RowKit
set_option linter.unusedVariables false

theorem times_step {V m x y p q j : Nat} (a : List Nat) (hx : x = dg a q) (hp : p = x * y) (h : V + m * 1000 ^ (j + q) = valD (a.take q) * (y * 1000 ^ j)) :
    V + (m + p) * 1000 ^ (j + q) = valD (a.take (q + 1)) * (y * 1000 ^ j) := by
  rw [valD_take_succ, ← hx, Nat.add_mul, Nat.add_mul, ← h, hp]
  have e : x * 1000 ^ q * (y * 1000 ^ j) = x * y * 1000 ^ (j + q) := by
    rw [Nat.pow_add, Nat.mul_comm (1000 ^ j), Nat.mul_mul_mul_comm]
  rw [e, Nat.add_assoc]
theorem times_row {T V y j : Nat} (A : Nat) (b : List Nat) (hy : y = dg b j) (hT : T = A * valD (b.take j)) (hV : V = A * (y * 1000 ^ j)) : T + V = A * valD (b.take (j + 1)) := by
  rw [valD_take_succ, ← hy, Nat.mul_add, hT, hV]

set_option maxRecDepth 100000 in
set_option maxHeartbeats 1000000 in
theorem ref1_Times (w : World) (A B : Option Addr) (c1 c2 : Nat) (a b : List Nat) (hA : Sl w w.heap.size encD A a) (hB : Sl w w.heap.size encD B b) (ka : okD a) (kb : okD b) (la : a.length ≤ 100) (lb : b.length ≤ 100) :
    Calls Try.prog 67 #[.slice A a.length c1, .slice B b.length c2] w fun e w' => ∃ v, e = .returned v ∧ ∃ L, Own w' w.heap.size 3 encD v L ∧ okD L ∧ valD L = valD a * valD b ∧ L.length ≤ a.length + 2 * b.length + 1 ∧ Below w.heap.size w w' := by
  have HA := Lib.hid hA
  have HB := Lib.hid hB
  have KA := Lib.hid ka
  have KB := Lib.hid kb
  clear hA hB ka kb
  go_enter Try.func67, Try.ntmps67
  go_wp2_with fail
  go_loopw [5, 6] (fun t i wr => ∃ (j : Nat) (T : List Nat), i = .int .i64 j ∧ j ≤ b.length ∧ Own wr w.heap.size 3 encD t T ∧ okD T ∧ valD T = valD a * valD (b.take j) ∧ T.length ≤ a.length + 2 * j + 1 ∧ Below w.heap.size w wr) (fun _ i _ => b.length - (intOf i).toNat)
  case atStart => exact ⟨0, [], rfl, Nat.zero_le _, Own.nil _ _ _ _, okD.nil, by simp [valD], by simp, Below.refl _ _⟩
  case round =>
    obtain ⟨w1, hw1⟩ : ∃ W, W = wr := ⟨_, rfl⟩
    subst hw1
    obtain ⟨j, T, rfl, hj, hT, hkT, hvT, hlT, hW⟩ := hrel
    have HT := Lib.hid hT
    have KT := Lib.hid hkT
    have VT := Lib.hid hvT
    have hs := hW.size
    have HAr := Lib.hid (HA.out.keep (B' := w1.heap.size) hs fun p hp => hW.cell hp)
    have HBr := Lib.hid (HB.out.keep (B' := w1.heap.size) hs fun p hp => hW.cell hp)
    clear hT hkT hvT
    by_cases hlt : j < b.length
    · obtain ⟨bb, off, rfl, hbb, hc⟩ := HBr.out.at_ hlt
      have d0 := hc 0 (.int .i64 b[j]) rfl
      simp only [Nat.add_zero, Nat.mul_one] at d0
      rw [← dg_at hlt] at d0
      have hy := dg_le KB.out j
      have VT2 : Hid (∀ V, V = valD a * (dg b j * 1000 ^ j) → valD T + V = valD a * valD (b.take (j + 1))) := Lib.hid fun V h => times_row (T := valD T) (V := V) (j := j) (valD a) b rfl VT.out h
      generalize dg b j = y at d0 hy VT2
      have hj1 : j ≤ 100 := by omega
      clear hc
      go_wp2_with fail
      go_loopw [7, 8] (fun v i w2 => ∃ k : Nat, k ≤ j ∧ i = .int .i64 k ∧ Own w2 w1.heap.size 3 encD v (List.replicate k 0) ∧ Below w1.heap.size w1 w2) (fun _ i _ => j - (intOf i).toNat)
      case atStart => exact ⟨0, Nat.zero_le _, rfl, Own.nil _ _ _ _, Below.refl _ _⟩
      case round =>
        obtain ⟨w2, hw2⟩ : ∃ W, W = wr := ⟨_, rfl⟩
        subst hw2
        obtain ⟨k, hk, rfl, hO, hW2⟩ := hrel
        have HO := Lib.hid hO
        have hs2 := hW2.size
        clear hO
        by_cases hkj : k < j
        · go_wp2_with ((at_builtin; refine wpList_push tyZ rfl _ _ rfl encD w2 w1.heap.size u7 _ rfl HO.out 0 (by go_simp) rfl ?c1 ?c2 ?c3 ?c4))
          case c1 => simp; omega
          case c2 => simp [maxLen]; omega
          case c3 => exact hs2
          case c4 =>
            intro v' w3 hown3 hgrow _ hlies hb3 _
            rw [zeros_snoc] at hown3
            have HO3 := Lib.hid hown3
            clear hown3
            have W3 := Below.trans hW2 hb3
            go_wp2_with fail
            go_roundw
            case rel => exact ⟨k + 1, by omega, by go_num, HO3.out, W3⟩
            case measure => simp [intOf]; omega
        · obtain rfl : k = j := by omega
          go_wp2_with fail
          go_loopw [7, 9, 10] (fun v c i w3 => ∃ (m q : Nat) (L : List Nat), c = .int .i64 m ∧ i = .int .i64 q ∧ Own w3 w1.heap.size 3 encD v L ∧ okD L ∧ L.length = k + q ∧ valD L + m * 1000 ^ (k + q) = valD (a.take q) * (y * 1000 ^ k) ∧ m ≤ 999 ∧ (q ≤ a.length ∨ (q = a.length + 1 ∧ m = 0)) ∧ Below w1.heap.size w1 w3) (fun _ _ i _ => a.length + 2 - (intOf i).toNat)
          case atStart => exact ⟨0, 0, _, rfl, rfl, HO.out, okD.zeros _, by simp, by simp [valD, valD_zeros], by omega, .inl (Nat.zero_le _), hW2⟩
          case round =>
            obtain ⟨w3, hw3⟩ : ∃ W, W = wr := ⟨_, rfl⟩
            subst hw3
            obtain ⟨m, q, L, rfl, rfl, hO3, hk3, hl3, hv3, hm, hq, hW3⟩ := hrel
            have HO3 := Lib.hid hO3
            have HK3 := Lib.hid hk3
            have HL3 := Lib.hid hl3
            have hs3 := hW3.size
            have W3w : Below w.heap.size w w3 := hW.trans (hW3.mono hs)
            have ll : L.length ≤ 300 := by omega
            clear hO3 hk3 hl3
            by_cases hc : q < a.length ∨ 0 < m
            · have hq1 : q ≤ a.length := by omega
              have HSA := Lib.hid (HAr.out.keep (B' := w3.heap.size) hs3 fun p hp => hW3.cell hp)
              have d1 := (hW3.cell (p := ⟨bb, off + k, none⟩) hbb).trans d0
              have zb := Nat.lt_of_lt_of_le hbb hs3
              have DA := Lib.hid (ref1_digit · A c1 a q · (by omega) (by omega))
              have hx := dg_le KA.out q
              have HN : Hid (∀ p, p = dg a q * y → valD L + (m + p) * 1000 ^ (k + q) = valD (a.take (q + 1)) * (y * 1000 ^ k)) := Lib.hid fun p hp => times_step a rfl hp hv3
              have HX := Lib.hid (fun h : a.length ≤ q => dg_out (l := a) h)
              generalize dg a q = x at hx DA HN HX
              obtain ⟨p, hp⟩ : ∃ p, p = x * y := ⟨_, rfl⟩
              have hp9 : p ≤ 999 * 999 := by rw [hp]; exact Nat.mul_le_mul hx hy
              have hp0 : x = 0 → p = 0 := fun h => by rw [hp, h, Nat.zero_mul]
              have e0 : (x : Int) * (y : Int) = (p : Int) := by rw [hp]; push_cast; rfl
              obtain ⟨t, ht⟩ : ∃ t, t = m + p := ⟨_, rfl⟩
              obtain ⟨r, hr⟩ : ∃ r, r = t % 1000 := ⟨_, rfl⟩
              obtain ⟨n, hn⟩ : ∃ n, n = t / 1000 := ⟨_, rfl⟩
              have e1 : (m : Int) + (p : Int) = (t : Int) := by omega
              have e2 : (t : Int) % 1000 = (r : Int) := by omega
              have e3 : (t : Int) / 1000 = (n : Int) := by omega
              have HN2 := Lib.hid (digit_step (HN.out p hp))
              rw [← ht, ← hr, ← hn] at HN2
              have hr9 : r ≤ 999 := by omega
              have hn9 : n ≤ 999 := by omega
              have ht9 : t ≤ 1000000 := by omega
              have HZ : Hid (n = 0 ∨ q < a.length) := Lib.hid (by
                by_cases h : q < a.length
                · exact .inr h
                · have := hp0 (HX.out (by omega))
                  left; omega)
              clear hv3 hp hp0 hr hn ht
              rcases (show q < a.length ∨ (¬ q < a.length ∧ 0 < m) by omega) with h1 | ⟨h1, h2⟩
              all_goals (
                clear hc hq
                go_wp2_with fail
                refine wp_region_ext (by kernel_rfl) (by kernel_rfl) ?_
                repeat (go_big_quiet_step ((go_at_call 90; exact quiet_ext (DA.out _ (HSA.out.keep (ext_below _ _).size fun p hp => (ext_below _ _).cell hp)))))
                refine wpQuiet_nil ?_
                intro w4 hb4
                replace hb4 := below_of_ext hb4
                have B4 : Below w.heap.size w w4 := Below.then_ (by repeat (first | with_reducible exact Below.refl _ _ | with_reducible assumption | ((with_reducible refine Below.setCell ?_ ?_ _); rotate_left; · (first | omega | exact Nat.le_refl _ | (simp <;> omega))) | (with_reducible refine Below.allocW ?_ _) | (with_reducible refine Below.drew ?_) | (with_reducible refine Below.extW ?_ _))) hb4
                have s4 : w.heap.size ≤ w4.heap.size := B4.size
                have O4 := Lib.hid (HO3.out.below hb4)
                have W4 := hW3.trans (hb4.mono hs3)
                clear B4
                go_wp2_with ((at_builtin; refine wpList_push tyZ rfl _ _ rfl encD w4 w1.heap.size u7 _ rfl O4.out r (by go_simp) rfl ?c1 ?c2 ?c3 ?c4))
                case c1 => omega
                case c2 => simp only [maxLen]; omega
                case c3 => exact W4.size
                case c4 =>
                  intro v' w5 hown5 hgrow _ hlies hb5 _
                  have HO5 := Lib.hid hown5
                  clear hown5
                  have W5 := Below.trans W4 hb5
                  go_wp2_with fail
                  go_roundw
                  case rel => exact ⟨n, q + 1, L ++ [r], by go_num, by go_num, HO5.out, HK3.out.snoc hr9, by rw [List.length_append, HL3.out]; rfl, by rw [valD_snoc, HL3.out]; exact HN2.out, hn9, by have := HZ.out; omega, W5⟩
                  case measure => simp [intOf]; omega)
            · have h1 : ¬ q < a.length := by omega
              obtain rfl : m = 0 := by omega
              have HV3 := Lib.hid (VT2.out (valD L) (by rw [List.take_of_length_le (by omega)] at hv3; omega))
              have hl9 : L.length ≤ a.length + k + 1 := by have := HL3.out; omega
              clear hc hv3
              have OT := Lib.hid (HT.out.below hW3)
              obtain ⟨A1, cp1, rfl, _, _, hS1, _⟩ := OT.out.form
              obtain ⟨A2, cp2, rfl, _, _, hS2, _⟩ := HO3.out.form
              have HS1 := Lib.hid hS1
              have HS2 := Lib.hid hS2
              clear hS1 hS2
              go_wp2_with fail
              refine (ref1_Sum _ A1 A2 cp1 cp2 T L HS1.out HS2.out KT.out HK3.out (by omega) (by omega)).mono ?_
              rintro e w4 ⟨v4, L4, rfl, ho4, k4, e4, l4, hb4⟩
              have HO4 := Lib.hid (ho4.base_le (b := w.heap.size) (by omega))
              have K4 := Lib.hid k4
              have E4 := Lib.hid (e4.trans HV3.out)
              have W4 := (hW.trans (hW3.mono hs)).trans (hb4.mono (by omega))
              have ll4 : L4.length ≤ a.length + 2 * (k + 1) + 1 := by omega
              clear ho4 k4 e4 l4
              go_wp2_with fail
              go_roundw
              case rel => exact ⟨k + 1, L4, by go_num, by omega, HO4.out, K4.out, E4.out, ll4, W4⟩
              case measure => simp [intOf]; omega
    · obtain rfl : j = b.length := by omega
      have HV2 := Lib.hid (show valD T = valD a * valD b by have := VT.out; rw [List.take_of_length_le (by omega)] at this; exact this)
      go_wp2_with fail
      go_ret
      exact ⟨_, rfl, _, HT.out, KT.out, HV2.out, hlT, hW⟩

/-- Which of two numbers is the lesser. -/
def cmpV (x y : Nat) : Int := if x < y then -1 else if y < x then 1 else 0
theorem cmpV_le (x y : Nat) : (cmpV x y ≤ 0) ↔ x ≤ y := by unfold cmpV; split <;> (try split) <;> omega
theorem cmpV_lt (x y : Nat) : (cmpV x y < 0) ↔ x < y := by unfold cmpV; split <;> (try split) <;> omega
theorem cmpV_range (x y : Nat) : -1 ≤ cmpV x y ∧ cmpV x y ≤ 1 := by unfold cmpV; split <;> (try split) <;> omega
theorem cmpV_eq {x y : Nat} (h : x = y) : cmpV x y = 0 := by unfold cmpV; rw [if_neg (by omega), if_neg (by omega)]
theorem cmpV_less {x y : Nat} (h : x < y) : cmpV x y = -1 := if_pos h
theorem cmpV_more {x y : Nat} (h : y < x) : cmpV x y = 1 := by unfold cmpV; rw [if_neg (by omega), if_pos h]
theorem less_digit {X Y : Nat} {a b : List Nat} (ka : okD a) {p : Nat} (h : X + valD (b.take (p + 1)) = Y + valD (a.take (p + 1))) (hx : dg a p < dg b p) : X < Y := by
  rw [valD_take_succ, valD_take_succ] at h
  have h1 := valD_take_lt ka p
  have h2 : (dg a p + 1) * 1000 ^ p ≤ dg b p * 1000 ^ p := Nat.mul_le_mul_right _ hx
  rw [Nat.add_mul] at h2
  omega
set_option maxHeartbeats 1000000 in
theorem ref1_Less (w : World) (A B : Option Addr) (c1 c2 : Nat) (a b : List Nat) (hA : Sl w w.heap.size encD A a) (hB : Sl w w.heap.size encD B b) (ka : okD a) (kb : okD b) (la : a.length ≤ 1000) (lb : b.length ≤ 1000) :
    Calls Try.prog 88 #[.slice A a.length c1, .slice B b.length c2] w fun e w' => e = .returned (.int .i64 (cmpV (valD a) (valD b))) ∧ Below w.heap.size w w' := by
  have HA := Lib.hid hA
  have HB := Lib.hid hB
  have KA := Lib.hid ka
  have KB := Lib.hid kb
  clear hA hB ka kb
  rcases (show a.length < b.length ∨ ¬ a.length < b.length by omega) with h0 | h0
  all_goals (
    go_enter Try.func88, Try.ntmps88
    go_wp2_with fail
    go_loopw [6] (fun i wr => ∃ (z : Int) (q : Nat), i = .int .i64 z ∧ z + 1 = q ∧ q ≤ 1000 ∧ valD a + valD (b.take q) = valD b + valD (a.take q) ∧ Below w.heap.size w wr) (fun i _ => (intOf i + 1).toNat)
    case atStart =>
      first
        | exact ⟨_, b.length, rfl, by omega, lb, by rw [List.take_of_length_le (by omega), List.take_of_length_le (by omega)]; omega, Below.refl _ _⟩
        | exact ⟨_, a.length, rfl, by omega, la, by rw [List.take_of_length_le (by omega), List.take_of_length_le (by omega)]; omega, Below.refl _ _⟩
    case round =>
      obtain ⟨z, q, rfl, hz, hq, hv, hW⟩ := hrel
      have hs := hW.size
      rcases q with _ | p
      · have hz0 : z = -1 := by omega
        subst hz0
        have HE := Lib.hid (cmpV_eq (show valD a = valD b by simpa [valD] using hv))
        clear hv
        go_wp2_with fail
        go_ret
        exact ⟨by rw [HE.out]; rfl, hW⟩
      · obtain rfl : z = (p : Int) := by omega
        have HA1 := Lib.hid (HA.out.keep (B' := wr.heap.size) hs fun p hp => hW.cell hp)
        have HB1 := Lib.hid (HB.out.keep (B' := wr.heap.size) hs fun p hp => hW.cell hp)
        have DA := Lib.hid (ref1_digit · A c1 a p · (by omega) (by omega))
        have DB := Lib.hid (ref1_digit · B c2 b p · (by omega) (by omega))
        have hx := dg_le KA.out p
        have hy := dg_le KB.out p
        have H1 := Lib.hid (fun h => cmpV_less (less_digit KA.out hv h))
        have H2 := Lib.hid (fun h => cmpV_more (less_digit KB.out hv.symm h))
        have H3 : Hid (dg a p = dg b p → valD a + valD (b.take p) = valD b + valD (a.take p)) := Lib.hid fun h => by
          rw [valD_take_succ, valD_take_succ, h] at hv; omega
        clear hv
        generalize dg a p = x at hx DA H1 H2 H3
        generalize dg b p = y at hy DB H1 H2 H3
        rcases (show x < y ∨ (¬ x < y ∧ y < x) ∨ (¬ x < y ∧ ¬ y < x) by omega) with h1 | ⟨h1, h2⟩ | ⟨h1, h2⟩
        · have HE := Lib.hid (H1.out h1)
          go_wp2_with fail
          refine (DA.out _ HA1.out).mono ?_
          rintro e w1 ⟨rfl, hb1⟩
          have B1 : Below w.heap.size w w1 := Below.then_ (by repeat (first | with_reducible exact Below.refl _ _ | with_reducible assumption | ((with_reducible refine Below.setCell ?_ ?_ _); rotate_left; · (first | omega | exact Nat.le_refl _ | (simp <;> omega))) | (with_reducible refine Below.allocW ?_ _) | (with_reducible refine Below.drew ?_) | (with_reducible refine Below.extW ?_ _))) hb1
          have s1 : w.heap.size ≤ w1.heap.size := B1.size
          go_wp2_with fail
          refine (DB.out _ (HB1.out.keep hb1.size fun p hp => hb1.cell hp)).mono ?_
          rintro e w2 ⟨rfl, hb2⟩
          have B2 : Below w.heap.size w w2 := Below.then_ (by repeat (first | with_reducible exact Below.refl _ _ | with_reducible assumption | ((with_reducible refine Below.setCell ?_ ?_ _); rotate_left; · (first | omega | exact Nat.le_refl _ | (simp <;> omega))) | (with_reducible refine Below.allocW ?_ _) | (with_reducible refine Below.drew ?_) | (with_reducible refine Below.extW ?_ _))) hb2
          have s2 : w.heap.size ≤ w2.heap.size := B2.size
          go_wp2_with fail
          go_ret
          exact ⟨by rw [HE.out]; rfl, B2⟩
        · have HE := Lib.hid (H2.out h2)
          go_wp2_with fail
          refine (DA.out _ HA1.out).mono ?_
          rintro e w1 ⟨rfl, hb1⟩
          have B1 : Below w.heap.size w w1 := Below.then_ (by repeat (first | with_reducible exact Below.refl _ _ | with_reducible assumption | ((with_reducible refine Below.setCell ?_ ?_ _); rotate_left; · (first | omega | exact Nat.le_refl _ | (simp <;> omega))) | (with_reducible refine Below.allocW ?_ _) | (with_reducible refine Below.drew ?_) | (with_reducible refine Below.extW ?_ _))) hb1
          have s1 : w.heap.size ≤ w1.heap.size := B1.size
          go_wp2_with fail
          refine (DB.out _ (HB1.out.keep hb1.size fun p hp => hb1.cell hp)).mono ?_
          rintro e w2 ⟨rfl, hb2⟩
          have B2 : Below w.heap.size w w2 := Below.then_ (by repeat (first | with_reducible exact Below.refl _ _ | with_reducible assumption | ((with_reducible refine Below.setCell ?_ ?_ _); rotate_left; · (first | omega | exact Nat.le_refl _ | (simp <;> omega))) | (with_reducible refine Below.allocW ?_ _) | (with_reducible refine Below.drew ?_) | (with_reducible refine Below.extW ?_ _))) hb2
          have s2 : w.heap.size ≤ w2.heap.size := B2.size
          have W2 : Below wr.heap.size wr w2 := hb1.trans (hb2.mono hb1.size)
          go_wp2_with fail
          refine (DA.out _ (HA1.out.keep W2.size fun p hp => W2.cell hp)).mono ?_
          rintro e w3 ⟨rfl, hb3⟩
          have B3 : Below w.heap.size w w3 := Below.then_ (by repeat (first | with_reducible exact Below.refl _ _ | with_reducible assumption | ((with_reducible refine Below.setCell ?_ ?_ _); rotate_left; · (first | omega | exact Nat.le_refl _ | (simp <;> omega))) | (with_reducible refine Below.allocW ?_ _) | (with_reducible refine Below.drew ?_) | (with_reducible refine Below.extW ?_ _))) hb3
          have s3 : w.heap.size ≤ w3.heap.size := B3.size
          have W3 : Below wr.heap.size wr w3 := W2.trans (hb3.mono W2.size)
          go_wp2_with fail
          refine (DB.out _ (HB1.out.keep W3.size fun p hp => W3.cell hp)).mono ?_
          rintro e w4 ⟨rfl, hb4⟩
          have B4 : Below w.heap.size w w4 := Below.then_ (by repeat (first | with_reducible exact Below.refl _ _ | with_reducible assumption | ((with_reducible refine Below.setCell ?_ ?_ _); rotate_left; · (first | omega | exact Nat.le_refl _ | (simp <;> omega))) | (with_reducible refine Below.allocW ?_ _) | (with_reducible refine Below.drew ?_) | (with_reducible refine Below.extW ?_ _))) hb4
          have s4 : w.heap.size ≤ w4.heap.size := B4.size
          go_wp2_with fail
          go_ret
          exact ⟨by rw [HE.out]; rfl, B4⟩
        · have HE := Lib.hid (H3.out (by omega))
          go_wp2_with fail
          refine (DA.out _ HA1.out).mono ?_
          rintro e w1 ⟨rfl, hb1⟩
          have B1 : Below w.heap.size w w1 := Below.then_ (by repeat (first | with_reducible exact Below.refl _ _ | with_reducible assumption | ((with_reducible refine Below.setCell ?_ ?_ _); rotate_left; · (first | omega | exact Nat.le_refl _ | (simp <;> omega))) | (with_reducible refine Below.allocW ?_ _) | (with_reducible refine Below.drew ?_) | (with_reducible refine Below.extW ?_ _))) hb1
          have s1 : w.heap.size ≤ w1.heap.size := B1.size
          go_wp2_with fail
          refine (DB.out _ (HB1.out.keep hb1.size fun p hp => hb1.cell hp)).mono ?_
          rintro e w2 ⟨rfl, hb2⟩
          have B2 : Below w.heap.size w w2 := Below.then_ (by repeat (first | with_reducible exact Below.refl _ _ | with_reducible assumption | ((with_reducible refine Below.setCell ?_ ?_ _); rotate_left; · (first | omega | exact Nat.le_refl _ | (simp <;> omega))) | (with_reducible refine Below.allocW ?_ _) | (with_reducible refine Below.drew ?_) | (with_reducible refine Below.extW ?_ _))) hb2
          have s2 : w.heap.size ≤ w2.heap.size := B2.size
          have W2 : Below wr.heap.size wr w2 := hb1.trans (hb2.mono hb1.size)
          go_wp2_with fail
          refine (DA.out _ (HA1.out.keep W2.size fun p hp => W2.cell hp)).mono ?_
          rintro e w3 ⟨rfl, hb3⟩
          have B3 : Below w.heap.size w w3 := Below.then_ (by repeat (first | with_reducible exact Below.refl _ _ | with_reducible assumption | ((with_reducible refine Below.setCell ?_ ?_ _); rotate_left; · (first | omega | exact Nat.le_refl _ | (simp <;> omega))) | (with_reducible refine Below.allocW ?_ _) | (with_reducible refine Below.drew ?_) | (with_reducible refine Below.extW ?_ _))) hb3
          have s3 : w.heap.size ≤ w3.heap.size := B3.size
          have W3 : Below wr.heap.size wr w3 := W2.trans (hb3.mono W2.size)
          go_wp2_with fail
          refine (DB.out _ (HB1.out.keep W3.size fun p hp => W3.cell hp)).mono ?_
          rintro e w4 ⟨rfl, hb4⟩
          have B4 : Below w.heap.size w w4 := Below.then_ (by repeat (first | with_reducible exact Below.refl _ _ | with_reducible assumption | ((with_reducible refine Below.setCell ?_ ?_ _); rotate_left; · (first | omega | exact Nat.le_refl _ | (simp <;> omega))) | (with_reducible refine Below.allocW ?_ _) | (with_reducible refine Below.drew ?_) | (with_reducible refine Below.extW ?_ _))) hb4
          have s4 : w.heap.size ≤ w4.heap.size := B4.size
          go_wp2_with fail
          go_roundw
          case rel => exact ⟨_, p, by go_num, by omega, by omega, HE.out, B4⟩
          case measure => simp [intOf] <;> omega)
end Go.Proofs.Ytalnhdfgjjhhbaa
