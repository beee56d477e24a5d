/-
  Texts of this proof, one behind the other: Bits, Ref20Sum, Ref20Mean, BoundSumsW.
-/
import Derived.Deep.RegionWith
import Derived.Test.YtbmmkhbdcaokkaaGreatP3
import Derived.Test.YtbmmkhbdcaokkaaGreatP5
/- Reference 1: Bits: a number of two words as digits. -/
set_option linter.unusedSimpArgs false namespace Go.Proofs.YtbmmkhbdcaokkaaGreat
open Go.ChangeShapes Go.WideShapes Go.ChangeAt Go.RowKit
set_option linter.unusedVariables false
set_option maxRecDepth 100000

theorem bits_step (x m : Nat) : x / 2 ^ m = 2 * (x / 2 ^ (m + 1)) + x / 2 ^ m % 2 := by
  rw [Nat.pow_succ, ← Nat.div_div_eq_div_mul]; omega
theorem bits_val (b x m j : Nat) (h : j = m + 1) (hj : j ≤ 64) : (b * 2 ^ (64 - j) + x / 2 ^ j) + (b * 2 ^ (64 - j) + x / 2 ^ j) + x / 2 ^ m % 2 = b * 2 ^ (64 - m) + x / 2 ^ m := by
  subst h
  have e : 64 - m = (64 - (m + 1)) + 1 := by omega
  have := bits_step x m
  rw [e, Nat.pow_succ 2 (64 - (m + 1)), ← Nat.mul_assoc b]
  omega
set_option maxHeartbeats 1000000 in
theorem ref1_Bits (w : World) (n : Nat) (hn : n < 18446744073709551616 * 18446744073709551616) :
    Calls Tryz.prog 35 #[wideV n] w fun e w' => ∃ v L, e = .returned v ∧ Own w' w.heap.size 3 encD v L ∧ okD L ∧ valD L = n ∧ L.length ≤ 300 ∧ Below w.heap.size w w' := by
  unfold wideV
  have hlo : n % 18446744073709551616 < 18446744073709551616 := Nat.mod_lt _ (by decide)
  have hhi : n / 18446744073709551616 < 18446744073709551616 := Nat.div_lt_of_lt_mul hn
  have hnn : n = n / 18446744073709551616 * 2 ^ 64 + n % 18446744073709551616 := by rw [show (2 : Nat) ^ 64 = 18446744073709551616 by decide]; omega
  generalize n % 18446744073709551616 = lo at hlo hnn ⊢
  generalize n / 18446744073709551616 = hi at hhi hnn ⊢
  have HN := Lib.hid hnn
  clear hn hnn
  go_enter Tryz.func35, Tryz.ntmps35
  go_wp2_with fail
  go_loopw [3, 4] (fun o k wr => ∃ (L : List Nat) (c : Nat), c ≤ 2 ∧ k = .int .i64 ((c : Int) - 1) ∧ Own wr (w.heap.size + 1) 3 encD o L ∧ okD L ∧ valD L = (if c = 2 then 0 else if c = 1 then hi else n) ∧ L.length ≤ 128 * (2 - c) ∧ Below (w.heap.size + 1) (w.alloc (.cells #[.int .u64 lo, .int .u64 hi] 59)) wr) (fun _ k _ => (intOf k + 1).toNat)
  case atStart => exact ⟨[], 2, Nat.le_refl _, rfl, Own.nil _ _ _ _, by simp [okD], rfl, by simp, Below.refl _ _⟩
  case round =>
    obtain ⟨L, c, hc, rfl, hown, hok, hval, hlen, hB⟩ := hrel
    have HO := Lib.hid hown
    have HK := Lib.hid hok
    have HV := Lib.hid hval
    have HB := Lib.hid hB
    have c0 := (hB.cell (p := ⟨w.heap.size, 0, none⟩) (by simp)).trans (by simp : _ = some (Value.int .u64 lo))
    have c1 := (hB.cell (p := ⟨w.heap.size, 1, none⟩) (by simp)).trans (by simp : _ = some (Value.int .u64 hi))
    clear hown hok hval hB
    by_cases hz : c = 0
    · subst hz
      have hv : valD L = n := by have := HV.out; simpa using this
      have HVn := Lib.hid hv
      clear hv
      go_wp2_with fail
      go_ret
      exact ⟨_, L, rfl, HO.out.base_le (by omega), HK.out, HVn.out, by omega, ((Below.refl w.heap.size w).alloc (Nat.le_refl _) _).trans (HB.out.mono (by omega))⟩
    · obtain ⟨b, hb⟩ : ∃ b, b = (if c = 2 then 0 else hi) := ⟨_, rfl⟩
      obtain ⟨x, hx⟩ : ∃ x, x = (if c = 2 then hi else lo) := ⟨_, rfl⟩
      have hv : valD L = b := by have := HV.out; rw [hb, this]; split <;> (try rfl); split <;> (try rfl); omega
      have hx64 : x < 18446744073709551616 := by rw [hx]; split <;> assumption
      have cx : wr.cell? ⟨w.heap.size, c - 1, none⟩ = some (.int .u64 x) := by
        rcases (show c = 1 ∨ c = 2 by omega) with rfl | rfl
        · rw [hx]; exact c0
        · rw [hx]; exact c1
      have HVb := Lib.hid hv
      have HX := Lib.hid hx
      have HBb := Lib.hid hb
      have hk : (c : Int) - 1 = ((c - 1 : Nat) : Int) := by omega
      rw [hk]
      obtain ⟨kk, hkk⟩ : ∃ kk, kk = c - 1 := ⟨_, rfl⟩
      have hk2 : kk < 2 := by omega
      have HKK := Lib.hid hkk
      rw [← hkk] at cx ⊢
      clear c0 c1 hv hx hb hk hkk HV
      go_wp2_with fail
      obtain ⟨w1, hw1⟩ : ∃ W, W = wr := ⟨_, rfl⟩
      subst hw1
      go_loopw [3, 5] (fun o i wr2 => ∃ (L2 : List Nat) (j : Nat), j ≤ 64 ∧ i = .int .i64 ((j : Int) - 1) ∧ Own wr2 (w.heap.size + 1) 3 encD o L2 ∧ okD L2 ∧ valD L2 = b * 2 ^ (64 - j) + x / 2 ^ j ∧ L2.length ≤ L.length + 2 * (64 - j) ∧ Below (w.heap.size + 1) (w.alloc (.cells #[.int .u64 lo, .int .u64 hi] 59)) wr2 ∧ wr2.cell? ⟨w.heap.size, kk, none⟩ = some (.int .u64 x)) (fun _ i _ => (intOf i + 1).toNat)
      case atStart => exact ⟨L, 64, Nat.le_refl _, rfl, HO.out, HK.out, by rw [HVb.out]; simp; omega, by omega, HB.out, cx⟩
      case round =>
        obtain ⟨L2, j, hj, rfl, hown2, hok2, hval2, hlen2, hB2, cx2⟩ := hrel
        have HO2 := Lib.hid hown2
        have HK2 := Lib.hid hok2
        have HV2 := Lib.hid hval2
        have HB2 := Lib.hid hB2
        clear hown2 hok2 hval2 hB2
        by_cases hj0 : j = 0
        · subst hj0
          have HE := Lib.hid (show valD L2 = (if kk = 2 then 0 else if kk = 1 then hi else n) by
            have h := HV2.out
            rcases (show kk = 0 ∨ kk = 1 by omega) with rfl | rfl
            · have : c = 1 := by have := HKK.out; omega
              subst this
              have e1 := HX.out
              have e2 := HBb.out
              simp at e1 e2 h ⊢
              rw [h, e1, e2, HN.out]
            · have : c = 2 := by have := HKK.out; omega
              subst this
              have e1 := HX.out
              have e2 := HBb.out
              simp at e1 e2 h ⊢
              rw [h, e1, e2]; simp)
          have hl3 : L2.length ≤ 128 * (2 - kk) := by have := HKK.out; omega
          go_wp2_with fail
          go_roundw
          case rel => exact ⟨L2, kk, by omega, rfl, HO2.out, HK2.out, HE.out, hl3, HB2.out⟩
          case measure => have := HKK.out; simp [intOf]; try omega
        · obtain ⟨m, rfl⟩ : ∃ m, j = m + 1 := ⟨j - 1, by omega⟩
          have HS := Lib.hid (bits_val b x m (m + 1) rfl hj)
          have hi' : ((m + 1 : Nat) : Int) - 1 = (m : Int) := by omega
          have hm63 : m ≤ 63 := by omega
          have hle : L2.length ≤ 300 := by omega
          rw [hi']
          obtain ⟨A, cap, rfl, _⟩ := HO2.out.form
          have sz : w.heap.size < wr.heap.size := by have := HB2.out.size; simp at this; omega
          go_wp2_with fail
          refine (ref1_Sum wr A A cap cap L2 L2 HO2.out.sl HO2.out.sl HK2.out HK2.out (by omega) (by omega)).mono ?_
          rintro e w3 ⟨v3, L3, rfl, ho3, hk3, hv3, hl3, hb3⟩
          have HO3 := Lib.hid (ho3.base_le (show w.heap.size + 1 ≤ wr.heap.size by omega))
          have HK3 := Lib.hid hk3
          have HV3 := Lib.hid hv3
          have HB3 := Lib.hid (HB2.out.trans (hb3.mono (show w.heap.size + 1 ≤ wr.heap.size by omega)))
          have cx3 := (hb3.cell (p := ⟨w.heap.size, kk, none⟩) sz).trans cx2
          have hl3' : L3.length ≤ L2.length + 1 := by omega
          clear ho3 hk3 hv3 hb3 hl3 cx2
          have hsum := HS.out
          rw [← HV2.out, ← HV3.out] at hsum
          have HSum := Lib.hid hsum
          clear hsum
          rcases (show x / 2 ^ m % 2 = 1 ∨ x / 2 ^ m % 2 = 0 by omega) with h1 | h1
          · have HE := Lib.hid (show valD L3 + 1 = b * 2 ^ (64 - m) + x / 2 ^ m by rw [← HSum.out, h1])
            have hd : (((x : Int) / 2 ^ m).tmod 2 == 1) = true := by
              rw [show ((x : Int) / 2 ^ m) = ((x / 2 ^ m : Nat) : Int) by push_cast; rfl, show (((x / 2 ^ m : Nat) : Int).tmod 2) = ((x / 2 ^ m % 2 : Nat) : Int) by rfl, h1]; rfl
            clear h1
            obtain ⟨A3, cap3, rfl, _⟩ := HO3.out.form
            go_wp2_with fail
            refine (ref1_Sum _ A3 (some ⟨w3.heap.size, 0, none⟩) cap3 1 L3 [1] (HO3.out.alloc _).sl ((sl_lit w3 encD [1] 3 _ rfl).keep (by simp) fun p hp => rfl) HK3.out (by simp [okD]) (by omega) (by simp)).mono ?_
            rintro e w4 ⟨v4, L4, rfl, ho4, hk4, hv4, hl4, hb4⟩
            have s3 : w.heap.size + 1 ≤ w3.heap.size := by have := HB3.out.size; simp at this; omega
            have HO4 := Lib.hid (ho4.base_le (b := w.heap.size + 1) (by simp; omega))
            have HB4 := Lib.hid ((HB3.out.alloc s3 _).trans (hb4.mono (by simp; omega)))
            have cx4 := (hb4.cell (p := ⟨w.heap.size, kk, none⟩) (by simp; omega)).trans ((((Below.refl w3.heap.size w3).alloc (Nat.le_refl _) _).cell (p := ⟨w.heap.size, kk, none⟩) (show w.heap.size < w3.heap.size by omega)).trans cx3)
            have HV4 := Lib.hid (show valD L4 = b * 2 ^ (64 - m) + x / 2 ^ m by rw [hv4, ← HE.out]; simp [valD])
            have HK4 := Lib.hid hk4
            have hl4' : L4.length ≤ L3.length + 1 ∨ L4.length ≤ 2 := by simpa using hl4
            clear ho4 hk4 hv4 hl4 hb4
            go_wp2_with fail
            go_roundw
            case rel => exact ⟨L4, m, by omega, rfl, HO4.out, HK4.out, HV4.out, by omega, HB4.out, cx4⟩
            case measure => simp [intOf]; try omega
          · have HE := Lib.hid (show valD L3 = b * 2 ^ (64 - m) + x / 2 ^ m by rw [← HSum.out, h1]; rfl)
            have hd : (((x : Int) / 2 ^ m).tmod 2 == 1) = false := by
              rw [show ((x : Int) / 2 ^ m) = ((x / 2 ^ m : Nat) : Int) by push_cast; rfl, show (((x / 2 ^ m : Nat) : Int).tmod 2) = ((x / 2 ^ m % 2 : Nat) : Int) by rfl, h1]; rfl
            clear h1
            go_wp2_with fail
            go_roundw
            case rel => exact ⟨L3, m, by omega, rfl, HO3.out, HK3.out, HE.out, by omega, HB3.out, cx3⟩
            case measure => simp [intOf]; try omega
end Go.Proofs.YtbmmkhbdcaokkaaGreat
/- The reference of layer 20 (bound): Sum. -/
namespace Go.Proofs.YtbmmkhbdcaokkaaGreat
open Go.ChangeShapes Go.WideShapes Go.ChangeAt Go.RowKit
set_option linter.unusedVariables false
set_option maxRecDepth 100000

theorem drew_hs (W : World) : W.drew.heap = W.heap := rfl
/-- What a reference's sum leaves: a list of digits. -/
def SumPost (n : Nat) (m : Nat) (w : World) (e : Ending) (w' : World) : Prop := ∃ v L, e = .returned v ∧ Own w' w.heap.size 3 encD v L ∧ okD L ∧ valD L = n ∧ L.length ≤ m ∧ Below w.heap.size w w'
set_option maxHeartbeats 1500000 in
theorem ref20_Sum (w : World) (k u : Int) (A : Option Addr) (cap : Nat) (l : List Nd) (b : Bool) (hS : Sl w w.heap.size encN A l) (hI : ints l) (hm : l.length ≤ 150)
    (hN : ∀ x ∈ l, 0 ≤ (endsOf u x.1).1 ∧ (endsOf u x.1).1 ≤ 281474976710655 ∧ 0 ≤ (endsOf u x.1).2.1 ∧ (endsOf u x.1).2.1 ≤ 281474976710655 ∧ 0 ≤ x.2) :
    Calls Tryz.prog 36 #[.agg #[.int .i64 k, .int .i64 u, .slice A l.length cap], .bool b] w (SumPost (sumW u b l) 200 w) := by
  have HS := Lib.hid hS
  have HI := Lib.hid hI
  have HN := Lib.hid hN
  clear hS hI hN
  go_enter Tryz.func36, Tryz.ntmps36
  go_wp2_with fail
  have K0 := Lib.hid (heap_alloc_new w (.cells #[.int .i64 k, .int .i64 u, .slice A l.length cap] 37))
  go_loopw [5, 6] (fun v i wr => ∃ (q : Nat) (L : List Nat), q ≤ l.length ∧ i = .int .i64 q ∧ wr.heap[w.heap.size]? = some (.cells #[.int .i64 k, .int .i64 u, .slice A l.length cap] 37 (0, 0)) ∧ Own wr (w.heap.size + 1) 3 encD v L ∧ okD L ∧ valD L = sumW u b (l.take q) ∧ L.length ≤ 30 + q ∧ Below (w.heap.size + 1) (w.alloc (.cells #[.int .i64 k, .int .i64 u, .slice A l.length cap] 37)) wr) (fun _ i _ => l.length - (intOf i).toNat)
  case atStart => exact ⟨0, [], Nat.zero_le _, rfl, K0.out, Own.nil _ _ _ _, okD.nil, rfl, by simp, Below.refl _ _⟩
  case round =>
    obtain ⟨j, L, hj, rfl, hm0, hown, hok, hval, hlen, hB⟩ := hrel
    have N0 := Lib.hid hm0
    have HO := Lib.hid hown
    have HK := Lib.hid hok
    have HV := Lib.hid hval
    have hBw : Below w.heap.size w wr := ((Below.refl w.heap.size w).alloc (Nat.le_refl _) _).trans (hB.mono (by omega))
    have HB := Lib.hid hB
    have hs0 := hB.size
    simp only [World.size_alloc] at hs0
    have zn0 := lt_of_block hm0
    have cb := blk_cell hm0
    by_cases hlt : j < l.length
    · obtain ⟨c, off, rfl, hc, hcl⟩ := (HS.out.below hBw).at_ hlt
      have d0 := hcl 0 (.int .i64 l[j].1) rfl
      have d1 := hcl 1 (.int .i64 l[j].2) rfl
      simp only [Nat.add_zero] at d0
      have zc : c < wr.heap.size := by omega
      have hxi := HI.out _ (List.getElem_mem hlt)
      have hxn := HN.out _ (List.getElem_mem hlt)
      have E7 := sumW_succ (l := u) (hi := b) hlt
      have i1 : (j : Int) < (l.length : Int) := by omega
      obtain ⟨x, hxe⟩ : ∃ x, x = l[j] := ⟨_, rfl⟩
      rw [← hxe] at d0 d1 hxi hxn E7
      have HE := Lib.hid (ref2_Ends · u x.1 hxi.1.2)
      obtain ⟨h1, h2, h3, h4, h5⟩ := hxn
      generalize endsOf u x.1 = t at E7 HE h1 h2 h3 h4
      obtain ⟨lo, hi, ok⟩ := t
      simp only at E7 h1 h2 h3 h4
      obtain ⟨lo, rfl⟩ := Int.eq_ofNat_of_zero_le h1
      obtain ⟨hi, rfl⟩ := Int.eq_ofNat_of_zero_le h3
      obtain ⟨x1, x2⟩ := x
      simp only at d0 d1 hxi E7 HE h5
      obtain ⟨x2, rfl⟩ := Int.eq_ofNat_of_zero_le h5
      have hx9 : x2 < 9223372036854775808 := by have := hxi.2.2; omega
      unfold endsV at HE
      obtain ⟨y, hy⟩ : ∃ y, y = (if b = true then hi else lo) := ⟨_, rfl⟩
      have hy9 : y < 9223372036854775808 := by rw [hy]; split <;> omega
      have HX := Lib.hid (ref1_Digits · y hy9)
      have HC := Lib.hid (ref1_Digits · x2 hx9)
      have EV := Lib.hid (show sumW u b (l.take (j + 1)) = sumW u b (l.take j) + y * x2 by
        rw [E7, hy]; cases b <;> simp)
      have HY := Lib.hid hy
      obtain ⟨A0, cap0, rfl, _⟩ := hown.form
      clear hcl hxe hxi hm0 hown hok hval hB hy h1 h3 h5 E7
      cases b
      all_goals (
        have ey := HY.out
        simp only [if_true, Bool.false_eq_true, if_false] at ey
        subst ey
        go_wp2_with fail
        refine wp_region_ext (by kernel_rfl) (by kernel_rfl) ?_
        repeat (go_big_quiet_step ((go_at_call 65; exact quiet_ext (HE.out _))))
        refine wpQuiet_nil ?_
        intro w1 hb1
        replace hb1 := below_of_ext hb1
        have B1 : Below w.heap.size w w1 := Below.then_ (by repeat (first | with_reducible exact Below.refl _ _ | with_reducible assumption | ((with_reducible refine Below.setCell ?_ ?_ _); rotate_left; · (first | omega | exact Nat.le_refl _ | (simp <;> omega))) | (with_reducible refine Below.allocW ?_ _) | (with_reducible refine Below.drew ?_) | (with_reducible refine Below.extW ?_ _))) hb1
        have s1 : w.heap.size ≤ w1.heap.size := B1.size
        have z1_0 : c < w1.heap.size := by have := hb1.size; (try simp at this); omega
        have y1_0 : c ≤ w1.heap.size := Nat.le_of_lt z1_0
        have c1_0 := fun o => hb1.cell (p := ⟨c, o, none⟩) (by first | omega | (simp <;> omega))
        have f1_0 := fun o => hb1.frozen (p := ⟨c, o, none⟩) (by first | omega | (simp <;> omega))
        have l0 := blk_below N0.out hb1
        have L0 := Lib.hid l0
        have cb1 := blk_cell l0
        have O1 := Lib.hid (HO.out.below hb1)
        have BB1 := Lib.hid (HB.out.trans (hb1.mono hs0))
        have zl0 := lt_of_block l0
        have e1 := (hb1.cell (p := ⟨c, off + j * 2 + 1, none⟩) zc).trans d1
        have s1' := hb1.size
        clear l0 hb1 cb
        go_wp2_with fail
        go_region_with (first
          | (go_at_call_of 93 (Value.int IntKind.i64 ((y : Nat) : Int)); refine (HX.out _).mono ?_; rintro e w2 ⟨v2, L2, rfl, o2, k2, e2, l2, hb2⟩; obtain ⟨A2, p2, rfl, _, _, S2, _⟩ := o2.form
             have BB2 : Hid (Below (w.heap.size + 1) (w.alloc (.cells #[.int .i64 k, .int .i64 u, .slice (some ⟨c, off, none⟩) l.length cap] 37)) w2) := Lib.hid (by first | exact BB3.out.trans (hb2.mono (by have := BB3.out.size; simp at this; omega)) | exact (Below.drew BB1.out).trans (hb2.mono (by (try simp only [drew_hs]); omega)))
             have O2 : Hid (Own w2 (w.heap.size + 1) 3 encD (Value.slice A0 L.length cap0) L) := Lib.hid (by first | exact O3.out.below hb2 | exact O1.out.drew.below hb2)
             try have T3' := Lib.hid (T3.out.keep hb2.size fun p hp => hb2.cell hp)
             have T2 := Lib.hid S2
             have K2 := Lib.hid k2
             have E2 := Lib.hid e2
             have c2 := fun o => hb2.cell (p := ⟨w.heap.size, o, none⟩) (by (try simp only [drew_hs]); omega)
             have f2 := fun o => hb2.cell (p := ⟨c, o, none⟩) (by (try simp only [drew_hs]); omega)
             have q2 := hb2.size
             (try simp only [drew_hs] at q2)
             clear o2 S2 k2 e2 hb2)
          | (go_at_call_of 93 (Value.int IntKind.i64 ((x2 : Nat) : Int)); refine (HC.out _).mono ?_; rintro e w3 ⟨v3, L3, rfl, o3, k3, e3, l3, hb3⟩; obtain ⟨A3, p3, rfl, _, _, S3, _⟩ := o3.form
             have BB3 : Hid (Below (w.heap.size + 1) (w.alloc (.cells #[.int .i64 k, .int .i64 u, .slice (some ⟨c, off, none⟩) l.length cap] 37)) w3) := Lib.hid (by first | exact BB2.out.trans (hb3.mono (by have := BB2.out.size; simp at this; omega)) | exact (Below.drew BB1.out).trans (hb3.mono (by (try simp only [drew_hs]); omega)))
             have O3 : Hid (Own w3 (w.heap.size + 1) 3 encD (Value.slice A0 L.length cap0) L) := Lib.hid (by first | exact O2.out.below hb3 | exact O1.out.drew.below hb3)
             try have T2' := Lib.hid (T2.out.keep hb3.size fun p hp => hb3.cell hp)
             have T3 := Lib.hid S3
             have K3 := Lib.hid k3
             have E3 := Lib.hid e3
             have c3 := fun o => hb3.cell (p := ⟨w.heap.size, o, none⟩) (by (try simp only [drew_hs]); omega)
             have f3 := fun o => hb3.cell (p := ⟨c, o, none⟩) (by (try simp only [drew_hs]); omega)
             have q3 := hb3.size
             (try simp only [drew_hs] at q3)
             clear o3 S3 k3 e3 hb3)
          | (go_at_call 92; refine (ref1_Times _ A2 A3 p2 p3 L2 L3 ?s2 ?s3 K2.out K3.out (by omega) (by omega)).mono ?_; (case s2 => first | exact T2'.out | exact T2.out); (case s3 => first | exact T3'.out | exact T3.out)
             rintro e w4 ⟨v4, rfl, L4, o4, k4, e4, l4, hb4⟩; obtain ⟨A4, p4, rfl, _, _, S4, _⟩ := o4.form
             have BB4 : Hid (Below (w.heap.size + 1) (w.alloc (.cells #[.int .i64 k, .int .i64 u, .slice (some ⟨c, off, none⟩) l.length cap] 37)) w4) := Lib.hid (by first | exact BB3.out.trans (hb4.mono (by have := BB3.out.size; simp at this; omega)) | exact BB2.out.trans (hb4.mono (by have := BB2.out.size; simp at this; omega)))
             have O4 : Hid (Own w4 (w.heap.size + 1) 3 encD (Value.slice A0 L.length cap0) L) := Lib.hid (by first | exact O3.out.below hb4 | exact O2.out.below hb4)
             have T4 := Lib.hid S4
             have K4 := Lib.hid k4
             have E4 := Lib.hid (show valD L4 = y * x2 by rw [e4, E2.out, E3.out])
             have l4' : L4.length ≤ 30 := by omega
             clear o4 S4 k4 e4 hb4 l4)
          | (go_at_call 91; refine (ref1_Sum _ A0 A4 cap0 p4 L L4 O4.out.sl T4.out HK.out K4.out (by omega) (by omega)).mono ?_
             rintro e w5 ⟨v5, L5, rfl, o5, k5, e5, l5, hb5⟩
             have BB5 := Lib.hid (BB4.out.trans (hb5.mono (by have := BB4.out.size; simp at this; omega)))
             have O5 := Lib.hid (o5.base_le (show w.heap.size + 1 ≤ w4.heap.size by have := BB4.out.size; simp at this; omega))
             have K5 := Lib.hid k5
             have E5 := Lib.hid ((e5.trans (by rw [HV.out, E4.out])).trans EV.out.symm)
             have l5' : L5.length ≤ 30 + (j + 1) := by omega
             clear o5 k5 e5 hb5 l5))
        all_goals (
          go_wp2_with fail
          go_roundw
          case rel => exact ⟨j + 1, L5, by omega, by go_num, (BB5.out.block _ (by simp)).trans K0.out, O5.out, K5.out, E5.out, l5', BB5.out⟩
          case measure => simp [intOf]; omega))
    · obtain rfl : j = l.length := by omega
      rw [List.take_length] at HV
      go_wp2_with fail
      go_ret
      exact ⟨_, _, rfl, HO.out.base_le (by omega), HK.out, HV.out, by omega, hBw⟩
end Go.Proofs.YtbmmkhbdcaokkaaGreat
/- The reference of layer 20 (bound): Mean. -/
namespace Go.Proofs.YtbmmkhbdcaokkaaGreat
open Go.ChangeShapes Go.WideShapes Go.ChangeAt Go.RowKit
set_option linter.unusedVariables false
set_option maxRecDepth 100000

set_option maxHeartbeats 2000000 in
theorem ref20_Mean (w : World) (k : Int) (l : Nat) (A : Option Addr) (cap : Nat) (r : List Nd) (hS : Sl w w.heap.size encN A r) (hI : ints r) (hm : r.length ≤ 150) (hl : l ≤ 48) (hr : Roll r) (hs : sumR r ≤ 72057594037927935) (ht : (totalOf r).1 = sumR r) (hn : ∀ x ∈ r, isNode l x.1 = true) (h0 : sumR r ≠ 0) :
    Calls Tryz.prog 38 #[.agg #[.int .i64 k, .int .i64 l, .slice A r.length cap]] w fun e w' => e = .returned (.agg #[.int .i64 (meanT l r).1, .int .i64 (meanT l r).2.1]) ∧ Below w.heap.size w w' := by
  have hN : ∀ x ∈ r, 0 ≤ (endsOf l x.1).1 ∧ (endsOf l x.1).1 ≤ 281474976710655 ∧ 0 ≤ (endsOf l x.1).2.1 ∧ (endsOf l x.1).2.1 ≤ 281474976710655 ∧ 0 ≤ x.2 := fun x hx => by
    have h1 := ends_48 hl (hn x hx)
    have h2 := (hr.2 x hx).2
    omega
  have HSu := Lib.hid (fun (b : Bool) (W : World) (h : Sl W W.heap.size encN A r) => ref20_Sum W k l A cap r b h hI hm hN)
  have HW := Lib.hid (ref13_Weight · k l A cap r · hI (by unfold maxLen; omega))
  rw [ht] at HW
  have hs0 := sumR_nonneg hr
  have b0 := sumW_le hl hr hn false
  have b1 := sumW_le hl hr hn true
  unfold meanT
  rw [if_neg h0]
  obtain ⟨c, hc⟩ : ∃ c : Nat, (sumR r).toNat = c := ⟨_, rfl⟩
  have hc' : sumR r = c := by omega
  rw [hc] at b0 b1 ⊢
  rw [hc'] at HW
  have c1 : 1 ≤ c := by omega
  have c2 : c ≤ 9223372036854775807 := by omega
  have H0 := Lib.hid (HSu.out false)
  have H1 := Lib.hid (HSu.out true)
  generalize sumW l false r = n at H0 b0 ⊢
  generalize sumW l true r = m at H1 b1 ⊢
  have q0 : n / c ≤ 281474976710655 := (Nat.div_le_iff_le_mul (by omega)).2 (by omega)
  have q1 : m / c ≤ 281474976710655 := (Nat.div_le_iff_le_mul (by omega)).2 (by omega)
  have Q0 := Lib.hid (fun W A2 cap2 p h1 h2 h3 h4 => ref1_Quot W A2 cap2 p c n h1 h2 h3 h4 c1 (by omega) (by omega))
  have Q1 := Lib.hid (fun W A2 cap2 p h1 h2 h3 h4 => ref1_Quot W A2 cap2 p c m h1 h2 h3 h4 c1 (by omega) (by omega))
  generalize n / c = u at Q0 q0 ⊢
  generalize m / c = v at Q1 q1 ⊢
  generalize decide (n % c ≠ 0) = nb at Q0
  have hB : Below w.heap.size w ((w.alloc (.cells #[.int .i64 k, .int .i64 l, .slice A r.length cap] 37)).alloc (.cells #[.int .i64 0, .int .i64 0] 29)) := (by repeat (first | with_reducible exact Below.refl _ _ | with_reducible assumption | ((with_reducible refine Below.setCell ?_ ?_ _); rotate_left; · (first | omega | exact Nat.le_refl _ | (simp <;> omega))) | (with_reducible refine Below.allocW ?_ _) | (with_reducible refine Below.drew ?_) | (with_reducible refine Below.extW ?_ _)))
  have S0 := Lib.hid (hS.keep (B' := ((w.alloc (.cells #[.int .i64 k, .int .i64 l, .slice A r.length cap] 37)).alloc (.cells #[.int .i64 0, .int .i64 0] 29)).heap.size) hB.size fun p hp => hB.cell hp)
  have K0 := Lib.hid ((Below.heap_alloc (w.alloc (.cells #[.int .i64 k, .int .i64 l, .slice A r.length cap] 37)) (.cells #[.int .i64 0, .int .i64 0] 29) w.heap.size (by simp)).trans (heap_alloc_new w _))
  have N0 := Lib.hid (bothAt.new (w.alloc (.cells #[.int .i64 k, .int .i64 l, .slice A r.length cap] 37)) 0 0)
  simp only [World.size_alloc] at N0
  have HB := Lib.hid hB
  clear hS hI hB hN hn hr hs ht h0 hs0 b0 b1 hc hc' HSu
  cases hd : decide (m % c ≠ 0)
  · rw [hd] at Q1
    simp only [decide_eq_true_eq, decide_eq_false_iff_not, ne_eq, Decidable.not_not] at hd
    rw [if_pos hd]
    clear hd
    go_enter Tryz.func38, Tryz.ntmps38
    have cc0 := blk_cell K0.out
    go_wp2_with fail
    refine wp_region_noPanic ?_
    refine wp_region_N (fun W => W.cell? ⟨w.heap.size, 0, none⟩ = some (.int .i64 k) ∧ W.cell? ⟨w.heap.size, 1, none⟩ = some (.int .i64 l) ∧ W.cell? ⟨w.heap.size, 2, none⟩ = some (.slice A r.length cap)) [] (by kernel_rfl) ⟨cc0 0, cc0 1, cc0 2⟩ (fun hHeld => ?_)
    refine wpAnyN_take (i := 0) (v := .agg #[.int .i64 k, .int .i64 l, .slice A r.length cap]) rfl (by kernel_rfl) (by kernel_rfl) (by kernel_rfl) (by kernel_rfl) (fun _ _ _ h => h) (Or.inl ⟨by rfl, fun W hW => by obtain ⟨q1, q2, q3⟩ := hW; go_simp⟩) hHeld ?_
    try simp only [Act.put, List.setIfInBounds_toArray, List.set_cons_zero, List.set_cons_succ]
    refine wpAnyN_take (i := 2) (v := .agg #[.int .i64 k, .int .i64 l, .slice A r.length cap]) rfl (by kernel_rfl) (by kernel_rfl) (by kernel_rfl) (by kernel_rfl) (fun _ _ _ h => h) (Or.inl ⟨by rfl, fun W hW => by obtain ⟨q1, q2, q3⟩ := hW; go_simp⟩) hHeld ?_
    try simp only [Act.put, List.setIfInBounds_toArray, List.set_cons_zero, List.set_cons_succ]
    refine wpAnyN_one (i := 1) (by kernel_rfl) rfl (fun K hK => ?_)
    go_simp
    refine (H0.out _ S0.out.drew).mono ?_
    rintro e w2 ⟨v2, L2, rfl, o2, k2, e2, l2, hb2⟩
    obtain ⟨A2, p2, rfl, _, _, s2', _⟩ := o2.form
    have K2 := Lib.hid (blk_below (w := World.drew _) K0.out hb2)
    have N2 := Lib.hid (N0.out.drew.below hb2)
    have S2 := Lib.hid (S0.out.drew.keep hb2.size fun p hp => hb2.cell hp)
    have HB2 := Lib.hid ((Below.drew HB.out).trans (hb2.mono (Below.drew HB.out).size))
    have T2 := Lib.hid s2'
    have C2 := Lib.hid k2
    have E2 := Lib.hid e2
    clear o2 s2' k2 e2 hb2 hHeld
    have ck2 := blk_cell K2.out
    refine hK.out _ _ (fun _ _ => ⟨ck2 0, ck2 1, ck2 2⟩) ?_
    clear hK K ck2
    try simp only [Act.put, List.setIfInBounds_toArray, List.set_cons_zero, List.set_cons_succ]
    refine wpAnyN_one (i := 3) (by kernel_rfl) rfl (fun K hK => ?_)
    go_simp
    refine (HW.out _ S2.out).mono ?_
    rintro e w3 ⟨rfl, hb3⟩
    have K3 := Lib.hid (blk_below K2.out hb3)
    have N3 := Lib.hid (N2.out.below hb3)
    have S3 := Lib.hid (S2.out.keep hb3.size fun p hp => hb3.cell hp)
    have T3 := Lib.hid (T2.out.keep hb3.size fun p hp => hb3.cell hp)
    have HB3 := Lib.hid (HB2.out.trans (hb3.mono HB2.out.size))
    clear hb3
    have ck3 := blk_cell K3.out
    refine hK.out _ _ (fun _ _ => ⟨ck3 0, ck3 1, ck3 2⟩) ?_
    clear hK K ck3
    try simp only [Act.put, List.setIfInBounds_toArray, List.set_cons_zero, List.set_cons_succ]
    refine wpAnyN_one (i := 4) (by kernel_rfl) rfl (fun K hK => ?_)
    go_simp
    refine (Q0.out _ A2 p2 L2 T3.out C2.out (by omega) E2.out).mono ?_
    rintro e w4 ⟨rfl, hb4⟩
    have K4 := Lib.hid (blk_below K3.out hb4)
    have N4 := Lib.hid (N3.out.below hb4)
    have S4 := Lib.hid (S3.out.keep hb4.size fun p hp => hb4.cell hp)
    have HB4 := Lib.hid (HB3.out.trans (hb4.mono HB3.out.size))
    clear hb4
    have ck4 := blk_cell K4.out
    refine hK.out _ _ (fun _ _ => ⟨ck4 0, ck4 1, ck4 2⟩) ?_
    clear hK K ck4
    try simp only [Act.put, List.setIfInBounds_toArray, List.set_cons_zero, List.set_cons_succ]
    refine wpAnyN_pure (i := 5) (v := .tuple #[.int .i64 u, .bool nb, .bool true]) rfl (by kernel_rfl) (by kernel_rfl) (by kernel_rfl) (fun _ _ _ h => h) (Or.inl ⟨by rfl, fun W _ => by go_simp⟩) ?_
    try simp only [Act.put, List.setIfInBounds_toArray, List.set_cons_zero, List.set_cons_succ]
    refine wpAnyN_pure (i := 6) (v := .int .i64 u) rfl (by kernel_rfl) (by kernel_rfl) (by kernel_rfl) (fun _ _ _ h => h) (Or.inl ⟨by rfl, fun W _ => by go_simp⟩) ?_
    try simp only [Act.put, List.setIfInBounds_toArray, List.set_cons_zero, List.set_cons_succ]
    refine wpAnyN_pure (i := 7) (v := .bool nb) rfl (by kernel_rfl) (by kernel_rfl) (by kernel_rfl) (fun _ _ _ h => h) (Or.inl ⟨by rfl, fun W _ => by go_simp⟩) ?_
    try simp only [Act.put, List.setIfInBounds_toArray, List.set_cons_zero, List.set_cons_succ]
    refine wpAnyN_pure (i := 8) (v := .bool true) rfl (by kernel_rfl) (by kernel_rfl) (by kernel_rfl) (fun _ _ _ h => h) (Or.inl ⟨by rfl, fun W _ => by go_simp⟩) ?_
    try simp only [Act.put, List.setIfInBounds_toArray, List.set_cons_zero, List.set_cons_succ]
    refine wpAnyN_one (i := 9) (by kernel_rfl) rfl (fun K hK => ?_)
    go_simp
    have ck4 := blk_cell K4.out
    refine hK.out _ _ (fun _ _ => ⟨ck4 0, ck4 1, ck4 2⟩) ?_
    clear hK K ck4
    try simp only [Act.put, List.setIfInBounds_toArray, List.set_cons_zero, List.set_cons_succ]
    refine wpAnyN_one (i := 10) (by kernel_rfl) rfl (fun K hK => ?_)
    go_simp
    have ck4 := blk_cell K4.out
    refine hK.out _ _ (fun _ _ => ⟨ck4 0, ck4 1, ck4 2⟩) ?_
    clear hK K ck4
    try simp only [Act.put, List.setIfInBounds_toArray, List.set_cons_zero, List.set_cons_succ]
    refine wpAnyN_one (i := 11) (by kernel_rfl) rfl (fun K hK => ?_)
    go_simp
    have ck4 := blk_cell K4.out
    refine hK.out _ _ (fun _ _ => ⟨ck4 0, ck4 1, ck4 2⟩) ?_
    clear hK K ck4
    try simp only [Act.put, List.setIfInBounds_toArray, List.set_cons_zero, List.set_cons_succ]
    refine wpAnyN_done (by kernel_rfl) ?_ _
    refine NoPanic.normal ?_
    have cc4 := blk_cell K4.out
    go_wp2_with fail
    refine wp_region_noPanic ?_
    refine wp_region_N (fun W => W.cell? ⟨w.heap.size, 0, none⟩ = some (.int .i64 k) ∧ W.cell? ⟨w.heap.size, 1, none⟩ = some (.int .i64 l) ∧ W.cell? ⟨w.heap.size, 2, none⟩ = some (.slice A r.length cap)) [] (by kernel_rfl) ⟨cc4 0, cc4 1, cc4 2⟩ (fun hHeld => ?_)
    refine wpAnyN_take (i := 0) (v := .agg #[.int .i64 k, .int .i64 l, .slice A r.length cap]) rfl (by kernel_rfl) (by kernel_rfl) (by kernel_rfl) (by kernel_rfl) (fun _ _ _ h => h) (Or.inl ⟨by rfl, fun W hW => by obtain ⟨q1, q2, q3⟩ := hW; go_simp⟩) hHeld ?_
    try simp only [Act.put, List.setIfInBounds_toArray, List.set_cons_zero, List.set_cons_succ]
    refine wpAnyN_take (i := 2) (v := .agg #[.int .i64 k, .int .i64 l, .slice A r.length cap]) rfl (by kernel_rfl) (by kernel_rfl) (by kernel_rfl) (by kernel_rfl) (fun _ _ _ h => h) (Or.inl ⟨by rfl, fun W hW => by obtain ⟨q1, q2, q3⟩ := hW; go_simp⟩) hHeld ?_
    try simp only [Act.put, List.setIfInBounds_toArray, List.set_cons_zero, List.set_cons_succ]
    refine wpAnyN_one (i := 1) (by kernel_rfl) rfl (fun K hK => ?_)
    go_simp
    refine (H1.out _ S4.out.drew).mono ?_
    rintro e w5 ⟨v5, L5, rfl, o5, k5, e5, l5, hb5⟩
    obtain ⟨A5, p5, rfl, _, _, s5', _⟩ := o5.form
    have K5 := Lib.hid (blk_below (w := World.drew _) K4.out hb5)
    have N5 := Lib.hid (N4.out.drew.below hb5)
    have S5 := Lib.hid (S4.out.drew.keep hb5.size fun p hp => hb5.cell hp)
    have HB5 := Lib.hid ((Below.drew HB4.out).trans (hb5.mono (Below.drew HB4.out).size))
    have T5 := Lib.hid s5'
    have C5 := Lib.hid k5
    have E5 := Lib.hid e5
    clear o5 s5' k5 e5 hb5 hHeld
    have ck5 := blk_cell K5.out
    refine hK.out _ _ (fun _ _ => ⟨ck5 0, ck5 1, ck5 2⟩) ?_
    clear hK K ck5
    try simp only [Act.put, List.setIfInBounds_toArray, List.set_cons_zero, List.set_cons_succ]
    refine wpAnyN_one (i := 3) (by kernel_rfl) rfl (fun K hK => ?_)
    go_simp
    refine (HW.out _ S5.out).mono ?_
    rintro e w6 ⟨rfl, hb6⟩
    have K6 := Lib.hid (blk_below K5.out hb6)
    have N6 := Lib.hid (N5.out.below hb6)
    have S6 := Lib.hid (S5.out.keep hb6.size fun p hp => hb6.cell hp)
    have T6 := Lib.hid (T5.out.keep hb6.size fun p hp => hb6.cell hp)
    have HB6 := Lib.hid (HB5.out.trans (hb6.mono HB5.out.size))
    clear hb6
    have ck6 := blk_cell K6.out
    refine hK.out _ _ (fun _ _ => ⟨ck6 0, ck6 1, ck6 2⟩) ?_
    clear hK K ck6
    try simp only [Act.put, List.setIfInBounds_toArray, List.set_cons_zero, List.set_cons_succ]
    refine wpAnyN_one (i := 4) (by kernel_rfl) rfl (fun K hK => ?_)
    go_simp
    refine (Q1.out _ A5 p5 L5 T6.out C5.out (by omega) E5.out).mono ?_
    rintro e w7 ⟨rfl, hb7⟩
    have K7 := Lib.hid (blk_below K6.out hb7)
    have N7 := Lib.hid (N6.out.below hb7)
    have S7 := Lib.hid (S6.out.keep hb7.size fun p hp => hb7.cell hp)
    have HB7 := Lib.hid (HB6.out.trans (hb7.mono HB6.out.size))
    clear hb7
    have ck7 := blk_cell K7.out
    refine hK.out _ _ (fun _ _ => ⟨ck7 0, ck7 1, ck7 2⟩) ?_
    clear hK K ck7
    try simp only [Act.put, List.setIfInBounds_toArray, List.set_cons_zero, List.set_cons_succ]
    refine wpAnyN_pure (i := 5) (v := .tuple #[.int .i64 v, .bool false, .bool true]) rfl (by kernel_rfl) (by kernel_rfl) (by kernel_rfl) (fun _ _ _ h => h) (Or.inl ⟨by rfl, fun W _ => by go_simp⟩) ?_
    try simp only [Act.put, List.setIfInBounds_toArray, List.set_cons_zero, List.set_cons_succ]
    refine wpAnyN_pure (i := 6) (v := .int .i64 v) rfl (by kernel_rfl) (by kernel_rfl) (by kernel_rfl) (fun _ _ _ h => h) (Or.inl ⟨by rfl, fun W _ => by go_simp⟩) ?_
    try simp only [Act.put, List.setIfInBounds_toArray, List.set_cons_zero, List.set_cons_succ]
    refine wpAnyN_pure (i := 7) (v := .bool false) rfl (by kernel_rfl) (by kernel_rfl) (by kernel_rfl) (fun _ _ _ h => h) (Or.inl ⟨by rfl, fun W _ => by go_simp⟩) ?_
    try simp only [Act.put, List.setIfInBounds_toArray, List.set_cons_zero, List.set_cons_succ]
    refine wpAnyN_pure (i := 8) (v := .bool true) rfl (by kernel_rfl) (by kernel_rfl) (by kernel_rfl) (fun _ _ _ h => h) (Or.inl ⟨by rfl, fun W _ => by go_simp⟩) ?_
    try simp only [Act.put, List.setIfInBounds_toArray, List.set_cons_zero, List.set_cons_succ]
    refine wpAnyN_one (i := 9) (by kernel_rfl) rfl (fun K hK => ?_)
    go_simp
    have ck7 := blk_cell K7.out
    refine hK.out _ _ (fun _ _ => ⟨ck7 0, ck7 1, ck7 2⟩) ?_
    clear hK K ck7
    try simp only [Act.put, List.setIfInBounds_toArray, List.set_cons_zero, List.set_cons_succ]
    refine wpAnyN_one (i := 10) (by kernel_rfl) rfl (fun K hK => ?_)
    go_simp
    have ck7 := blk_cell K7.out
    refine hK.out _ _ (fun _ _ => ⟨ck7 0, ck7 1, ck7 2⟩) ?_
    clear hK K ck7
    try simp only [Act.put, List.setIfInBounds_toArray, List.set_cons_zero, List.set_cons_succ]
    refine wpAnyN_one (i := 11) (by kernel_rfl) rfl (fun K hK => ?_)
    go_simp
    have ck7 := blk_cell K7.out
    refine hK.out _ _ (fun _ _ => ⟨ck7 0, ck7 1, ck7 2⟩) ?_
    clear hK K ck7
    try simp only [Act.put, List.setIfInBounds_toArray, List.set_cons_zero, List.set_cons_succ]
    refine wpAnyN_done (by kernel_rfl) ?_ _
    refine NoPanic.normal ?_
    have n7 := N7.out
    have HB7 := HB7.out
    have cn7 := blk_cell n7
    have fn7 := blk_frozen n7
    have zn7 := lt_of_block n7
    clear n7
    go_wp2_with fail
    first
      | exact bodyPost_ret (v := .agg #[.int .i64 u, .int .i64 (v + 0 : Nat)]) (by simp only [results, Tryz.results38]; go_simp) rfl ⟨rfl, (by repeat (first | with_reducible exact Below.refl _ _ | with_reducible assumption | ((with_reducible refine Below.setCell ?_ ?_ _); rotate_left; · (first | omega | exact Nat.le_refl _ | (simp <;> omega))) | (with_reducible refine Below.allocW ?_ _) | (with_reducible refine Below.drew ?_) | (with_reducible refine Below.extW ?_ _)))⟩
      | exact bodyPost_ret (v := .agg #[.int .i64 u, .int .i64 (v + 1 : Nat)]) (by simp only [results, Tryz.results38]; go_simp) rfl ⟨rfl, (by repeat (first | with_reducible exact Below.refl _ _ | with_reducible assumption | ((with_reducible refine Below.setCell ?_ ?_ _); rotate_left; · (first | omega | exact Nat.le_refl _ | (simp <;> omega))) | (with_reducible refine Below.allocW ?_ _) | (with_reducible refine Below.drew ?_) | (with_reducible refine Below.extW ?_ _)))⟩
  · rw [hd] at Q1
    simp only [decide_eq_true_eq, decide_eq_false_iff_not, ne_eq, Decidable.not_not] at hd
    rw [if_neg hd]
    clear hd
    go_enter Tryz.func38, Tryz.ntmps38
    have cc0 := blk_cell K0.out
    go_wp2_with fail
    refine wp_region_noPanic ?_
    refine wp_region_N (fun W => W.cell? ⟨w.heap.size, 0, none⟩ = some (.int .i64 k) ∧ W.cell? ⟨w.heap.size, 1, none⟩ = some (.int .i64 l) ∧ W.cell? ⟨w.heap.size, 2, none⟩ = some (.slice A r.length cap)) [] (by kernel_rfl) ⟨cc0 0, cc0 1, cc0 2⟩ (fun hHeld => ?_)
    refine wpAnyN_take (i := 0) (v := .agg #[.int .i64 k, .int .i64 l, .slice A r.length cap]) rfl (by kernel_rfl) (by kernel_rfl) (by kernel_rfl) (by kernel_rfl) (fun _ _ _ h => h) (Or.inl ⟨by rfl, fun W hW => by obtain ⟨q1, q2, q3⟩ := hW; go_simp⟩) hHeld ?_
    try simp only [Act.put, List.setIfInBounds_toArray, List.set_cons_zero, List.set_cons_succ]
    refine wpAnyN_take (i := 2) (v := .agg #[.int .i64 k, .int .i64 l, .slice A r.length cap]) rfl (by kernel_rfl) (by kernel_rfl) (by kernel_rfl) (by kernel_rfl) (fun _ _ _ h => h) (Or.inl ⟨by rfl, fun W hW => by obtain ⟨q1, q2, q3⟩ := hW; go_simp⟩) hHeld ?_
    try simp only [Act.put, List.setIfInBounds_toArray, List.set_cons_zero, List.set_cons_succ]
    refine wpAnyN_one (i := 1) (by kernel_rfl) rfl (fun K hK => ?_)
    go_simp
    refine (H0.out _ S0.out.drew).mono ?_
    rintro e w2 ⟨v2, L2, rfl, o2, k2, e2, l2, hb2⟩
    obtain ⟨A2, p2, rfl, _, _, s2', _⟩ := o2.form
    have K2 := Lib.hid (blk_below (w := World.drew _) K0.out hb2)
    have N2 := Lib.hid (N0.out.drew.below hb2)
    have S2 := Lib.hid (S0.out.drew.keep hb2.size fun p hp => hb2.cell hp)
    have HB2 := Lib.hid ((Below.drew HB.out).trans (hb2.mono (Below.drew HB.out).size))
    have T2 := Lib.hid s2'
    have C2 := Lib.hid k2
    have E2 := Lib.hid e2
    clear o2 s2' k2 e2 hb2 hHeld
    have ck2 := blk_cell K2.out
    refine hK.out _ _ (fun _ _ => ⟨ck2 0, ck2 1, ck2 2⟩) ?_
    clear hK K ck2
    try simp only [Act.put, List.setIfInBounds_toArray, List.set_cons_zero, List.set_cons_succ]
    refine wpAnyN_one (i := 3) (by kernel_rfl) rfl (fun K hK => ?_)
    go_simp
    refine (HW.out _ S2.out).mono ?_
    rintro e w3 ⟨rfl, hb3⟩
    have K3 := Lib.hid (blk_below K2.out hb3)
    have N3 := Lib.hid (N2.out.below hb3)
    have S3 := Lib.hid (S2.out.keep hb3.size fun p hp => hb3.cell hp)
    have T3 := Lib.hid (T2.out.keep hb3.size fun p hp => hb3.cell hp)
    have HB3 := Lib.hid (HB2.out.trans (hb3.mono HB2.out.size))
    clear hb3
    have ck3 := blk_cell K3.out
    refine hK.out _ _ (fun _ _ => ⟨ck3 0, ck3 1, ck3 2⟩) ?_
    clear hK K ck3
    try simp only [Act.put, List.setIfInBounds_toArray, List.set_cons_zero, List.set_cons_succ]
    refine wpAnyN_one (i := 4) (by kernel_rfl) rfl (fun K hK => ?_)
    go_simp
    refine (Q0.out _ A2 p2 L2 T3.out C2.out (by omega) E2.out).mono ?_
    rintro e w4 ⟨rfl, hb4⟩
    have K4 := Lib.hid (blk_below K3.out hb4)
    have N4 := Lib.hid (N3.out.below hb4)
    have S4 := Lib.hid (S3.out.keep hb4.size fun p hp => hb4.cell hp)
    have HB4 := Lib.hid (HB3.out.trans (hb4.mono HB3.out.size))
    clear hb4
    have ck4 := blk_cell K4.out
    refine hK.out _ _ (fun _ _ => ⟨ck4 0, ck4 1, ck4 2⟩) ?_
    clear hK K ck4
    try simp only [Act.put, List.setIfInBounds_toArray, List.set_cons_zero, List.set_cons_succ]
    refine wpAnyN_pure (i := 5) (v := .tuple #[.int .i64 u, .bool nb, .bool true]) rfl (by kernel_rfl) (by kernel_rfl) (by kernel_rfl) (fun _ _ _ h => h) (Or.inl ⟨by rfl, fun W _ => by go_simp⟩) ?_
    try simp only [Act.put, List.setIfInBounds_toArray, List.set_cons_zero, List.set_cons_succ]
    refine wpAnyN_pure (i := 6) (v := .int .i64 u) rfl (by kernel_rfl) (by kernel_rfl) (by kernel_rfl) (fun _ _ _ h => h) (Or.inl ⟨by rfl, fun W _ => by go_simp⟩) ?_
    try simp only [Act.put, List.setIfInBounds_toArray, List.set_cons_zero, List.set_cons_succ]
    refine wpAnyN_pure (i := 7) (v := .bool nb) rfl (by kernel_rfl) (by kernel_rfl) (by kernel_rfl) (fun _ _ _ h => h) (Or.inl ⟨by rfl, fun W _ => by go_simp⟩) ?_
    try simp only [Act.put, List.setIfInBounds_toArray, List.set_cons_zero, List.set_cons_succ]
    refine wpAnyN_pure (i := 8) (v := .bool true) rfl (by kernel_rfl) (by kernel_rfl) (by kernel_rfl) (fun _ _ _ h => h) (Or.inl ⟨by rfl, fun W _ => by go_simp⟩) ?_
    try simp only [Act.put, List.setIfInBounds_toArray, List.set_cons_zero, List.set_cons_succ]
    refine wpAnyN_one (i := 9) (by kernel_rfl) rfl (fun K hK => ?_)
    go_simp
    have ck4 := blk_cell K4.out
    refine hK.out _ _ (fun _ _ => ⟨ck4 0, ck4 1, ck4 2⟩) ?_
    clear hK K ck4
    try simp only [Act.put, List.setIfInBounds_toArray, List.set_cons_zero, List.set_cons_succ]
    refine wpAnyN_one (i := 10) (by kernel_rfl) rfl (fun K hK => ?_)
    go_simp
    have ck4 := blk_cell K4.out
    refine hK.out _ _ (fun _ _ => ⟨ck4 0, ck4 1, ck4 2⟩) ?_
    clear hK K ck4
    try simp only [Act.put, List.setIfInBounds_toArray, List.set_cons_zero, List.set_cons_succ]
    refine wpAnyN_one (i := 11) (by kernel_rfl) rfl (fun K hK => ?_)
    go_simp
    have ck4 := blk_cell K4.out
    refine hK.out _ _ (fun _ _ => ⟨ck4 0, ck4 1, ck4 2⟩) ?_
    clear hK K ck4
    try simp only [Act.put, List.setIfInBounds_toArray, List.set_cons_zero, List.set_cons_succ]
    refine wpAnyN_done (by kernel_rfl) ?_ _
    refine NoPanic.normal ?_
    have cc4 := blk_cell K4.out
    go_wp2_with fail
    refine wp_region_noPanic ?_
    refine wp_region_N (fun W => W.cell? ⟨w.heap.size, 0, none⟩ = some (.int .i64 k) ∧ W.cell? ⟨w.heap.size, 1, none⟩ = some (.int .i64 l) ∧ W.cell? ⟨w.heap.size, 2, none⟩ = some (.slice A r.length cap)) [] (by kernel_rfl) ⟨cc4 0, cc4 1, cc4 2⟩ (fun hHeld => ?_)
    refine wpAnyN_take (i := 0) (v := .agg #[.int .i64 k, .int .i64 l, .slice A r.length cap]) rfl (by kernel_rfl) (by kernel_rfl) (by kernel_rfl) (by kernel_rfl) (fun _ _ _ h => h) (Or.inl ⟨by rfl, fun W hW => by obtain ⟨q1, q2, q3⟩ := hW; go_simp⟩) hHeld ?_
    try simp only [Act.put, List.setIfInBounds_toArray, List.set_cons_zero, List.set_cons_succ]
    refine wpAnyN_take (i := 2) (v := .agg #[.int .i64 k, .int .i64 l, .slice A r.length cap]) rfl (by kernel_rfl) (by kernel_rfl) (by kernel_rfl) (by kernel_rfl) (fun _ _ _ h => h) (Or.inl ⟨by rfl, fun W hW => by obtain ⟨q1, q2, q3⟩ := hW; go_simp⟩) hHeld ?_
    try simp only [Act.put, List.setIfInBounds_toArray, List.set_cons_zero, List.set_cons_succ]
    refine wpAnyN_one (i := 1) (by kernel_rfl) rfl (fun K hK => ?_)
    go_simp
    refine (H1.out _ S4.out.drew).mono ?_
    rintro e w5 ⟨v5, L5, rfl, o5, k5, e5, l5, hb5⟩
    obtain ⟨A5, p5, rfl, _, _, s5', _⟩ := o5.form
    have K5 := Lib.hid (blk_below (w := World.drew _) K4.out hb5)
    have N5 := Lib.hid (N4.out.drew.below hb5)
    have S5 := Lib.hid (S4.out.drew.keep hb5.size fun p hp => hb5.cell hp)
    have HB5 := Lib.hid ((Below.drew HB4.out).trans (hb5.mono (Below.drew HB4.out).size))
    have T5 := Lib.hid s5'
    have C5 := Lib.hid k5
    have E5 := Lib.hid e5
    clear o5 s5' k5 e5 hb5 hHeld
    have ck5 := blk_cell K5.out
    refine hK.out _ _ (fun _ _ => ⟨ck5 0, ck5 1, ck5 2⟩) ?_
    clear hK K ck5
    try simp only [Act.put, List.setIfInBounds_toArray, List.set_cons_zero, List.set_cons_succ]
    refine wpAnyN_one (i := 3) (by kernel_rfl) rfl (fun K hK => ?_)
    go_simp
    refine (HW.out _ S5.out).mono ?_
    rintro e w6 ⟨rfl, hb6⟩
    have K6 := Lib.hid (blk_below K5.out hb6)
    have N6 := Lib.hid (N5.out.below hb6)
    have S6 := Lib.hid (S5.out.keep hb6.size fun p hp => hb6.cell hp)
    have T6 := Lib.hid (T5.out.keep hb6.size fun p hp => hb6.cell hp)
    have HB6 := Lib.hid (HB5.out.trans (hb6.mono HB5.out.size))
    clear hb6
    have ck6 := blk_cell K6.out
    refine hK.out _ _ (fun _ _ => ⟨ck6 0, ck6 1, ck6 2⟩) ?_
    clear hK K ck6
    try simp only [Act.put, List.setIfInBounds_toArray, List.set_cons_zero, List.set_cons_succ]
    refine wpAnyN_one (i := 4) (by kernel_rfl) rfl (fun K hK => ?_)
    go_simp
    refine (Q1.out _ A5 p5 L5 T6.out C5.out (by omega) E5.out).mono ?_
    rintro e w7 ⟨rfl, hb7⟩
    have K7 := Lib.hid (blk_below K6.out hb7)
    have N7 := Lib.hid (N6.out.below hb7)
    have S7 := Lib.hid (S6.out.keep hb7.size fun p hp => hb7.cell hp)
    have HB7 := Lib.hid (HB6.out.trans (hb7.mono HB6.out.size))
    clear hb7
    have ck7 := blk_cell K7.out
    refine hK.out _ _ (fun _ _ => ⟨ck7 0, ck7 1, ck7 2⟩) ?_
    clear hK K ck7
    try simp only [Act.put, List.setIfInBounds_toArray, List.set_cons_zero, List.set_cons_succ]
    refine wpAnyN_pure (i := 5) (v := .tuple #[.int .i64 v, .bool true, .bool true]) rfl (by kernel_rfl) (by kernel_rfl) (by kernel_rfl) (fun _ _ _ h => h) (Or.inl ⟨by rfl, fun W _ => by go_simp⟩) ?_
    try simp only [Act.put, List.setIfInBounds_toArray, List.set_cons_zero, List.set_cons_succ]
    refine wpAnyN_pure (i := 6) (v := .int .i64 v) rfl (by kernel_rfl) (by kernel_rfl) (by kernel_rfl) (fun _ _ _ h => h) (Or.inl ⟨by rfl, fun W _ => by go_simp⟩) ?_
    try simp only [Act.put, List.setIfInBounds_toArray, List.set_cons_zero, List.set_cons_succ]
    refine wpAnyN_pure (i := 7) (v := .bool true) rfl (by kernel_rfl) (by kernel_rfl) (by kernel_rfl) (fun _ _ _ h => h) (Or.inl ⟨by rfl, fun W _ => by go_simp⟩) ?_
    try simp only [Act.put, List.setIfInBounds_toArray, List.set_cons_zero, List.set_cons_succ]
    refine wpAnyN_pure (i := 8) (v := .bool true) rfl (by kernel_rfl) (by kernel_rfl) (by kernel_rfl) (fun _ _ _ h => h) (Or.inl ⟨by rfl, fun W _ => by go_simp⟩) ?_
    try simp only [Act.put, List.setIfInBounds_toArray, List.set_cons_zero, List.set_cons_succ]
    refine wpAnyN_one (i := 9) (by kernel_rfl) rfl (fun K hK => ?_)
    go_simp
    have ck7 := blk_cell K7.out
    refine hK.out _ _ (fun _ _ => ⟨ck7 0, ck7 1, ck7 2⟩) ?_
    clear hK K ck7
    try simp only [Act.put, List.setIfInBounds_toArray, List.set_cons_zero, List.set_cons_succ]
    refine wpAnyN_one (i := 10) (by kernel_rfl) rfl (fun K hK => ?_)
    go_simp
    have ck7 := blk_cell K7.out
    refine hK.out _ _ (fun _ _ => ⟨ck7 0, ck7 1, ck7 2⟩) ?_
    clear hK K ck7
    try simp only [Act.put, List.setIfInBounds_toArray, List.set_cons_zero, List.set_cons_succ]
    refine wpAnyN_one (i := 11) (by kernel_rfl) rfl (fun K hK => ?_)
    go_simp
    have ck7 := blk_cell K7.out
    refine hK.out _ _ (fun _ _ => ⟨ck7 0, ck7 1, ck7 2⟩) ?_
    clear hK K ck7
    try simp only [Act.put, List.setIfInBounds_toArray, List.set_cons_zero, List.set_cons_succ]
    refine wpAnyN_done (by kernel_rfl) ?_ _
    refine NoPanic.normal ?_
    have n7 := N7.out
    have HB7 := HB7.out
    have cn7 := blk_cell n7
    have fn7 := blk_frozen n7
    have zn7 := lt_of_block n7
    clear n7
    go_wp2_with fail
    first
      | exact bodyPost_ret (v := .agg #[.int .i64 u, .int .i64 (v + 0 : Nat)]) (by simp only [results, Tryz.results38]; go_simp) rfl ⟨rfl, (by repeat (first | with_reducible exact Below.refl _ _ | with_reducible assumption | ((with_reducible refine Below.setCell ?_ ?_ _); rotate_left; · (first | omega | exact Nat.le_refl _ | (simp <;> omega))) | (with_reducible refine Below.allocW ?_ _) | (with_reducible refine Below.drew ?_) | (with_reducible refine Below.extW ?_ _)))⟩
      | exact bodyPost_ret (v := .agg #[.int .i64 u, .int .i64 (v + 1 : Nat)]) (by simp only [results, Tryz.results38]; go_simp) rfl ⟨rfl, (by repeat (first | with_reducible exact Below.refl _ _ | with_reducible assumption | ((with_reducible refine Below.setCell ?_ ?_ _); rotate_left; · (first | omega | exact Nat.le_refl _ | (simp <;> omega))) | (with_reducible refine Below.allocW ?_ _) | (with_reducible refine Below.drew ?_) | (with_reducible refine Below.extW ?_ _)))⟩
end Go.Proofs.YtbmmkhbdcaokkaaGreat
/- Chapter 20: the sums and the mean: the law. -/
namespace Go.Proofs.YtbmmkhbdcaokkaaGreat
open Go.ChangeShapes Go.WideShapes Go.ChangeAt Go.RowKit
set_option linter.unusedVariables false
set_option linter.unusedSimpArgs false
set_option maxRecDepth 100000

/-- What the law holds: the record, and the two sums. -/
def SumsAt (W : World) (p q : Nat) (k l : Int) (A : Option Addr) (n cap : Nat) (a0 b0 a1 b1 : Int) : Prop :=
  W.heap[p]? = some (.cells #[.int .i64 k, .int .i64 l, .slice A n cap] 37 (0, 0)) ∧ W.heap[q]? = some (.cells #[.int .u64 a0, .int .u64 b0] 60 (0, 0)) ∧ W.heap[q + 1]? = some (.cells #[.int .u64 a1, .int .u64 b1] 60 (0, 0))
theorem SumsAt.below {w w' : World} {p q : Nat} {k l : Int} {A : Option Addr} {n cap : Nat} {a0 b0 a1 b1 : Int} (h : SumsAt w p q k l A n cap a0 b0 a1 b1) (hb : Below w.heap.size w w') : SumsAt w' p q k l A n cap a0 b0 a1 b1 :=
  ⟨blk_below h.1 hb, blk_below h.2.1 hb, blk_below h.2.2 hb⟩
/-- What it holds then: the record, and the mean. -/
def MeanAt (W : World) (p q : Nat) (k l : Int) (A : Option Addr) (n cap : Nat) (x y : Int) : Prop :=
  W.heap[p]? = some (.cells #[.int .i64 k, .int .i64 l, .slice A n cap] 37 (0, 0)) ∧ bothAt W q x y
theorem MeanAt.below {w w' : World} {p q : Nat} {k l : Int} {A : Option Addr} {n cap : Nat} {x y : Int} (h : MeanAt w p q k l A n cap x y) (hb : Below w.heap.size w w') : MeanAt w' p q k l A n cap x y :=
  ⟨blk_below h.1 hb, h.2.below hb⟩
theorem law_BoundSums_no (l k K : Int) (r : List Nd) (A : Option Addr) (cap : Nat) (w : World) (h : ¬ goodL l k K r) (hS : Sl w w.heap.size encN A r) (hI : ints r) (hm : r.length ≤ maxLen) :
    Calls Tryz.prog 6 #[loadedV l k K A r.length cap] w fun e w' => e = .returned (.bool true) ∧ Below w.heap.size w w' := by
  have HC := Lib.hid (law16_Load_no · l k K A cap r h · hI hm)
  have HS := Lib.hid hS
  clear h hS
  unfold loadedV refDig at HC
  unfold loadedV
  go_enter Tryz.func6, Tryz.ntmps6
  go_wp2_with fail
  refine (HC.out _ (HS.out.keep (by simp) fun p hp => Go.RowKit.Below.cell (B := w.heap.size) (w := w) (by repeat (first | with_reducible exact Below.refl _ _ | with_reducible assumption | ((with_reducible refine Below.setCell ?_ ?_ _); rotate_left; · (first | omega | exact Nat.le_refl _ | (simp <;> omega))) | (with_reducible refine Below.allocW ?_ _) | (with_reducible refine Below.drew ?_) | (with_reducible refine Below.extW ?_ _))) hp)).mono ?_
  rintro e w1 ⟨rfl, hb1⟩
  have B1 : Below w.heap.size w w1 := Below.then_ (by repeat (first | with_reducible exact Below.refl _ _ | with_reducible assumption | ((with_reducible refine Below.setCell ?_ ?_ _); rotate_left; · (first | omega | exact Nat.le_refl _ | (simp <;> omega))) | (with_reducible refine Below.allocW ?_ _) | (with_reducible refine Below.drew ?_) | (with_reducible refine Below.extW ?_ _))) hb1
  have s1 : w.heap.size ≤ w1.heap.size := B1.size
  have z1_0 : w.heap.size < w1.heap.size := by have := hb1.size; (try simp at this); omega
  have y1_0 : w.heap.size ≤ w1.heap.size := Nat.le_of_lt z1_0
  have c1_0 := fun o => hb1.cell (p := ⟨w.heap.size, o, none⟩) (by first | omega | (simp <;> omega))
  have f1_0 := fun o => hb1.frozen (p := ⟨w.heap.size, o, none⟩) (by first | omega | (simp <;> omega))
  go_wp2_with fail
  refine (alive20 _).mono ?_
  rintro e w2 ⟨rfl, hb2⟩
  have B2 : Below w.heap.size w w2 := Below.then_ (by repeat (first | with_reducible exact Below.refl _ _ | with_reducible assumption | ((with_reducible refine Below.setCell ?_ ?_ _); rotate_left; · (first | omega | exact Nat.le_refl _ | (simp <;> omega))) | (with_reducible refine Below.allocW ?_ _) | (with_reducible refine Below.drew ?_) | (with_reducible refine Below.extW ?_ _))) hb2
  have s2 : w.heap.size ≤ w2.heap.size := B2.size
  go_wp2_with fail
  go_ret
  exact ⟨rfl, (by repeat (first | with_reducible exact Below.refl _ _ | with_reducible assumption | ((with_reducible refine Below.setCell ?_ ?_ _); rotate_left; · (first | omega | exact Nat.le_refl _ | (simp <;> omega))) | (with_reducible refine Below.allocW ?_ _) | (with_reducible refine Below.drew ?_) | (with_reducible refine Below.extW ?_ _)))⟩
set_option maxHeartbeats 8000000 in
theorem law_BoundSums_yes (l K : Nat) (k : Int) (r : List Nd) (A : Option Addr) (cap : Nat) (w : World) (h : goodL l k K r) (hS : Sl w w.heap.size encN A r) (hI : ints r) :
    Calls Tryz.prog 6 #[loadedV l k K A r.length cap] w fun e w' => e = .returned (.bool true) ∧ Below w.heap.size w w' := by
  have hn : r.length ≤ 67108864 := by have := h.1; omega
  have hm := h.1
  have hr := (goodL_parts h.2.2).1
  have hf := right_fits hr
  have HC := Lib.hid (law16_Load · l K k A cap r h · hI)
  have HS := Lib.hid hS
  have HSu := Lib.hid (fun g F (W : World) h => bound_Sum W g K l k r F h hn)
  have HMe := Lib.hid (fun g F (W : World) h => bound_Mean W g K l k r F h hn)
  have HN := Lib.hid (fun g F (W : World) h => digest_N W g K l k r F h)
  have hI' := Lib.hid hI
  have HF := Lib.hid hf
  have hs0 := sumR_nonneg hf.1.roll
  have hs1 := hf.1.sum
  clear h hS hr hI hf
  unfold loadedV refDig at HC
  unfold loadedV
  go_enter Tryz.func6, Tryz.ntmps6
  go_wp2_with fail
  refine (HC.out _ (HS.out.keep (by simp) fun p hp => Go.RowKit.Below.cell (B := w.heap.size) (w := w) (by repeat (first | with_reducible exact Below.refl _ _ | with_reducible assumption | ((with_reducible refine Below.setCell ?_ ?_ _); rotate_left; · (first | omega | exact Nat.le_refl _ | (simp <;> omega))) | (with_reducible refine Below.allocW ?_ _) | (with_reducible refine Below.drew ?_) | (with_reducible refine Below.extW ?_ _))) hp)).mono ?_
  rintro e w1 ⟨g, F, rfl, hD, _, hb1⟩
  have B1 : Below w.heap.size w w1 := Below.then_ (by repeat (first | with_reducible exact Below.refl _ _ | with_reducible assumption | ((with_reducible refine Below.setCell ?_ ?_ _); rotate_left; · (first | omega | exact Nat.le_refl _ | (simp <;> omega))) | (with_reducible refine Below.allocW ?_ _) | (with_reducible refine Below.drew ?_) | (with_reducible refine Below.extW ?_ _))) hb1
  have s1 : w.heap.size ≤ w1.heap.size := B1.size
  have z1_0 : w.heap.size < w1.heap.size := by have := hb1.size; (try simp at this); omega
  have y1_0 : w.heap.size ≤ w1.heap.size := Nat.le_of_lt z1_0
  have c1_0 := fun o => hb1.cell (p := ⟨w.heap.size, o, none⟩) (by first | omega | (simp <;> omega))
  have f1_0 := fun o => hb1.frozen (p := ⟨w.heap.size, o, none⟩) (by first | omega | (simp <;> omega))
  have KD := Lib.hid (hD.alloc (.cells #[.int .i64 k, .int .i64 l, .slice A r.length cap] 37))
  have N1 := Lib.hid (heap_alloc_new w1 (.cells #[.int .i64 k, .int .i64 l, .slice A r.length cap] 37))
  have hl := hD.l_le
  clear hD
  have HNd := Lib.hid (HF.out.1.nodes hl)
  have hN : ∀ x ∈ r, 0 ≤ (endsOf l x.1).1 ∧ (endsOf l x.1).1 ≤ 281474976710655 ∧ 0 ≤ (endsOf l x.1).2.1 ∧ (endsOf l x.1).2.1 ≤ 281474976710655 ∧ 0 ≤ x.2 := fun x hx => by
    have h1 := ends_48 hl.2 (HNd.out x hx)
    have h2 := (HF.out.1.roll.2 x hx).2
    omega
  have HRS := Lib.hid (fun (b : Bool) (W : World) (h : Sl W W.heap.size encN A r) => ref20_Sum W k l A cap r b h hI'.out hm hN)
  have n0 := sumW_le hl.2 HF.out.1.roll HNd.out false
  have n1 := sumW_le hl.2 HF.out.1.roll HNd.out true
  have HB0 := Lib.hid (fun W => ref1_Bits W (sumW l false r) (by omega))
  have HB1 := Lib.hid (fun W => ref1_Bits W (sumW l true r) (by omega))
  have HRM := Lib.hid (fun (W : World) (h : Sl W W.heap.size encN A r) (h0 : sumR r ≠ 0) => ref20_Mean W k l A cap r h hI'.out hm hl.2 HF.out.1.roll HF.out.1.sum HF.out.2 HNd.out h0)
  have R0 := Lib.hid (HRS.out false)
  have R1 := Lib.hid (HRS.out true)
  unfold wideV at HSu HB0 HB1
  clear n0 n1 hN HRS HC
  generalize ((sumW l false r % 18446744073709551616 : Nat) : Int) = a0 at HSu HB0
  generalize ((sumW l false r / 18446744073709551616 : Nat) : Int) = b0 at HSu HB0
  generalize ((sumW l true r % 18446744073709551616 : Nat) : Int) = a1 at HSu HB1
  generalize ((sumW l true r / 18446744073709551616 : Nat) : Int) = b1 at HSu HB1
  go_wp2_with fail
  refine (HSu.out g F _ KD.out).mono ?_
  rintro e w2 ⟨rfl, hb2⟩
  have B2 : Below w.heap.size w w2 := Below.then_ (by repeat (first | with_reducible exact Below.refl _ _ | with_reducible assumption | ((with_reducible refine Below.setCell ?_ ?_ _); rotate_left; · (first | omega | exact Nat.le_refl _ | (simp <;> omega))) | (with_reducible refine Below.allocW ?_ _) | (with_reducible refine Below.drew ?_) | (with_reducible refine Below.extW ?_ _))) hb2
  have s2 : w.heap.size ≤ w2.heap.size := B2.size
  have z2_0 : w.heap.size < w2.heap.size := by have := hb2.size; (try simp at this); omega
  have y2_0 : w.heap.size ≤ w2.heap.size := Nat.le_of_lt z2_0
  have c2_0 := fun o => hb2.cell (p := ⟨w.heap.size, o, none⟩) (by first | omega | (simp <;> omega))
  have f2_0 := fun o => hb2.frozen (p := ⟨w.heap.size, o, none⟩) (by first | omega | (simp <;> omega))
  go_wp2_with fail
  have BA : Below w2.heap.size w2 ((w2.alloc (.cells #[.int .u64 a0, .int .u64 b0] 60)).alloc (.cells #[.int .u64 a1, .int .u64 b1] 60)) := ((Below.refl _ _).alloc (Nat.le_refl _) _).alloc (by simp) _
  have H3 : Hid (SumsAt ((w2.alloc (.cells #[.int .u64 a0, .int .u64 b0] 60)).alloc (.cells #[.int .u64 a1, .int .u64 b1] 60)) w1.heap.size w2.heap.size k l A r.length cap a0 b0 a1 b1) := Lib.hid ⟨blk_below (blk_below N1.out hb2) BA, (Below.heap_alloc _ _ _ (by simp)).trans (heap_alloc_new w2 _), heap_new_at (w2.alloc _) _ (w2.heap.size + 1) (by simp)⟩
  have D3 := Lib.hid (((KD.out.below hb2).alloc (.cells #[.int .u64 a0, .int .u64 b0] 60)).alloc (.cells #[.int .u64 a1, .int .u64 b1] 60))
  have HB3 : Hid (Below w.heap.size w ((w2.alloc (.cells #[.int .u64 a0, .int .u64 b0] 60)).alloc (.cells #[.int .u64 a1, .int .u64 b1] 60))) := Lib.hid (B2.trans (BA.mono s2))
  have S3 := Lib.hid (HS.out.keep HB3.out.size fun p hp => HB3.out.cell hp)
  clear BA
  generalize (w2.alloc (.cells #[.int .u64 a0, .int .u64 b0] 60)).alloc (.cells #[.int .u64 a1, .int .u64 b1] 60) = W3 at H3 D3 HB3 S3 ⊢
  clear hb2 B2 N1 HS KD
  refine wp_region_noPanic ?_
  refine wp_region_N (fun W => SumsAt W w1.heap.size w2.heap.size k l A r.length cap a0 b0 a1 b1) [] (by kernel_rfl) H3.out (fun hHeld => ?_)
  refine wpAnyN_take (i := 0) (v := .agg #[.int .u64 a0, .int .u64 b0]) rfl (by kernel_rfl) (by kernel_rfl) (by kernel_rfl) (by kernel_rfl) (fun _ _ _ h => h) (Or.inl ⟨by rfl, fun W hW => by obtain ⟨h1, h2, h3⟩ := hW; have q1 := blk_cell h1; have q2 := blk_cell h2; have q3 := blk_cell h3; go_simp⟩) hHeld ?_
  try simp only [Act.put, List.setIfInBounds_toArray, List.set_cons_zero, List.set_cons_succ]
  refine wpAnyN_take (i := 2) (v := .agg #[.int .i64 k, .int .i64 l, .slice A r.length cap]) rfl (by kernel_rfl) (by kernel_rfl) (by kernel_rfl) (by kernel_rfl) (fun _ _ _ h => h) (Or.inl ⟨by rfl, fun W hW => by obtain ⟨h1, h2, h3⟩ := hW; have q1 := blk_cell h1; have q2 := blk_cell h2; have q3 := blk_cell h3; go_simp⟩) hHeld ?_
  try simp only [Act.put, List.setIfInBounds_toArray, List.set_cons_zero, List.set_cons_succ]
  refine wpAnyN_one (i := 1) (by kernel_rfl) rfl (fun K hK => ?_)
  go_simp
  refine (HB0.out _).mono ?_
  rintro e w4 ⟨v4, L4, rfl, o4, k4, e4, l4, hb4⟩
  obtain ⟨A4, p4, rfl, _, _, s4', _⟩ := o4.form
  have H4 := Lib.hid (SumsAt.below (w := World.drew _) H3.out hb4)
  have S4 := Lib.hid (S3.out.drew.keep hb4.size fun p hp => hb4.cell hp)
  have D4 := Lib.hid (DigAt.below (w := World.drew _) D3.out hb4)
  have HB4 := Lib.hid ((Below.drew HB3.out).trans (hb4.mono (Below.drew HB3.out).size))
  have T4 := Lib.hid s4'
  have C4 := Lib.hid k4
  have E4 := Lib.hid e4
  clear o4 s4' k4 e4 hb4
  refine hK.out _ _ (fun _ _ => H4.out) ?_
  clear hK K 
  try simp only [Act.put, List.setIfInBounds_toArray, List.set_cons_zero, List.set_cons_succ]
  clear hHeld
  refine wpAnyN_one (i := 3) (by kernel_rfl) rfl (fun K hK => ?_)
  go_simp
  refine (R0.out _ S4.out).mono ?_
  rintro e w5 ⟨v5, L5, rfl, o5, k5, e5, l5, hb5⟩
  obtain ⟨A5, p5, rfl, _, _, s5', _⟩ := o5.form
  have H5 := Lib.hid (H4.out.below hb5)
  have S5 := Lib.hid (S4.out.keep hb5.size fun p hp => hb5.cell hp)
  have D5 := Lib.hid (D4.out.below hb5)
  have HB5 := Lib.hid (HB4.out.trans (hb5.mono HB4.out.size))
  have T5 := Lib.hid s5'
  have C5 := Lib.hid k5
  have E5 := Lib.hid e5
  have T4 := Lib.hid (T4.out.keep hb5.size fun p hp => hb5.cell hp)
  clear o5 s5' k5 e5 hb5
  refine hK.out _ _ (fun _ _ => H5.out) ?_
  clear hK K 
  try simp only [Act.put, List.setIfInBounds_toArray, List.set_cons_zero, List.set_cons_succ]
  refine wpAnyN_one (i := 4) (by kernel_rfl) rfl (fun K hK => ?_)
  go_simp
  refine (ref1_Less _ A4 A5 p4 p5 L4 L5 T4.out T5.out C4.out C5.out (by omega) (by omega)).mono ?_
  rintro e w6 ⟨rfl, hb6⟩
  have H6 := Lib.hid (H5.out.below hb6)
  have S6 := Lib.hid (S5.out.keep hb6.size fun p hp => hb6.cell hp)
  have D6 := Lib.hid (D5.out.below hb6)
  have HB6 := Lib.hid (HB5.out.trans (hb6.mono HB5.out.size))
  have ec6 : cmpV (valD L4) (valD L5) = 0 := by rw [E4.out, E5.out]; simp [cmpV]
  rw [ec6]
  clear hb6 ec6
  refine hK.out _ _ (fun _ _ => H6.out) ?_
  clear hK K 
  try simp only [Act.put, List.setIfInBounds_toArray, List.set_cons_zero, List.set_cons_succ]
  refine wpAnyN_pure (i := 5) (v := .bool false) rfl (by kernel_rfl) (by kernel_rfl) (by kernel_rfl) (fun _ _ _ h => h) (Or.inl ⟨by rfl, fun W _ => by go_simp⟩) ?_
  try simp only [Act.put, List.setIfInBounds_toArray, List.set_cons_zero, List.set_cons_succ]
  refine wpAnyN_pure (i := 6) (v := .bool false) rfl (by kernel_rfl) (by kernel_rfl) (by kernel_rfl) (fun _ _ _ h => h) (Or.inl ⟨by rfl, fun W _ => by go_simp⟩) ?_
  try simp only [Act.put, List.setIfInBounds_toArray, List.set_cons_zero, List.set_cons_succ]
  refine wpAnyN_take (i := 7) (v := .agg #[.int .u64 a1, .int .u64 b1]) rfl (by kernel_rfl) (by kernel_rfl) (by kernel_rfl) (by kernel_rfl) (fun _ _ _ h => h) (Or.inl ⟨by rfl, fun W hW => by obtain ⟨h1, h2, h3⟩ := hW; have q1 := blk_cell h1; have q2 := blk_cell h2; have q3 := blk_cell h3; go_simp⟩) H6.out ?_
  try simp only [Act.put, List.setIfInBounds_toArray, List.set_cons_zero, List.set_cons_succ]
  refine wpAnyN_take (i := 9) (v := .agg #[.int .i64 k, .int .i64 l, .slice A r.length cap]) rfl (by kernel_rfl) (by kernel_rfl) (by kernel_rfl) (by kernel_rfl) (fun _ _ _ h => h) (Or.inl ⟨by rfl, fun W hW => by obtain ⟨h1, h2, h3⟩ := hW; have q1 := blk_cell h1; have q2 := blk_cell h2; have q3 := blk_cell h3; go_simp⟩) H6.out ?_
  try simp only [Act.put, List.setIfInBounds_toArray, List.set_cons_zero, List.set_cons_succ]
  refine wpAnyN_one (i := 8) (by kernel_rfl) rfl (fun K hK => ?_)
  go_simp
  refine (HB1.out _).mono ?_
  rintro e w7 ⟨v7, L7, rfl, o7, k7, e7, l7, hb7⟩
  obtain ⟨A7, p7, rfl, _, _, s7', _⟩ := o7.form
  have H7 := Lib.hid (H6.out.below hb7)
  have S7 := Lib.hid (S6.out.keep hb7.size fun p hp => hb7.cell hp)
  have D7 := Lib.hid (D6.out.below hb7)
  have HB7 := Lib.hid (HB6.out.trans (hb7.mono HB6.out.size))
  have T7 := Lib.hid s7'
  have C7 := Lib.hid k7
  have E7 := Lib.hid e7
  clear o7 s7' k7 e7 hb7
  refine hK.out _ _ (fun _ _ => H7.out) ?_
  clear hK K 
  try simp only [Act.put, List.setIfInBounds_toArray, List.set_cons_zero, List.set_cons_succ]
  refine wpAnyN_one (i := 10) (by kernel_rfl) rfl (fun K hK => ?_)
  go_simp
  refine (R1.out _ S7.out).mono ?_
  rintro e w8 ⟨v8, L8, rfl, o8, k8, e8, l8, hb8⟩
  obtain ⟨A8, p8, rfl, _, _, s8', _⟩ := o8.form
  have H8 := Lib.hid (H7.out.below hb8)
  have S8 := Lib.hid (S7.out.keep hb8.size fun p hp => hb8.cell hp)
  have D8 := Lib.hid (D7.out.below hb8)
  have HB8 := Lib.hid (HB7.out.trans (hb8.mono HB7.out.size))
  have T8 := Lib.hid s8'
  have C8 := Lib.hid k8
  have E8 := Lib.hid e8
  have T7 := Lib.hid (T7.out.keep hb8.size fun p hp => hb8.cell hp)
  clear o8 s8' k8 e8 hb8
  refine hK.out _ _ (fun _ _ => H8.out) ?_
  clear hK K 
  try simp only [Act.put, List.setIfInBounds_toArray, List.set_cons_zero, List.set_cons_succ]
  refine wpAnyN_one (i := 11) (by kernel_rfl) rfl (fun K hK => ?_)
  go_simp
  refine (ref1_Less _ A7 A8 p7 p8 L7 L8 T7.out T8.out C7.out C8.out (by omega) (by omega)).mono ?_
  rintro e w9 ⟨rfl, hb9⟩
  have H9 := Lib.hid (H8.out.below hb9)
  have S9 := Lib.hid (S8.out.keep hb9.size fun p hp => hb9.cell hp)
  have D9 := Lib.hid (D8.out.below hb9)
  have HB9 := Lib.hid (HB8.out.trans (hb9.mono HB8.out.size))
  have ec9 : cmpV (valD L7) (valD L8) = 0 := by rw [E7.out, E8.out]; simp [cmpV]
  rw [ec9]
  clear hb9 ec9
  refine hK.out _ _ (fun _ _ => H9.out) ?_
  clear hK K 
  try simp only [Act.put, List.setIfInBounds_toArray, List.set_cons_zero, List.set_cons_succ]
  refine wpAnyN_pure (i := 12) (v := .bool false) rfl (by kernel_rfl) (by kernel_rfl) (by kernel_rfl) (fun _ _ _ h => h) (Or.inl ⟨by rfl, fun W _ => by go_simp⟩) ?_
  try simp only [Act.put, List.setIfInBounds_toArray, List.set_cons_zero, List.set_cons_succ]
  refine wpAnyN_pure (i := 13) (v := .bool false) rfl (by kernel_rfl) (by kernel_rfl) (by kernel_rfl) (fun _ _ _ h => h) (Or.inl ⟨by rfl, fun W _ => by go_simp⟩) ?_
  try simp only [Act.put, List.setIfInBounds_toArray, List.set_cons_zero, List.set_cons_succ]
  refine wpAnyN_done (by kernel_rfl) ?_ _
  refine NoPanic.normal ?_
  clear H3 H4 H5 H6 H7 H8 D3 D4 D5 D6 D7 D8 S3 S4 S5 S6 S7 S8 HB3 HB4 HB5 HB6 HB7 HB8 T4 T5 T7 T8 C4 C5 C7 C8 E4 E5 E7 E8 HB0 HB1 R0 R1 HSu
  have sz9 := HB9.out.size
  by_cases h0 : sumR r = 0
  · have em : bothV (meanT l r) = .tuple #[.agg #[.int .i64 0, .int .i64 0], .int .i64 7] := by unfold meanT; rw [if_pos h0]; rfl
    rw [em] at HMe
    rw [h0] at HN
    clear em h0 HRM
    go_wp2_with fail
    refine (HMe.out g F _ D9.out).mono ?_
    rintro e w10 ⟨rfl, hb10⟩
    have D10 := Lib.hid (D9.out.below hb10 |>.alloc (.cells #[.int .i64 0, .int .i64 0] 29))
    have M10 := Lib.hid (bothAt.new w10 0 0)
    have B10 := HB9.out.trans (hb10.mono sz9)
    have sz10 := B10.size
    clear hb10
    go_wp2_with fail
    refine (HN.out g F _ D10.out).mono ?_
    rintro e w11 ⟨rfl, hb11⟩
    have m11 := M10.out.below hb11
    have cm11 := blk_cell m11
    have zm11 := lt_of_block m11
    have B11 : Below w.heap.size w w11 := (B10.alloc sz10 _).trans (hb11.mono (by simp; omega))
    have sz11 := B11.size
    clear m11 hb11
    go_wp2_with fail
    refine (alive20 _).mono ?_
    rintro e w12 ⟨rfl, hb12⟩
    go_wp2_with fail
    go_ret
    exact ⟨rfl, B11.trans (hb12.mono sz11)⟩
  · have h00 : (sumR r == 0) = false := by simpa using h0
    obtain ⟨x, y, em⟩ : ∃ x y, meanT l r = (x, y, 0) := by unfold meanT; rw [if_neg h0]; exact ⟨_, _, rfl⟩
    have HRN := Lib.hid (fun W h => HRM.out W h h0)
    rw [em] at HMe HRN
    unfold bothV at HMe
    generalize sumR r = N at HN h00
    clear em h0 HRM hs0 hs1
    go_wp2_with fail
    refine (HMe.out g F _ D9.out).mono ?_
    rintro e w10 ⟨rfl, hb10⟩
    have D10 := Lib.hid (D9.out.below hb10 |>.alloc (.cells #[.int .i64 x, .int .i64 y] 29))
    have H10 : Hid (MeanAt (w10.alloc (.cells #[.int .i64 x, .int .i64 y] 29)) w1.heap.size w10.heap.size k l A r.length cap x y) := Lib.hid ⟨blk_below (blk_below H9.out.1 hb10) ((Below.refl _ _).alloc (Nat.le_refl _) _), bothAt.new w10 x y⟩
    have B10 : Below w.heap.size w (w10.alloc (.cells #[.int .i64 x, .int .i64 y] 29)) := (HB9.out.trans (hb10.mono sz9)).alloc (Nat.le_trans sz9 hb10.size) _
    have HB10 := Lib.hid B10
    have S10 := Lib.hid (S9.out.keep (B' := (w10.alloc (.cells #[.int .i64 x, .int .i64 y] 29)).heap.size) (Nat.le_trans hb10.size (by simp)) fun p hp => ((hb10.alloc hb10.size (.cells #[.int .i64 x, .int .i64 y] 29)).cell hp))
    clear hb10 B10
    go_wp2_with fail
    refine (HN.out g F _ D10.out).mono ?_
    rintro e w11 ⟨rfl, hb11⟩
    have H11 := Lib.hid (H10.out.below hb11)
    have HB11 := Lib.hid (HB10.out.trans (hb11.mono HB10.out.size))
    have S11 := Lib.hid (S10.out.keep hb11.size fun p hp => hb11.cell hp)
    clear hb11
    go_wp2_with fail
    refine wp_region_noPanic ?_
    refine wp_region_N (fun W => MeanAt W w1.heap.size w10.heap.size k l A r.length cap x y) [] (by kernel_rfl) H11.out (fun hHeld => ?_)
    refine wpAnyN_pure (i := 0) (v := .int .i64 0) rfl (by kernel_rfl) (by kernel_rfl) (by kernel_rfl) (fun _ _ _ h => h) (Or.inl ⟨by rfl, fun W _ => by go_simp⟩) ?_
    try simp only [Act.put, List.setIfInBounds_toArray, List.set_cons_zero, List.set_cons_succ]
    refine wpAnyN_pure (i := 1) (v := .bool true) rfl (by kernel_rfl) (by kernel_rfl) (by kernel_rfl) (fun _ _ _ h => h) (Or.inl ⟨by rfl, fun W _ => by go_simp⟩) ?_
    try simp only [Act.put, List.setIfInBounds_toArray, List.set_cons_zero, List.set_cons_succ]
    refine wpAnyN_pure (i := 2) (v := .bool true) rfl (by kernel_rfl) (by kernel_rfl) (by kernel_rfl) (fun _ _ _ h => h) (Or.inl ⟨by rfl, fun W _ => by go_simp⟩) ?_
    try simp only [Act.put, List.setIfInBounds_toArray, List.set_cons_zero, List.set_cons_succ]
    refine wpAnyN_take (i := 3) (v := .agg #[.int .i64 x, .int .i64 y]) rfl (by kernel_rfl) (by kernel_rfl) (by kernel_rfl) (by kernel_rfl) (fun _ _ _ h => h) (Or.inl ⟨by rfl, fun W hW => by obtain ⟨h1, h2⟩ := hW; have q1 := blk_cell h1; have q2 := blk_cell h2; go_simp⟩) hHeld ?_
    try simp only [Act.put, List.setIfInBounds_toArray, List.set_cons_zero, List.set_cons_succ]
    refine wpAnyN_take (i := 4) (v := .agg #[.int .i64 k, .int .i64 l, .slice A r.length cap]) rfl (by kernel_rfl) (by kernel_rfl) (by kernel_rfl) (by kernel_rfl) (fun _ _ _ h => h) (Or.inl ⟨by rfl, fun W hW => by obtain ⟨h1, h2⟩ := hW; have q1 := blk_cell h1; have q2 := blk_cell h2; go_simp⟩) hHeld ?_
    try simp only [Act.put, List.setIfInBounds_toArray, List.set_cons_zero, List.set_cons_succ]
    refine wpAnyN_one (i := 5) (by kernel_rfl) rfl (fun K hK => ?_)
    go_simp
    refine (HRN.out _ S11.out.drew).mono ?_
    rintro e w12 ⟨rfl, hb12⟩
    have H12 := Lib.hid (MeanAt.below (w := World.drew _) H11.out hb12)
    have HB12 := Lib.hid ((Below.drew HB11.out).trans (hb12.mono (Below.drew HB11.out).size))
    clear hb12 hHeld
    refine hK.out _ _ (fun _ _ => H12.out) ?_
    clear hK K 
    try simp only [Act.put, List.setIfInBounds_toArray, List.set_cons_zero, List.set_cons_succ]
    refine wpAnyN_pure (i := 6) (v := .bool true) rfl (by kernel_rfl) (by kernel_rfl) (by kernel_rfl) (fun _ _ _ h => h) (Or.inl ⟨by rfl, fun W _ => by go_simp⟩) ?_
    try simp only [Act.put, List.setIfInBounds_toArray, List.set_cons_zero, List.set_cons_succ]
    refine wpAnyN_pure (i := 7) (v := .bool true) rfl (by kernel_rfl) (by kernel_rfl) (by kernel_rfl) (fun _ _ _ h => h) (Or.inl ⟨by rfl, fun W _ => by go_simp⟩) ?_
    try simp only [Act.put, List.setIfInBounds_toArray, List.set_cons_zero, List.set_cons_succ]
    refine wpAnyN_pure (i := 8) (v := .bool true) rfl (by kernel_rfl) (by kernel_rfl) (by kernel_rfl) (fun _ _ _ h => h) (Or.inl ⟨by rfl, fun W _ => by go_simp⟩) ?_
    try simp only [Act.put, List.setIfInBounds_toArray, List.set_cons_zero, List.set_cons_succ]
    refine wpAnyN_one (i := 9) (by kernel_rfl) rfl (fun K hK => ?_)
    go_simp
    refine (alive20 _).mono ?_
    rintro e w13 ⟨rfl, hb13⟩
    have H13 := Lib.hid (H12.out.below hb13)
    have HB13 := HB12.out.trans (hb13.mono HB12.out.size)
    clear hb13
    refine hK.out _ _ (fun _ _ => H13.out) ?_
    clear hK K 
    try simp only [Act.put, List.setIfInBounds_toArray, List.set_cons_zero, List.set_cons_succ]
    refine wpAnyN_pure (i := 10) (v := .bool true) rfl (by kernel_rfl) (by kernel_rfl) (by kernel_rfl) (fun _ _ _ h => h) (Or.inl ⟨by rfl, fun W _ => by go_simp⟩) ?_
    try simp only [Act.put, List.setIfInBounds_toArray, List.set_cons_zero, List.set_cons_succ]
    refine wpAnyN_one (i := 11) (by kernel_rfl) rfl (fun K hK => ?_)
    go_simp
    refine hK.out _ _ (fun _ _ => H13.out) ?_
    clear hK K 
    try simp only [Act.put, List.setIfInBounds_toArray, List.set_cons_zero, List.set_cons_succ]
    refine wpAnyN_done (by kernel_rfl) ?_ _
    refine NoPanic.normal ?_
    go_wp2_with fail
    go_ret
    exact ⟨rfl, HB13⟩
theorem law_BoundSums (l k K : Int) (r : List Nd) (A : Option Addr) (cap : Nat) (W : World) (hS : Sl W W.heap.size encN A r) (hI : ints r) (_ : i64 l) (_ : i64 k) (_ : i64 K) (hm : r.length ≤ maxLen) :
    Calls Tryz.prog 6 #[loadedV l k K A r.length cap] W fun e W' => e = .returned (.bool true) ∧ Below W.heap.size W W' := by
  by_cases h : goodL l k K r
  · obtain ⟨n, m, rfl, rfl⟩ := goodL_nat h.2.2
    exact law_BoundSums_yes n m k r A cap W h hS hI
  · exact law_BoundSums_no l k K r A cap W h hS hI hm
end Go.Proofs.YtbmmkhbdcaokkaaGreat
