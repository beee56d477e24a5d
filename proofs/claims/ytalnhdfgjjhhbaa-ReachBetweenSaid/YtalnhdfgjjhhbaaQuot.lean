/- The reference of layer 1 (reckon): a part of a number. -/
import Derived.Test.YtalnhdfgjjhhbaaTimes
namespace Go.Proofs.Ytalnhdfgjjhhbaa
open Go.ChangeShapes Go.WideShapes Go.ChangeAt Go.RowKit
set_option linter.unusedVariables false

theorem quot_end {n b V : Nat} (h1 : n * b ≤ V) (h2 : V < (n + 1) * b) : n = V / b ∧ (n * b < V ↔ V % b ≠ 0) := by
  have hb : 0 < b := by rcases Nat.eq_zero_or_pos b with rfl | h <;> simp_all
  have e : n = V / b := by
    refine Nat.le_antisymm ((Nat.le_div_iff_mul_le hb).2 h1) ?_
    have := (Nat.div_lt_iff_lt_mul hb).2 h2
    omega
  refine ⟨e, ?_⟩
  have := Nat.div_add_mod V b
  rw [← e, Nat.mul_comm] at this
  omega
set_option maxRecDepth 100000 in
set_option maxHeartbeats 1000000 in
theorem ref1_Quot (w : World) (A : Option Addr) (cap : Nat) (p : List Nat) (b V : Nat) (hA : Sl w w.heap.size encD A p) (kp : okD p) (lp : p.length ≤ 100) (hV : valD p = V) (hb : 1 ≤ b) (hb2 : b < 9223372036854775808) (hm : V < 9223372036854775808 * b) :
    Calls Try.prog 66 #[.slice A p.length cap, .int .i64 b] w fun e w' => e = .returned (.tuple #[.int .i64 (V / b : Nat), .bool (decide (V % b ≠ 0)), .bool true]) ∧ Below w.heap.size w w' := by
  have HA := Lib.hid hA
  have KP := Lib.hid kp
  have HVp := Lib.hid hV
  have HM := Lib.hid hm
  clear hA kp hV hm
  go_enter Try.func66, Try.ntmps66
  go_wp2_with fail
  go_loopw [7, 8] (fun q s wr => ∃ (n k st : Nat), q = .int .i64 n ∧ s = .int .i64 st ∧ k ≤ 63 ∧ st = 2 ^ k / 2 ∧ n + 2 ^ k ≤ 9223372036854775808 ∧ n * b ≤ V ∧ V < (n + 2 ^ k) * b ∧ Below w.heap.size w wr) (fun _ s _ => (intOf s).toNat)
  case atStart => exact ⟨0, 63, 4611686018427387904, rfl, rfl, by omega, by decide, by decide, by omega, by have := HM.out; rw [show 0 + 2 ^ 63 = 9223372036854775808 by decide]; exact this, Below.refl _ _⟩
  case round =>
    obtain ⟨n, k, st, rfl, rfl, hk, hst, hn, h1, h2, hW⟩ := hrel
    have hs := hW.size
    have HAr := Lib.hid (HA.out.keep (B' := wr.heap.size) hs fun p hp => hW.cell hp)
    rcases k with _ | k
    · have hst0 : st = 0 := by simpa using hst
      subst hst0
      simp only [Nat.pow_zero] at h2 hn
      have HQ := Lib.hid (quot_end h1 h2)
      have H1 := Lib.hid h1
      have H2 := Lib.hid h2
      have hn9 : n < 9223372036854775808 := by omega
      clear h1 h2 hn hst hk
      go_wp2_with fail
      refine (ref1_Digits _ n hn9).mono ?_
      rintro e w1 ⟨v1, L1, rfl, o1, k1, e1, l1, b1⟩
      obtain ⟨A1, p1, rfl, _, _, S1, _⟩ := o1.form
      have HS1 := Lib.hid S1
      have K1 := Lib.hid k1
      have E1 := Lib.hid e1
      clear o1 S1 k1 e1
      go_wp2_with fail
      refine (ref1_Digits _ b hb2).mono ?_
      rintro e w2 ⟨v2, L2, rfl, o2, k2, e2, l2, b2⟩
      obtain ⟨A2, p2, rfl, _, _, S2, _⟩ := o2.form
      have HS1' := Lib.hid (HS1.out.keep b2.size fun p hp => b2.cell hp)
      have HS2 := Lib.hid S2
      have K2 := Lib.hid k2
      have E2 := Lib.hid e2
      have W2 : Below wr.heap.size wr w2 := b1.trans (b2.mono b1.size)
      clear o2 S2 k2 e2 b1 b2
      go_wp2_with fail
      refine (ref1_Times _ A1 A2 p1 p2 L1 L2 HS1'.out HS2.out K1.out K2.out (by omega) (by omega)).mono ?_
      rintro e w3 ⟨v3, rfl, L3, o3, k3, e3, l3, b3⟩
      obtain ⟨A3, p3, rfl, _, _, S3, _⟩ := o3.form
      have HS3 := Lib.hid S3
      have K3 := Lib.hid k3
      have E3 := Lib.hid (show valD L3 = n * b by rw [e3, E1.out, E2.out])
      have W3 : Below wr.heap.size wr w3 := W2.trans (b3.mono W2.size)
      have l3' : L3.length ≤ 50 := by omega
      clear o3 S3 k3 e3 b3
      go_wp2_with fail
      refine (ref1_Digits _ b hb2).mono ?_
      rintro e w4 ⟨v4, L4, rfl, o4, k4, e4, l4, b4⟩
      obtain ⟨A4, p4, rfl, _, _, S4, _⟩ := o4.form
      have HS3' := Lib.hid (HS3.out.keep b4.size fun p hp => b4.cell hp)
      have HS4 := Lib.hid S4
      have K4 := Lib.hid k4
      have E4 := Lib.hid e4
      have W4 : Below wr.heap.size wr w4 := W3.trans (b4.mono W3.size)
      clear o4 S4 k4 e4 b4
      go_wp2_with fail
      refine (ref1_Sum _ A3 A4 p3 p4 L3 L4 HS3'.out HS4.out K3.out K4.out (by omega) (by omega)).mono ?_
      rintro e w5 ⟨v5, L5, rfl, o5, k5, e5, l5, b5⟩
      obtain ⟨A5, p5, rfl, _, _, S5, _⟩ := o5.form
      have HS3'' := Lib.hid (HS3'.out.keep b5.size fun p hp => b5.cell hp)
      have HS5 := Lib.hid S5
      have K5 := Lib.hid k5
      have W5 : Below wr.heap.size wr w5 := W4.trans (b5.mono W4.size)
      have E5 := Lib.hid (show cmpV (valD L5) (valD p) = 1 from cmpV_more (by rw [HVp.out, e5, E3.out, E4.out]; have := H2.out; rw [Nat.add_mul] at this; omega))
      have l5' : L5.length ≤ 60 := by omega
      clear o5 S5 k5 e5 b5 l5
      go_wp2_with fail
      refine (ref1_Less _ A5 A p5 cap L5 p HS5.out (HAr.out.keep W5.size fun p hp => W5.cell hp) K5.out KP.out (by omega) (by omega)).mono ?_
      rintro e w6 ⟨rfl, b6⟩
      rw [E5.out]
      have W6 : Below wr.heap.size wr w6 := W5.trans (b6.mono W5.size)
      have HS3f := Lib.hid (HS3''.out.keep b6.size fun p hp => b6.cell hp)
      clear b6
      go_wp2_with fail
      refine (ref1_Less _ A3 A p3 cap L3 p HS3f.out (HAr.out.keep W6.size fun p hp => W6.cell hp) K3.out KP.out (by omega) (by omega)).mono ?_
      rintro e w7 ⟨rfl, b7⟩
      have HC := Lib.hid (cmpV_lt (valD L3) (valD p))
      have hcr := cmpV_range (valD L3) (valD p)
      generalize cmpV (valD L3) (valD p) = z at HC hcr ⊢
      have W7 := hW.trans ((W6.trans (b7.mono W6.size)).mono hs)
      clear b7
      go_wp2_with fail
      go_ret3
      refine ⟨?_, W7⟩
      have h1 := HC.out
      rw [E3.out, HVp.out, HQ.out.2] at h1
      rw [← HQ.out.1]
      simp [← h1]
    · obtain ⟨P, hP⟩ : ∃ P, P = 2 ^ k := ⟨_, rfl⟩
      have e2k : 2 ^ (k + 1) = P + P := by rw [Nat.pow_succ, ← hP]; omega
      rw [e2k] at hst hn h2
      have hst1 : st = P := by omega
      subst hst1
      have hP1 : 1 ≤ st := by rw [hP]; exact Nat.one_le_two_pow
      have hn9 : n + st < 9223372036854775808 := by omega
      have hst9 : st ≤ 4611686018427387904 := by omega
      have hnn9 : n ≤ 9223372036854775806 := by omega
      have HN := Lib.hid hn
      have hPk := Lib.hid hP
      have H1 := Lib.hid h1
      have H2 := Lib.hid h2
      have e2' : (st : Int) / 2 = ((st / 2 : Nat) : Int) := by omega
      obtain ⟨t, ht⟩ : ∃ t, t = st / 2 := ⟨_, rfl⟩
      have htl : t < st := by omega
      have HT := Lib.hid (show t = 2 ^ k / 2 by rw [ht, hP])
      rw [← ht] at e2'
      obtain ⟨s, hsd⟩ : ∃ s, s = n + st := ⟨_, rfl⟩
      have e3' : (n : Int) + (st : Int) = (s : Int) := by omega
      rw [← hsd] at hn9
      have hs9 : s ≤ 9223372036854775807 := by omega
      have HN9 := Lib.hid hn9
      have HSD := Lib.hid hsd
      clear h1 h2 hst hP e2k ht hn hn9 hsd
      go_wp2_with fail
      refine (ref1_Digits _ s HN9.out).mono ?_
      rintro e w1 ⟨v1, L1, rfl, o1, k1, e1, l1, b1⟩
      obtain ⟨A1, p1, rfl, _, _, S1, _⟩ := o1.form
      have HS1 := Lib.hid S1
      have K1 := Lib.hid k1
      have E1 := Lib.hid e1
      clear o1 S1 k1 e1
      go_wp2_with fail
      refine (ref1_Digits _ b hb2).mono ?_
      rintro e w2 ⟨v2, L2, rfl, o2, k2, e2, l2, b2⟩
      obtain ⟨A2, p2, rfl, _, _, S2, _⟩ := o2.form
      have HS1' := Lib.hid (HS1.out.keep b2.size fun p hp => b2.cell hp)
      have HS2 := Lib.hid S2
      have K2 := Lib.hid k2
      have E2 := Lib.hid e2
      have W2 : Below wr.heap.size wr w2 := b1.trans (b2.mono b1.size)
      clear o2 S2 k2 e2 b1 b2
      go_wp2_with fail
      refine (ref1_Times _ A1 A2 p1 p2 L1 L2 HS1'.out HS2.out K1.out K2.out (by omega) (by omega)).mono ?_
      rintro e w3 ⟨v3, rfl, L3, o3, k3, e3, l3, b3⟩
      obtain ⟨A3, p3, rfl, _, _, S3, _⟩ := o3.form
      have HS3 := Lib.hid S3
      have K3 := Lib.hid k3
      have E3 := Lib.hid (show valD L3 = s * b by rw [e3, E1.out, E2.out])
      have W3 : Below wr.heap.size wr w3 := W2.trans (b3.mono W2.size)
      have l3' : L3.length ≤ 50 := by omega
      clear o3 S3 k3 e3 b3
      go_wp2_with fail
      refine (ref1_Less _ A3 A p3 cap L3 p HS3.out (HAr.out.keep W3.size fun p hp => W3.cell hp) K3.out KP.out (by omega) (by omega)).mono ?_
      rintro e w4 ⟨rfl, b4⟩
      have HC := Lib.hid (show (cmpV (valD L3) (valD p) ≤ 0) ↔ s * b ≤ V by rw [cmpV_le, E3.out, HVp.out])
      have hcr := cmpV_range (valD L3) (valD p)
      generalize cmpV (valD L3) (valD p) = z at HC hcr ⊢
      have W4 := hW.trans ((W3.trans (b4.mono W3.size)).mono hs)
      clear b4
      by_cases hz : z ≤ 0
      · have H3 := Lib.hid (HC.out.1 hz)
        go_wp2_with fail
        go_roundw
        case rel => exact ⟨s, k, t, by go_num, by go_num, by omega, HT.out, by have := hPk.out; have := HN.out; have := HSD.out; omega, H3.out, by have h := H2.out; rw [← hPk.out, HSD.out, Nat.add_assoc]; exact h, W4⟩
        case measure => simp [intOf]; omega
      · have H3 := Lib.hid (show ¬ s * b ≤ V from fun h => hz (HC.out.2 h))
        go_wp2_with fail
        go_roundw
        case rel => exact ⟨n, k, t, by go_num, by go_num, by omega, HT.out, by have := hPk.out; have := HN.out; omega, H1.out, by have h := H3.out; rw [← hPk.out, ← HSD.out]; omega, W4⟩
        case measure => simp [intOf]; omega
end Go.Proofs.Ytalnhdfgjjhhbaa
