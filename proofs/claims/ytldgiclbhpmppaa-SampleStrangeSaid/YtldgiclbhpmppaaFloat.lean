/- Plain facts on floats: a whole number from 0 to 2^53 as a float64 is read back as it. -/
import GoSem.Core.Float
namespace Go.Proofs.Ytldgiclbhpmppaa
open Ieee

theorem shl_one (n k : Nat) : n <<< k = n * 2 ^ k := Nat.shiftLeft_eq n k

theorem cut_zero_drop (way : Toward) (n : Nat) : way.cut false n 0 = n := by
  cases way <;> simp [Toward.cut, Nat.mod_one]

theorem rung_le (L K : Nat) (hL : L ≤ 52) (hk : K < 2 ^ 53) : (L + 1022) * 2 ^ 52 + K ≤ 2047 * 2 ^ 52 := by
  simp only [Nat.reducePow] at *
  omega

theorem rung_facts (L K : Nat) (hL : L ≤ 52) (hk1 : 2 ^ 52 ≤ K) (hk2 : K < 2 ^ 53) :
    ((L + 1022) * 2 ^ 52 + K) / 2 ^ 63 = 0 ∧ ((L + 1022) * 2 ^ 52 + K) % 2 ^ 63 = (L + 1022) * 2 ^ 52 + K ∧
    ¬ ((L + 1022) * 2 ^ 52 + K < 2 ^ 52) ∧ (L + 1022) * 2 ^ 52 + K < 2047 * 2 ^ 52 ∧
    2 ^ 52 + ((L + 1022) * 2 ^ 52 + K) % 2 ^ 52 = K ∧ ((L + 1022) * 2 ^ 52 + K) / 2 ^ 52 = L + 1023 := by
  simp only [Nat.reducePow] at *
  omega

theorem f64_near (n : Nat) (h0 : 0 < n) (h : n < 2 ^ 53) :
    ∃ k : Nat, k ≤ 52 ∧ FloatKind.f64.decode (FloatKind.f64.nearest (n : Int)) = .number false (n * 2 ^ k) (-(k : Int)) := by
  have hL : n.log2 ≤ 52 := by
    have := (Nat.log2_lt (n := n) (k := 53) (by omega)).2 h
    omega
  refine ⟨52 - n.log2, by omega, ?_⟩
  have hlo : 2 ^ n.log2 ≤ n := Nat.log2_self_le (by omega)
  have hhi : n < 2 ^ (n.log2 + 1) := Nat.lt_log2_self
  have hk1 : 2 ^ 52 ≤ n * 2 ^ (52 - n.log2) := by
    have : 2 ^ 52 = 2 ^ n.log2 * 2 ^ (52 - n.log2) := by rw [← Nat.pow_add]; congr 1; omega
    rw [this]; exact Nat.mul_le_mul_right _ hlo
  have hk2 : n * 2 ^ (52 - n.log2) < 2 ^ 53 := by
    have : 2 ^ 53 = 2 ^ (n.log2 + 1) * 2 ^ (52 - n.log2) := by rw [← Nat.pow_add]; congr 1; omega
    rw [this]; exact Nat.mul_lt_mul_of_pos_right hhi (Nat.two_pow_pos _)
  generalize hK : n * 2 ^ (52 - n.log2) = K at *
  have hw : FloatKind.f64.nearest (n : Int) = (n.log2 + 1022) * 2 ^ 52 + K := by
    have hne : n ≠ 0 := by omega
    have hneg : decide ((n : Int) < 0) = false := by simp
    simp only [FloatKind.nearest, FloatKind.encode, FloatKind.format, Format.write, Format.nearest, Int.natAbs_natCast, hne, if_false, hneg]
    have hleast : double.leastPlace = -1074 := by decide
    have hfb : double.fractionBits = 52 := rfl
    have hbin : double.binade = 2 ^ 52 := rfl
    have hinf : double.infRung = 2047 * 2 ^ 52 := rfl
    simp only [hleast, hfb, hbin, hinf]
    clear hleast hfb hbin hinf
    have hlast : max ((0 : Int) + (n.log2 : Int) - ((52 : Nat) : Int)) (-1074) = (n.log2 : Int) - 52 := by omega
    rw [hlast]
    have e1 : ((0 : Int) - ((n.log2 : Int) - 52)).toNat = 52 - n.log2 := by omega
    have e2 : ((n.log2 : Int) - 52 - 0).toNat = 0 := by omega
    have e3 : ((n.log2 : Int) - 52 - (-1074)).toNat = n.log2 + 1022 := by omega
    rw [e1, e2, e3, cut_zero_drop, shl_one, hK]
    simp only [Format.word, Bool.false_eq_true, if_false]
    rw [Nat.min_eq_left]
    exact rung_le _ _ hL hk2
  rw [hw]
  simp only [FloatKind.decode, FloatKind.format, Format.read]
  have hleast : double.leastPlace = -1074 := by decide
  have hbin : double.binade = 2 ^ 52 := rfl
  have hinf : double.infRung = 2047 * 2 ^ 52 := rfl
  have hsw : double.signWeight = 2 ^ 63 := rfl
  simp only [hleast, hbin, hinf, hsw]
  clear hleast hbin hinf hsw hw
  obtain ⟨r1, r2, r3, r4, r5, r6⟩ := rung_facts n.log2 K hL hk1 hk2
  rw [r1, r2, if_neg r3, if_pos r4, r5, r6]
  simp
  omega

theorem signed_pos (m u : Nat) : signed false m u = ((m * 2 ^ u : Nat) : Int) := by simp [signed, shl_one]

theorem cmp_cast (x y : Nat) : (compare ((x : Nat) : Int) ((y : Nat) : Int)) = compare x y := by
  simp [compare, compareOfLessAndEq, Int.ofNat_inj]

theorem order_whole (n m k i : Nat) (p q : Int) (hp : p = -(k : Int)) (hq : q = -(i : Int)) :
    Datum.order (.number false (n * 2 ^ k) p) (.number false (m * 2 ^ i) q) = some (compare n m) := by
  subst hp hq
  simp only [Datum.order, signed_pos, Option.some.injEq]
  rw [cmp_cast]
  have key : ∃ c : Nat, n * 2 ^ k * 2 ^ (-(k : Int) - min (-(k : Int)) (-(i : Int))).toNat = n * 2 ^ c ∧ m * 2 ^ i * 2 ^ (-(i : Int) - min (-(k : Int)) (-(i : Int))).toNat = m * 2 ^ c := by
    refine ⟨max k i, ?_, ?_⟩
    · rw [Nat.mul_assoc, ← Nat.pow_add]; congr 2; omega
    · rw [Nat.mul_assoc, ← Nat.pow_add]; congr 2; omega
  obtain ⟨c, h1, h2⟩ := key
  rw [h1, h2]
  have hc : 0 < 2 ^ c := Nat.two_pow_pos _
  simp only [compare, compareOfLessAndEq, Nat.mul_lt_mul_right hc]
  by_cases hlt : n < m
  · simp [hlt]
  · by_cases he : n = m
    · simp [he]
    · have : n * 2 ^ c ≠ m * 2 ^ c := fun h => he (Nat.eq_of_mul_eq_mul_right hc h)
      simp [hlt, he, this]

theorem toInt_whole (n k : Nat) (h : 0 < n) : (Datum.number false (n * 2 ^ k) (-(k : Int))).toInt .zero = some (n : Int) := by
  have hl : k ≤ (n * 2 ^ k).log2 + 2 := by
    have : k ≤ (n * 2 ^ k).log2 := (Nat.le_log2 (by have := Nat.two_pow_pos k; exact Nat.ne_of_gt (Nat.mul_pos h this))).2 (by
      calc 2 ^ k = 1 * 2 ^ k := by simp
        _ ≤ n * 2 ^ k := Nat.mul_le_mul_right _ h)
    omega
  have e1 : (-(k : Int)).toNat = 0 := by omega
  have e2 : (-(-(k : Int))).toNat = k := by omega
  simp only [Datum.toInt, Datum.integral, e1, e2, Toward.cut, shl_one, Nat.one_mul, Nat.pow_zero, Nat.mul_one, Nat.min_eq_left hl]
  rw [Nat.mul_div_cancel _ (Nat.two_pow_pos k)]
  simp [signed]



theorem f64_whole (n : Nat) (h0 : n ≠ 0) (h : n < 2 ^ 53) : ∃ k : Nat, FloatKind.f64.decode (FloatKind.f64.nearest (n : Int)) = .number false (n * 2 ^ k) (-(k : Int)) := by
  obtain ⟨k, _, hk⟩ := f64_near n (by omega) h
  exact ⟨k, hk⟩

theorem f64_self (n : Nat) (h : n ≤ 2 ^ 53) : FloatKind.f64.format.order (FloatKind.f64.nearest (n : Int)) (FloatKind.f64.nearest (n : Int)) = some .eq := by
  by_cases ht : n = 2 ^ 53
  · subst ht; decide
  · by_cases hz : n = 0
    · subst hz; decide
    · obtain ⟨k, hk⟩ := f64_whole n hz (by omega)
      have hk' : FloatKind.f64.format.read (FloatKind.f64.nearest (n : Int)) = _ := hk
      simp only [Format.order, hk', order_whole n n k k _ _ rfl rfl]
      simp [compare, compareOfLessAndEq]

theorem f64_ge0 (n : Nat) (h : n ≤ 2 ^ 53) :
    (FloatKind.f64.format.order (FloatKind.f64.nearest (n : Int)) 0 == some .gt || FloatKind.f64.format.order (FloatKind.f64.nearest (n : Int)) 0 == some .eq) = true := by
  by_cases ht : n = 2 ^ 53
  · subst ht; decide
  · by_cases hz : n = 0
    · subst hz; decide
    · obtain ⟨k, hk⟩ := f64_whole n hz (by omega)
      have hk' : FloatKind.f64.format.read (FloatKind.f64.nearest (n : Int)) = _ := hk
      have h0 : FloatKind.f64.format.read 0 = .number false 0 (-1074) := by decide
      simp only [Format.order, hk', h0, Datum.order, signed_pos, cmp_cast, Nat.zero_mul]
      generalize (-(k : Int) - min (-(k : Int)) (-1074)).toNat = u
      have hp : 0 < n * 2 ^ k * 2 ^ u := Nat.mul_pos (Nat.mul_pos (by omega) (Nat.two_pow_pos k)) (Nat.two_pow_pos u)
      have h1 : ¬ n * 2 ^ k * 2 ^ u < 0 := by omega
      have h2 : ¬ n * 2 ^ k * 2 ^ u = 0 := by omega
      simp only [compare, compareOfLessAndEq, h1, h2, if_false]
      decide

theorem f64_le56 (n : Nat) (h : n ≤ 2 ^ 53) :
    (FloatKind.f64.format.order (FloatKind.f64.nearest (n : Int)) 4859383997932765184 == some .lt || FloatKind.f64.format.order (FloatKind.f64.nearest (n : Int)) 4859383997932765184 == some .eq) = true := by
  by_cases ht : n = 2 ^ 53
  · subst ht; decide
  · by_cases hz : n = 0
    · subst hz; decide
    obtain ⟨k, hk⟩ := f64_whole n hz (by omega)
    have hk' : FloatKind.f64.format.read (FloatKind.f64.nearest (n : Int)) = _ := hk
    have h0 : FloatKind.f64.format.read 4859383997932765184 = .number false (2 ^ 52) 4 := by decide
    have e1 : (-(k : Int) - min (-(k : Int)) 4).toNat = 0 := by omega
    have e2 : ((4 : Int) - min (-(k : Int)) 4).toNat = 4 + k := by omega
    simp only [Format.order, hk', h0, Datum.order, signed_pos, cmp_cast, e1, e2]
    have hlt : n * 2 ^ k * 2 ^ 0 < 2 ^ 52 * 2 ^ (4 + k) := by
      rw [Nat.pow_zero, Nat.mul_one, Nat.pow_add, ← Nat.mul_assoc]
      exact Nat.mul_lt_mul_of_pos_right (by omega) (Nat.two_pow_pos k)
    simp only [compare, compareOfLessAndEq, hlt, if_true]
    decide

theorem f64_toInt (n : Nat) (h : n ≤ 2 ^ 53) : (FloatKind.f64.decode (FloatKind.f64.nearest (n : Int))).toInt .zero = some (n : Int) := by
  by_cases ht : n = 2 ^ 53
  · subst ht; decide
  · by_cases hz : n = 0
    · subst hz; decide
    · obtain ⟨k, hk⟩ := f64_whole n hz (by omega)
      rw [hk, toInt_whole n k (by omega)]

end Go.Proofs.Ytldgiclbhpmppaa
