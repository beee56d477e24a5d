/- Long division by two digits: the plain law. No program in sight. -/
import Derived.Test.YtalnhdfgjjhhbaaArith
namespace Go.Proofs.Ytalnhdfgjjhhbaa
set_option linter.unusedVariables false
set_option maxRecDepth 100000

section
variable {a c u d q rh : Nat}
/-- A guess that is too great shows itself. -/
theorem guess_high (hd : d < 4294967296) (hu : u < a * 4294967296 + c) (h : q * a + rh = u) (ht : 4294967296 ≤ q ∨ 4294967296 * rh + d < q * c) : (u * 4294967296 + d) / (a * 4294967296 + c) < q := by
  rw [Nat.div_lt_iff_lt_mul (by omega)]
  rcases ht with ht | ht
  · have h1 : (a * 4294967296 + c) * 4294967296 ≤ q * (a * 4294967296 + c) := by rw [Nat.mul_comm q]; exact Nat.mul_le_mul_left _ ht
    omega
  · have h1 : q * (a * 4294967296 + c) = (q * a) * 4294967296 + q * c := by rw [Nat.mul_add, Nat.mul_assoc]
    rw [h1]
    omega
/-- One that doesn't is not too great. -/
theorem guess_low (h : q * a + rh = u) (hc : 0 < a * 4294967296 + c) (ht : q * c ≤ 4294967296 * rh + d) : q ≤ (u * 4294967296 + d) / (a * 4294967296 + c) := by
  rw [Nat.le_div_iff_mul_le hc]
  have h1 : q * (a * 4294967296 + c) = (q * a) * 4294967296 + q * c := by rw [Nat.mul_add, Nat.mul_assoc]
  rw [h1]
  omega
theorem guess_break (hc : c < 4294967296) (hu : u < a * 4294967296 + c) (h : q * a + rh = u) (hr : 4294967296 ≤ rh) : q ≤ (u * 4294967296 + d) / (a * 4294967296 + c) := by
  refine guess_low h (by omega) ?_
  have h1 : q * a < 4294967296 * a := by omega
  have h2 : q < 4294967296 := Nat.lt_of_mul_lt_mul_right h1
  have h3 : q * c ≤ q * 4294967296 := Nat.mul_le_mul_left _ (by omega)
  omega
/-- The quotient is one digit. -/
theorem quot_digit (hd : d < 4294967296) (hu : u < a * 4294967296 + c) : (u * 4294967296 + d) / (a * 4294967296 + c) < 4294967296 := by
  rw [Nat.div_lt_iff_lt_mul (by omega)]
  omega
end
/-- Both digits, one behind the other. -/
theorem two_digits (B Y u x1 x0 : Nat) (hY : 0 < Y) :
    (u * (B * B) + (x1 * B + x0)) / Y = (u * B + x1) / Y * B + ((u * B + x1) % Y * B + x0) / Y ∧
    (u * (B * B) + (x1 * B + x0)) % Y = ((u * B + x1) % Y * B + x0) % Y := by
  have h1 := Nat.div_add_mod (u * B + x1) Y
  obtain ⟨q1, hq⟩ : ∃ q, q = (u * B + x1) / Y := ⟨_, rfl⟩
  obtain ⟨r1, hr⟩ : ∃ q, q = (u * B + x1) % Y := ⟨_, rfl⟩
  rw [← hq, ← hr] at h1 ⊢
  have e : u * (B * B) + (x1 * B + x0) = Y * (q1 * B) + (r1 * B + x0) := by
    have : (Y * q1 + r1) * B = (u * B + x1) * B := by rw [h1]
    rw [Nat.add_mul, Nat.add_mul, Nat.mul_assoc, Nat.mul_assoc] at this
    omega
  rw [e, Nat.mul_add_div hY, Nat.mul_add_mod]
  exact ⟨rfl, rfl⟩
/-- The number, moved up. -/
theorem moved_up {B hi lo s t : Nat} (hB : 2 ^ s * 2 ^ t = B) :
    (hi * 2 ^ s + lo / 2 ^ t) * B + lo * 2 ^ s % B = (hi * B + lo) * 2 ^ s := by
  have h1 : lo * 2 ^ s / B = lo / 2 ^ t := by
    rw [← hB, Nat.mul_comm lo, Nat.mul_div_mul_left _ _ (Nat.two_pow_pos s)]
  have h2 := Nat.div_add_mod (lo * 2 ^ s) B
  rw [h1, Nat.mul_comm B] at h2
  have h3 : (hi * B + lo) * 2 ^ s = hi * 2 ^ s * B + lo * 2 ^ s := by
    rw [Nat.add_mul, Nat.mul_assoc, Nat.mul_comm B, ← Nat.mul_assoc]
  rw [h3, Nat.add_mul]
  omega
theorem moved_quot {N y s : Nat} : N * 2 ^ s / (y * 2 ^ s) = N / y ∧ N * 2 ^ s % (y * 2 ^ s) / 2 ^ s = N % y := by
  have hp := Nat.two_pow_pos s
  refine ⟨Nat.mul_div_mul_right _ _ hp, ?_⟩
  rw [Nat.mul_mod_mul_right, Nat.mul_div_cancel _ hp]
end Go.Proofs.Ytalnhdfgjjhhbaa
