/- math/bits: Div64. -/
import Derived.Test.YtalnhdfgjjhhbaaDivLaw
import Derived.Deep.CutBlock
import Derived.Deep.DeepCutAuto
namespace Go.Proofs.Ytalnhdfgjjhhbaa
open Go.ChangeShapes Go.WideShapes Go.ChangeAt Go.RowKit
set_option linter.unusedVariables false
set_option maxRecDepth 100000

theorem wraps_u64 (n : Int) (h₀ : 0 ≤ n) (h₁ : n < 2 ^ 64) : IntKind.u64.wrap n = n := by rw [IntKind.wrap_u64]; omega
theorem u64_mask (n : Nat) (hn : n < 18446744073709551616) : bits .and .u64 (n : Int) 4294967295 = ((n % 4294967296 : Nat) : Int) := by
  have := bits_mask .u64 64 (by decide) wraps_u64 32 (by omega) (n : Int) (by omega) (by omega)
  have e : (2 : Int) ^ 32 - 1 = 4294967295 := by decide
  rw [e] at this
  rw [this]
  omega
/-- How a divisor is moved up. -/
theorem moved_div {y : Nat} (h0 : y ≠ 0) (h : y < 18446744073709551616) : ∃ s Y : Nat, (64 : Int) - (Lib.bitLen y : Int) = s ∧ s ≤ 63 ∧ y * 2 ^ s = Y ∧ 9223372036854775808 ≤ Y ∧ Y < 18446744073709551616 := by
  have hb := Lib.bitLenAux_bounds 64 y (by simpa using h) h0
  have h1 : 2 ^ (Lib.bitLen y - 1) ≤ y := hb.2.1
  have h2 : y < 2 ^ Lib.bitLen y := hb.2.2
  have h3 : 1 ≤ Lib.bitLen y := hb.1
  have h4 : Lib.bitLen y ≤ 64 := by
    apply Classical.byContradiction
    intro hn
    have := Nat.pow_le_pow_right (n := 2) (by decide) (show 64 ≤ Lib.bitLen y - 1 by omega)
    omega
  obtain ⟨n, hn⟩ : ∃ n, n = Lib.bitLen y := ⟨_, rfl⟩
  rw [← hn] at h1 h2 h3 h4 ⊢
  refine ⟨64 - n, _, by omega, by omega, rfl, ?_, ?_⟩
  · have e : 2 ^ (n - 1) * 2 ^ (64 - n) = 9223372036854775808 := by rw [← Nat.pow_add, show n - 1 + (64 - n) = 63 by omega]
    rw [← e]; exact Nat.mul_le_mul_right _ h1
  · have e : 2 ^ n * 2 ^ (64 - n) = 18446744073709551616 := by rw [← Nat.pow_add, show n + (64 - n) = 64 by omega]
    rw [← e]; exact Nat.mul_lt_mul_of_pos_right h2 (Nat.two_pow_pos _)
/-- What the letters of a division are: the divisor moved up is a*2^32 + c, the number moved up is (u, x1, x0). -/
structure DivFacts (hi lo y s a c u x1 x0 : Nat) : Prop where
  s63 : s ≤ 63
  eY : y * 2 ^ s = a * 4294967296 + c
  a1 : 2147483648 ≤ a
  a2 : a < 4294967296
  lc : c < 4294967296
  eu : u = hi * 2 ^ s + lo / 2 ^ (64 - s)
  uY : u < a * 4294967296 + c
  et : lo * 2 ^ s % 18446744073709551616 = x1 * 4294967296 + x0
  l1 : x1 < 4294967296
  l0 : x0 < 4294967296
theorem div_facts {hi lo y s Y : Nat} (hs : s ≤ 63) (hY : y * 2 ^ s = Y) (hY1 : 9223372036854775808 ≤ Y) (hY2 : Y < 18446744073709551616) (hhi : hi < y) (hlo : lo < 18446744073709551616) :
    ∃ a c u x1 x0, DivFacts hi lo y s a c u x1 x0 := by
  have h64 : 2 ^ s * 2 ^ (64 - s) = 18446744073709551616 := by rw [← Nat.pow_add, show s + (64 - s) = 64 by omega]
  have hu : hi * 2 ^ s + lo / 2 ^ (64 - s) < Y := by
    have h1 : lo / 2 ^ (64 - s) < 2 ^ s := by
      apply Nat.div_lt_of_lt_mul
      rw [Nat.mul_comm, h64]; exact hlo
    have h2 : (hi + 1) * 2 ^ s ≤ y * 2 ^ s := Nat.mul_le_mul_right _ hhi
    rw [Nat.add_mul, Nat.one_mul] at h2
    omega
  have ht := Nat.mod_lt (lo * 2 ^ s) (show 0 < 18446744073709551616 by decide)
  obtain ⟨t, htt⟩ : ∃ t, t = lo * 2 ^ s % 18446744073709551616 := ⟨_, rfl⟩
  rw [← htt] at ht
  exact ⟨Y / 4294967296, Y % 4294967296, _, t / 4294967296, t % 4294967296, hs, by omega, by omega, by omega, by omega, rfl, by omega, by rw [← htt]; omega, by omega, by omega⟩
theorem div_end {hi lo y s a c u x1 x0 : Nat} (h : DivFacts hi lo y s a c u x1 x0) :
    (hi * 18446744073709551616 + lo) / y = (u * 4294967296 + x1) / (a * 4294967296 + c) * 4294967296 + ((u * 4294967296 + x1) % (a * 4294967296 + c) * 4294967296 + x0) / (a * 4294967296 + c) ∧
    (hi * 18446744073709551616 + lo) % y = ((u * 4294967296 + x1) % (a * 4294967296 + c) * 4294967296 + x0) % (a * 4294967296 + c) / 2 ^ s := by
  have hs := h.s63
  have h64 : 2 ^ s * 2 ^ (64 - s) = 18446744073709551616 := by rw [← Nat.pow_add, show s + (64 - s) = 64 by omega]
  have h1 := moved_up (hi := hi) (lo := lo) h64
  rw [h.et, ← h.eu] at h1
  have ha := h.a1
  have h2 := two_digits 4294967296 (a * 4294967296 + c) u x1 x0 (by omega)
  simp only [Nat.reduceMul] at h2
  rw [h1] at h2
  have h3 := moved_quot (N := hi * 18446744073709551616 + lo) (y := y) (s := s)
  rw [h.eY] at h3
  rw [← h3.1, ← h3.2, h2.1, h2.2]
  exact ⟨rfl, rfl⟩
/-- One round of guessing: the invariant. -/
structure Guess (a c u d q rh : Nat) : Prop where
  eq : q * a + rh = u
  ge : (u * 4294967296 + d) / (a * 4294967296 + c) ≤ q
  rh : rh < 4294967296
section
variable {a c u d q rh : Nat}
theorem Guess.start (ha1 : 2147483648 ≤ a) (ha2 : a < 4294967296) (hc : c < 4294967296) (hd : d < 4294967296) (hu : u < a * 4294967296 + c) : Guess a c u d (u / a) (u % a) := by
  have h1 := Nat.div_add_mod u a
  have h2 := Nat.mod_lt u (show 0 < a by omega)
  rw [Nat.mul_comm] at h1
  obtain ⟨q, hq⟩ : ∃ q, q = u / a := ⟨_, rfl⟩
  obtain ⟨r, hr⟩ : ∃ r, r = u % a := ⟨_, rfl⟩
  rw [← hq, ← hr] at h1 ⊢
  rw [← hr] at h2
  refine ⟨h1, ?_, by omega⟩
  apply Nat.le_of_lt_succ
  rw [Nat.div_lt_iff_lt_mul (by omega)]
  have h4 : u < q.succ * a := by rw [Nat.succ_mul]; omega
  have h5 : q.succ * (a * 4294967296 + c) = q.succ * a * 4294967296 + q.succ * c := by rw [Nat.mul_add, Nat.mul_assoc]
  rw [h5]
  omega
theorem Guess.q_le (h : Guess a c u d q rh) (ha1 : 2147483648 ≤ a) (hc : c < 4294967296) (hu : u < a * 4294967296 + c) : q ≤ 4294967298 := by
  have h1 := h.eq
  apply Classical.byContradiction
  intro hn
  have h2 : 4294967299 * a ≤ q * a := Nat.mul_le_mul_right _ (by omega)
  omega
/-- It was too great: one less. -/
theorem Guess.down (h : Guess a c u d q rh) (hd : d < 4294967296) (hu : u < a * 4294967296 + c) (ht : 4294967296 ≤ q ∨ 4294967296 * rh + d < q * c) : 1 ≤ q ∧ (u * 4294967296 + d) / (a * 4294967296 + c) ≤ q - 1 ∧ (q - 1) * a + (rh + a) = u := by
  have h1 := guess_high hd hu h.eq ht
  have h2 := h.eq
  obtain ⟨T, hT⟩ : ∃ T, T = (u * 4294967296 + d) / (a * 4294967296 + c) := ⟨_, rfl⟩
  rw [← hT] at h1 ⊢
  refine ⟨by omega, by omega, ?_⟩
  have h3 : q * a = (q - 1) * a + a := by
    have : q = (q - 1) + 1 := by omega
    conv => lhs; rw [this, Nat.add_mul, Nat.one_mul]
  omega
theorem Guess.fin (h : Guess a c u d q rh) (ha : 0 < a) (ht : q * c ≤ 4294967296 * rh + d) : q = (u * 4294967296 + d) / (a * 4294967296 + c) :=
  Nat.le_antisymm (guess_low h.eq (by omega) ht) h.ge
end
/-- What is left: in words that wrap. -/
theorem left_over {u d a c q r : Nat} (hY : 0 < a * 4294967296 + c) (hY2 : a * 4294967296 + c < 18446744073709551616) (hq : q = (u * 4294967296 + d) / (a * 4294967296 + c)) (hr : r = (u * 4294967296 + d) % (a * 4294967296 + c)) :
    IntKind.u64.wrap (IntKind.u64.wrap (IntKind.u64.wrap ((u : Int) * 4294967296) + (d : Int)) - IntKind.u64.wrap ((q : Int) * ((a : Int) * 4294967296 + (c : Int)))) = (r : Int) := by
  obtain ⟨Y, hYe⟩ : ∃ Y, Y = a * 4294967296 + c := ⟨_, rfl⟩
  rw [show (a : Int) * 4294967296 + (c : Int) = (Y : Int) by omega]
  rw [← hYe] at hY hY2 hq hr
  have h1 := Nat.div_add_mod (u * 4294967296 + d) Y
  have h2 := Nat.mod_lt (u * 4294967296 + d) hY
  rw [← hq] at h1
  rw [← hr] at h1 h2
  obtain ⟨p, hp⟩ : ∃ p, p = Y * q := ⟨_, rfl⟩
  have e : (q : Int) * (Y : Int) = (p : Int) := by rw [hp, Nat.mul_comm]; push_cast; rfl
  rw [← hp] at h1
  rw [e]
  simp only [IntKind.wrap_u64]
  omega
theorem sub_of_add {m r u : Nat} (h : m + r = u) : (u : Int) - (m : Int) = (r : Int) := by omega
set_option maxHeartbeats 4000000 in
theorem bits_Div64 (w : World) (hi lo y : Nat) (hy : y < 18446744073709551616) (hhi : hi < y) (hlo : lo < 18446744073709551616) :
    Calls Try.prog 87 #[.int .u64 hi, .int .u64 lo, .int .u64 y] w fun e w' => e = .returned (.tuple #[.int .u64 ((hi * 18446744073709551616 + lo) / y : Nat), .int .u64 ((hi * 18446744073709551616 + lo) % y : Nat)]) ∧ Below w.heap.size w w' := by
  by_cases h0 : hi = 0
  · subst h0
    have q1 : (0 : Int) ≤ (lo : Int) / (y : Int) := Int.ediv_nonneg (by omega) (by omega)
    have q2 : (lo : Int) / (y : Int) ≤ lo := Int.ediv_le_self _ (by omega)
    have q3 : (0 : Int) ≤ (lo : Int) % (y : Int) := Int.emod_nonneg _ (by omega)
    have q4 : (lo : Int) % (y : Int) < y := Int.emod_lt_of_pos _ (by omega)
    have y1 : (1 : Int) ≤ (y : Int) := by omega
    have y0 : ((y : Int) == 0) = false := by simp; omega
    go_enter Try.func87, Try.ntmps87
    go_wp2_with fail
    refine wp_region_ext (by kernel_rfl) (by kernel_rfl) ?_
    repeat (go_big_quiet_step (fail))
    refine wpQuiet_nil ?_
    intro w1 hb1
    replace hb1 := below_of_ext hb1
    have B1 : Below w.heap.size w w1 := Below.then_ (by repeat (first | with_reducible exact Below.refl _ _ | with_reducible assumption | ((with_reducible refine Below.setCell ?_ ?_ _); rotate_left; · (first | omega | exact Nat.le_refl _ | (simp <;> omega))) | (with_reducible refine Below.allocW ?_ _) | (with_reducible refine Below.drew ?_) | (with_reducible refine Below.extW ?_ _))) hb1
    have s1 : w.heap.size ≤ w1.heap.size := B1.size
    go_wp2_with fail
    go_ret2
    exact ⟨by simp, (by repeat (first | with_reducible exact Below.refl _ _ | with_reducible assumption | ((with_reducible refine Below.setCell ?_ ?_ _); rotate_left; · (first | omega | exact Nat.le_refl _ | (simp <;> omega))) | (with_reducible refine Below.allocW ?_ _) | (with_reducible refine Below.drew ?_) | (with_reducible refine Below.extW ?_ _)))⟩
  · obtain ⟨s, Y, hs, hs63, hY, hY1, hY2⟩ := moved_div (show y ≠ 0 by omega) hy
    obtain ⟨a, c, u, x1, x0, hF⟩ := div_facts hs63 hY hY1 hY2 hhi hlo
    have y0 : ((y : Int) == 0) = false := by simp; omega
    have hi0 : ((hi : Int) == 0) = false := by simp; omega
    have e1 : (y : Int) * 2 ^ s = (a : Int) * 4294967296 + (c : Int) := by have := hF.eY; rw [show (y : Int) * 2 ^ s = ((y * 2 ^ s : Nat) : Int) by push_cast; rfl, this]; omega
    have e2 : ((a : Int) * 4294967296 + (c : Int)) / 4294967296 = (a : Int) := by have := hF.lc; omega
    have e3 : bits .and .u64 ((a : Int) * 4294967296 + (c : Int)) 4294967295 = (c : Int) := by
      have h1 := hF.lc
      have h2 := hF.a2
      have := u64_mask (a * 4294967296 + c) (by omega)
      rw [show ((a * 4294967296 + c : Nat) : Int) = (a : Int) * 4294967296 + (c : Int) by omega] at this
      rw [this]; omega
    have e4 : bits .or .u64 (IntKind.u64.wrap ((hi : Int) * 2 ^ s)) ((lo : Int) / 2 ^ (64 - s)) = (u : Int) := by
      have h1 := hF.eu
      have h2 := hF.uY
      have h3 := hF.lc
      have h4 := hF.a2
      have h64 : 2 ^ s * 2 ^ (64 - s) = 18446744073709551616 := by rw [← Nat.pow_add, show s + (64 - s) = 64 by omega]
      have h5 : lo / 2 ^ (64 - s) < 2 ^ s := by
        apply Nat.div_lt_of_lt_mul
        rw [Nat.mul_comm, h64]; exact hlo
      have p1 : (hi : Int) * 2 ^ s = ((hi * 2 ^ s : Nat) : Int) := by push_cast; rfl
      have p2 : (lo : Int) / 2 ^ (64 - s) = ((lo / 2 ^ (64 - s) : Nat) : Int) := by push_cast; rfl
      have p3 : ((2 ^ s : Nat) : Int) = 2 ^ s := by push_cast; rfl
      have p4 : ((hi * 2 ^ s : Nat) : Int) % 2 ^ s = 0 := by rw [← p1]; exact Int.mul_emod_left _ _
      obtain ⟨H, hH⟩ : ∃ H, H = hi * 2 ^ s := ⟨_, rfl⟩
      obtain ⟨L, hL⟩ : ∃ L, L = lo / 2 ^ (64 - s) := ⟨_, rfl⟩
      rw [← hH] at p1 p4 h1
      rw [← hL] at p2 h1 h5
      rw [p1, p2, wraps_u64 _ (by omega) (by omega)]
      have := bits_join .u64 64 (by decide) wraps_u64 s (H : Int) (L : Int) (by omega) p4 (by omega) (by omega) (by rw [← p3]; omega) (by omega)
      rw [this, h1]; omega
    have e5 : IntKind.u64.wrap ((lo : Int) * 2 ^ s) = (x1 : Int) * 4294967296 + (x0 : Int) := by
      have h1 := hF.et
      rw [show (lo : Int) * 2 ^ s = ((lo * 2 ^ s : Nat) : Int) by push_cast; rfl, IntKind.wrap_u64]
      omega
    have e6 : ((x1 : Int) * 4294967296 + (x0 : Int)) / 4294967296 = (x1 : Int) := by have := hF.l0; omega
    have e7 : bits .and .u64 ((x1 : Int) * 4294967296 + (x0 : Int)) 4294967295 = (x0 : Int) := by
      have h1 := hF.l0
      have h2 := hF.l1
      have := u64_mask (x1 * 4294967296 + x0) (by omega)
      rw [show ((x1 * 4294967296 + x0 : Nat) : Int) = (x1 : Int) * 4294967296 + (x0 : Int) by omega] at this
      rw [this]; omega
    have hlz : Hid (∀ W, Calls Try.prog 101 #[.int .u64 y] W fun e w' => e = .returned (.int .i64 s) ∧ w' = W) := Lib.hid fun W => by
      have := Try.bits_LeadingZeros64 (y : Int) W (by omega) (by omega)
      rw [Int.toNat_natCast, hs] at this
      exact this
    have a1 := hF.a1
    have a2 := hF.a2
    have c2 := hF.lc
    have uY := hF.uY
    have xx1 := hF.l1
    have xx0 := hF.l0
    have G1 := Lib.hid (Guess.start (d := x1) a1 a2 c2 xx1 uY)
    have e8 : (u : Int) / (a : Int) = ((u / a : Nat) : Int) := by push_cast; rfl
    have e9 : ((u / a : Nat) : Int) * (a : Int) = ((u / a * a : Nat) : Int) := by push_cast; rfl
    have e10 : u / a * a + u % a = u := by have := Nat.div_add_mod u a; rw [Nat.mul_comm]; exact this
    obtain ⟨q0, hq0⟩ : ∃ q, q = u / a := ⟨_, rfl⟩
    obtain ⟨r0, hr0⟩ : ∃ q, q = u % a := ⟨_, rfl⟩
    obtain ⟨m0, hm0⟩ : ∃ q, q = q0 * a := ⟨_, rfl⟩
    rw [← hq0] at e8 e9 e10
    rw [← hq0, ← hr0] at G1
    rw [← hm0] at e9 e10
    rw [← hr0] at e10
    have e11 : (u : Int) - (m0 : Int) = (r0 : Int) := sub_of_add e10
    have hq0l : q0 ≤ 4294967298 := G1.out.q_le a1 c2 uY
    have HE := Lib.hid (div_end hF)
    have s1 : (s : Int) ≤ 63 := by omega
    clear hs hs63 hY hY1 hY2 hq0 hr0 hm0 e10 hF
    go_enter Try.func87, Try.ntmps87
    go_wp2_with fail
    refine (hlz.out _).mono ?_
    rintro e w1 ⟨rfl, rfl⟩
    go_upto_block 0 with fail
    go_cut [15, 16] (fun q rh wx => ∃ qn rn : Nat, q = .int .u64 qn ∧ rh = .int .u64 rn ∧ qn = (u * 4294967296 + x1) / (a * 4294967296 + c) ∧ w1 = wx)
    case first =>
      go_wp2_with fail
      go_loop [15, 16] (fun q rh => ∃ qn rn : Nat, q = .int .u64 qn ∧ rh = .int .u64 rn ∧ Guess a c u x1 qn rn) (fun q _ => (intOf q).toNat)
      case atStart => exact ⟨_, _, rfl, rfl, G1.out⟩
      case round =>
        obtain ⟨qn, rn, rfl, rfl, hG⟩ := hrel
        have HG := Lib.hid hG
        have g1 := hG.q_le a1 c2 uY
        have g2 := hG.rh
        clear hG
        by_cases hq : 4294967296 ≤ qn
        · have HD := Lib.hid (HG.out.down xx1 uY (.inl hq))
          have g3 := HD.out.1
          have hq' : (4294967296 : Int) ≤ (qn : Int) := by omega
          by_cases hb : 4294967296 ≤ rn + a
          · have HF := Lib.hid (Nat.le_antisymm (guess_break (d := x1) c2 uY HD.out.2.2 hb) HD.out.2.1)
            have hb' : (4294967296 : Int) ≤ (rn : Int) + (a : Int) := by omega
            go_wp2_with fail
            go_meet
            exact ⟨qn - 1, rn + a, by go_num, by go_num, HF.out, rfl⟩
          · have hb' : ¬ (4294967296 : Int) ≤ (rn : Int) + (a : Int) := by omega
            go_wp2_with fail
            go_round
            case rel => exact ⟨qn - 1, rn + a, by go_num, by go_num, HD.out.2.2, HD.out.2.1, by omega⟩
            case measure => simp [intOf]; omega
        · have hR : qn * c ≤ 18446744073709551615 := by
            have h1 : qn * c ≤ 4294967295 * c := Nat.mul_le_mul_right _ (by omega)
            omega
          have e12 : (qn : Int) * (c : Int) = ((qn * c : Nat) : Int) := by push_cast; rfl
          have hqd : decide ((4294967296 : Int) ≤ (qn : Int)) = false := by simp; omega
          have hqn : qn ≤ 4294967295 := by omega
          clear hq
          obtain ⟨R, hRe⟩ : ∃ R, R = qn * c := ⟨_, rfl⟩
          rw [← hRe] at e12 hR
          by_cases ht : 4294967296 * rn + x1 < R
          · have HD := Lib.hid (HG.out.down xx1 uY (.inr (by rw [← hRe]; exact ht)))
            have g3 := HD.out.1
            have ht' : decide ((4294967296 : Int) * (rn : Int) + (x1 : Int) < (R : Int)) = true := by simp; omega
            clear ht
            clear hRe
            by_cases hb : 4294967296 ≤ rn + a
            · have HF := Lib.hid (Nat.le_antisymm (guess_break (d := x1) c2 uY HD.out.2.2 hb) HD.out.2.1)
              have hb' : (4294967296 : Int) ≤ (rn : Int) + (a : Int) := by omega
              go_wp2_with fail
              go_meet
              exact ⟨qn - 1, rn + a, by go_num, by go_num, HF.out, rfl⟩
            · have hb' : ¬ (4294967296 : Int) ≤ (rn : Int) + (a : Int) := by omega
              go_wp2_with fail
              go_round
              case rel => exact ⟨qn - 1, rn + a, by go_num, by go_num, HD.out.2.2, HD.out.2.1, by omega⟩
              case measure => simp [intOf]; omega
          · have HF := Lib.hid (HG.out.fin (by omega) (by rw [← hRe]; omega))
            have ht' : decide ((4294967296 : Int) * (rn : Int) + (x1 : Int) < (R : Int)) = false := by simp; omega
            clear ht
            clear hRe
            go_wp2_with fail
            go_meet
            exact ⟨qn, rn, rfl, rfl, HF.out, rfl⟩
    case rest =>
      obtain ⟨qn, rn, rfl, rfl, hq, rfl⟩ := hcut
      have HQ := Lib.hid hq
      have hqd := quot_digit xx1 uY
      rw [← hq] at hqd
      have hqd' : qn ≤ 4294967295 := by omega
      obtain ⟨r, hr⟩ : ∃ r, r = (u * 4294967296 + x1) % (a * 4294967296 + c) := ⟨_, rfl⟩
      have e20 := left_over (by omega) (by omega) hq hr
      have rY : r < a * 4294967296 + c := by rw [hr]; exact Nat.mod_lt _ (by omega)
      have HR := Lib.hid hr
      have G2 := Lib.hid (Guess.start (d := x0) a1 a2 c2 xx0 rY)
      have f8 : (r : Int) / (a : Int) = ((r / a : Nat) : Int) := by push_cast; rfl
      have f9 : ((r / a : Nat) : Int) * (a : Int) = ((r / a * a : Nat) : Int) := by push_cast; rfl
      have f10 : r / a * a + r % a = r := by have := Nat.div_add_mod r a; rw [Nat.mul_comm]; exact this
      obtain ⟨q2, hq2⟩ : ∃ q, q = r / a := ⟨_, rfl⟩
      obtain ⟨r2, hr2⟩ : ∃ q, q = r % a := ⟨_, rfl⟩
      obtain ⟨m2, hm2⟩ : ∃ q, q = q2 * a := ⟨_, rfl⟩
      rw [← hq2] at f8 f9 f10
      rw [← hq2, ← hr2] at G2
      rw [← hm2] at f9 f10
      rw [← hr2] at f10
      have f11 : (r : Int) - (m2 : Int) = (r2 : Int) := sub_of_add f10
      have hq2l : q2 ≤ 4294967298 := G2.out.q_le a1 c2 rY
      clear hq hqd hr hq2 hr2 hm2 f10 e8 e9 e11
      go_upto_block 2 with fail
      go_cut [18, 16] (fun q rh wx => ∃ qm rm : Nat, q = .int .u64 qm ∧ rh = .int .u64 rm ∧ qm = (r * 4294967296 + x0) / (a * 4294967296 + c) ∧ w1 = wx)
      case first =>
        go_wp2_with fail
        go_loop [18, 16] (fun q rh => ∃ qn rn : Nat, q = .int .u64 qn ∧ rh = .int .u64 rn ∧ Guess a c r x0 qn rn) (fun q _ => (intOf q).toNat)
        case atStart => exact ⟨_, _, rfl, rfl, G2.out⟩
        case round =>
          obtain ⟨qn, rn, rfl, rfl, hG⟩ := hrel
          have HG := Lib.hid hG
          have g1 := hG.q_le a1 c2 rY
          have g2 := hG.rh
          clear hG
          by_cases hq : 4294967296 ≤ qn
          · have HD := Lib.hid (HG.out.down xx0 rY (.inl hq))
            have g3 := HD.out.1
            have hq' : (4294967296 : Int) ≤ (qn : Int) := by omega
            by_cases hb : 4294967296 ≤ rn + a
            · have HF := Lib.hid (Nat.le_antisymm (guess_break (d := x0) c2 rY HD.out.2.2 hb) HD.out.2.1)
              have hb' : (4294967296 : Int) ≤ (rn : Int) + (a : Int) := by omega
              go_wp2_with fail
              go_meet
              exact ⟨qn - 1, rn + a, by go_num, by go_num, HF.out, rfl⟩
            · have hb' : ¬ (4294967296 : Int) ≤ (rn : Int) + (a : Int) := by omega
              go_wp2_with fail
              go_round
              case rel => exact ⟨qn - 1, rn + a, by go_num, by go_num, HD.out.2.2, HD.out.2.1, by omega⟩
              case measure => simp [intOf]; omega
          · have hR : qn * c ≤ 18446744073709551615 := by
              have h1 : qn * c ≤ 4294967295 * c := Nat.mul_le_mul_right _ (by omega)
              omega
            have e12 : (qn : Int) * (c : Int) = ((qn * c : Nat) : Int) := by push_cast; rfl
            have hqd : decide ((4294967296 : Int) ≤ (qn : Int)) = false := by simp; omega
            have hqn : qn ≤ 4294967295 := by omega
            clear hq
            obtain ⟨R, hRe⟩ : ∃ R, R = qn * c := ⟨_, rfl⟩
            rw [← hRe] at e12 hR
            by_cases ht : 4294967296 * rn + x0 < R
            · have HD := Lib.hid (HG.out.down xx0 rY (.inr (by rw [← hRe]; exact ht)))
              have g3 := HD.out.1
              have ht' : decide ((4294967296 : Int) * (rn : Int) + (x0 : Int) < (R : Int)) = true := by simp; omega
              clear ht
              clear hRe
              by_cases hb : 4294967296 ≤ rn + a
              · have HF := Lib.hid (Nat.le_antisymm (guess_break (d := x0) c2 rY HD.out.2.2 hb) HD.out.2.1)
                have hb' : (4294967296 : Int) ≤ (rn : Int) + (a : Int) := by omega
                go_wp2_with fail
                go_meet
                exact ⟨qn - 1, rn + a, by go_num, by go_num, HF.out, rfl⟩
              · have hb' : ¬ (4294967296 : Int) ≤ (rn : Int) + (a : Int) := by omega
                go_wp2_with fail
                go_round
                case rel => exact ⟨qn - 1, rn + a, by go_num, by go_num, HD.out.2.2, HD.out.2.1, by omega⟩
                case measure => simp [intOf]; omega
            · have HF := Lib.hid (HG.out.fin (by omega) (by rw [← hRe]; omega))
              have ht' : decide ((4294967296 : Int) * (rn : Int) + (x0 : Int) < (R : Int)) = false := by simp; omega
              clear ht
              clear hRe
              go_wp2_with fail
              go_meet
              exact ⟨qn, rn, rfl, rfl, HF.out, rfl⟩
      case rest =>
        obtain ⟨qm, rm, rfl, rfl, hq, rfl⟩ := hcut
        have HQ2 := Lib.hid hq
        have hqd := quot_digit xx0 rY
        rw [← hq] at hqd
        have hqd2 : qm ≤ 4294967295 := by omega
        obtain ⟨z, hz⟩ : ∃ z, z = (r * 4294967296 + x0) % (a * 4294967296 + c) := ⟨_, rfl⟩
        have e21 := left_over (by omega) (by omega) hq hz
        have zY : z < a * 4294967296 + c := by rw [hz]; exact Nat.mod_lt _ (by omega)
        have HZ := Lib.hid hz
        clear hq hqd hz f8 f9 f11 e20
        go_wp2_with fail
        go_ret2
        have h1 := HE.out
        rw [← HQ.out, ← HR.out, ← HQ2.out, ← HZ.out] at h1
        refine ⟨?_, (by repeat (first | with_reducible exact Below.refl _ _ | with_reducible assumption | ((with_reducible refine Below.setCell ?_ ?_ _); rotate_left; · (first | omega | exact Nat.le_refl _ | (simp <;> omega))) | (with_reducible refine Below.allocW ?_ _) | (with_reducible refine Below.drew ?_) | (with_reducible refine Below.extW ?_ _)))⟩
        rw [h1.1, h1.2]
        simp
end Go.Proofs.Ytalnhdfgjjhhbaa
