/- Chapter 16: what is told never falls. -/
import Derived.Test.YtalnhdfgjjhhbaaLoad16
namespace Go.Proofs.Ytalnhdfgjjhhbaa
open Go.ChangeShapes Go.WideShapes Go.ChangeAt Go.RowKit
set_option linter.unusedVariables false
set_option maxRecDepth 100000

theorem weighR_mono {l : Int} {f g : Int → Int → Bool} {r : List Nd} (h : Roll r) (hfg : ∀ x ∈ r, f (endsOf l x.1).1 (endsOf l x.1).2.1 = true → g (endsOf l x.1).1 (endsOf l x.1).2.1 = true) : weighR l f r ≤ weighR l g r := by
  induction r with
  | nil => simp [weighR]
  | cons x r ih =>
    have hx := h.2 x (by simp)
    have h1 := hfg x (by simp)
    have h2 := ih h.tail fun y hy => hfg y (by simp [hy])
    simp only [weighR]
    by_cases hf : f (endsOf l x.1).1 (endsOf l x.1).2.1 = true
    · rw [if_pos hf, if_pos (h1 hf)]; omega
    · rw [if_neg hf]; split <;> omega
theorem weighR_all {l : Int} {f : Int → Int → Bool} {r : List Nd} (h : ∀ x ∈ r, f (endsOf l x.1).1 (endsOf l x.1).2.1 = true) : weighR l f r = sumR r := by
  induction r with
  | nil => rfl
  | cons x r ih =>
    simp only [weighR, sumR]
    rw [if_pos (h x (by simp)), ih fun y hy => h y (by simp [hy])]
theorem weighR_none {l : Int} {f : Int → Int → Bool} {r : List Nd} (h : ∀ x ∈ r, f (endsOf l x.1).1 (endsOf l x.1).2.1 = false) : weighR l f r = 0 := by
  induction r with
  | nil => rfl
  | cons x r ih =>
    simp only [weighR]
    rw [if_neg (by rw [h x (by simp)]; simp), ih fun y hy => h y (by simp [hy])]; rfl
/-- The ends of a node are values of the universe, the first one is not above the last one. -/
theorem ends_bounds {l : Nat} {id : Int} (h : isNode l id = true) : 0 ≤ (endsOf l id).1 ∧ (endsOf l id).1 ≤ (endsOf l id).2.1 ∧ (endsOf l id).2.1 ≤ 2 ^ l - 1 := by
  obtain ⟨n, x, hn, rfl, hn1, hn2, hx1, hx2⟩ := isNode_nat h
  obtain rfl : n = l := by omega
  obtain ⟨d, b, t, hd, hb, hdb, hxt, htd, hprod⟩ := node_facts hn2 hx1 hx2
  have e1 : endsOf n x = ((t : Int) * 2 ^ b, (t : Int) * 2 ^ b + 2 ^ b - 1, true) := by
    simp only [endsOf, h, if_true, Int.toNat_natCast, hd, hb]
    have : (x : Int) - 2 ^ d = t := by rw [hxt]; push_cast; omega
    rw [this]
  rw [e1]
  have q3 := pow_pos' b
  have q8 : (t : Int) * 2 ^ b + 2 ^ b ≤ 2 ^ n := by
    have h : (((t + 1) * 2 ^ b : Nat) : Int) ≤ ((2 ^ n : Nat) : Int) := by exact_mod_cast hprod
    push_cast at h
    rw [Int.add_mul, Int.one_mul] at h
    exact h
  have q9 : 0 ≤ (t : Int) * 2 ^ b := Int.mul_nonneg (by omega) (by omega)
  simp only
  omega
theorem right_node {l : Int} {r : List Nd} (h : rightOf l r = true) : ∀ x ∈ r, isNode l x.1 = true := by
  simp only [rightOf, Bool.and_eq_true] at h
  intro x hx
  exact ((rises_roll h.1.1).1 x hx).2.1
theorem low_le {l : Int} {r : List Nd} (h : Roll r) {a b : Int} (hab : a ≤ b) : lowOf l r a ≤ lowOf l r b := weighR_mono h fun x _ hx => by simp at hx ⊢; omega
theorem high_le {l : Int} {r : List Nd} (h : Roll r) {a b : Int} (hab : a ≤ b) : highOf l r a ≤ highOf l r b := weighR_mono h fun x _ hx => by simp at hx ⊢; omega
theorem low_high {l : Nat} {r : List Nd} (h : Roll r) (hr : rightOf l r = true) (a : Int) : lowOf l r a ≤ highOf l r a := weighR_mono h fun x hx h1 => by
  have := ends_bounds (right_node hr x hx)
  simp at h1 ⊢; omega
theorem low_top {l : Nat} {r : List Nd} (hr : rightOf l r = true) {a : Int} (ha : 2 ^ l - 1 ≤ a) : lowOf l r a = sumR r := weighR_all fun x hx => by
  have := ends_bounds (right_node hr x hx)
  simp; omega
theorem high_top {l : Nat} {r : List Nd} (hr : rightOf l r = true) {a : Int} (ha : 2 ^ l - 1 ≤ a) : highOf l r a = sumR r := weighR_all fun x hx => by
  have := ends_bounds (right_node hr x hx)
  simp; omega
theorem low_zero {l : Nat} {r : List Nd} (hr : rightOf l r = true) {a : Int} (ha : a < 0) : lowOf l r a = 0 := weighR_none fun x hx => by
  have := ends_bounds (right_node hr x hx)
  simp; omega
theorem high_zero {l : Nat} {r : List Nd} (hr : rightOf l r = true) {a : Int} (ha : a < 0) : highOf l r a = 0 := weighR_none fun x hx => by
  have := ends_bounds (right_node hr x hx)
  simp; omega

theorem law_RankRises_no (l k K : Int) (r : List Nd) (A : Option Addr) (cap : Nat) (a b : Int) (w : World) (h : ¬ goodL l k K r) (hS : Sl w w.heap.size encN A r) (hI : ints r) (hm : r.length ≤ maxLen) :
    Calls Try.prog 3 #[loadedV l k K A r.length cap, .int .i64 a, .int .i64 b] w fun e w' => e = .returned (.bool true) ∧ Below w.heap.size w w' := by
  have HC := Lib.hid (law16_Load_no · l k K A cap r h · hI hm)
  have HS := Lib.hid hS
  clear h hS
  unfold loadedV refDig at HC
  unfold loadedV
  go_enter Try.func3, Try.ntmps3
  go_wp2_with fail
  refine (HC.out _ (HS.out.keep (by simp) fun p hp => Go.RowKit.Below.cell (B := w.heap.size) (w := w) (by repeat (first | with_reducible exact Below.refl _ _ | with_reducible assumption | ((with_reducible refine Below.setCell ?_ ?_ _); rotate_left; · (first | omega | exact Nat.le_refl _ | (simp <;> omega))) | (with_reducible refine Below.allocW ?_ _) | (with_reducible refine Below.drew ?_) | (with_reducible refine Below.extW ?_ _))) hp)).mono ?_
  rintro e w1 ⟨rfl, hb1⟩
  have B1 : Below w.heap.size w w1 := Below.then_ (by repeat (first | with_reducible exact Below.refl _ _ | with_reducible assumption | ((with_reducible refine Below.setCell ?_ ?_ _); rotate_left; · (first | omega | exact Nat.le_refl _ | (simp <;> omega))) | (with_reducible refine Below.allocW ?_ _) | (with_reducible refine Below.drew ?_) | (with_reducible refine Below.extW ?_ _))) hb1
  have s1 : w.heap.size ≤ w1.heap.size := B1.size
  have z1_0 : w.heap.size < w1.heap.size := by have := hb1.size; (try simp at this); omega
  have y1_0 : w.heap.size ≤ w1.heap.size := Nat.le_of_lt z1_0
  have c1_0 := fun o => hb1.cell (p := ⟨w.heap.size, o, none⟩) (by first | omega | (simp <;> omega))
  have f1_0 := fun o => hb1.frozen (p := ⟨w.heap.size, o, none⟩) (by first | omega | (simp <;> omega))
  go_wp2_with fail
  refine (alive16 _).mono ?_
  rintro e w2 ⟨rfl, hb2⟩
  have B2 : Below w.heap.size w w2 := Below.then_ (by repeat (first | with_reducible exact Below.refl _ _ | with_reducible assumption | ((with_reducible refine Below.setCell ?_ ?_ _); rotate_left; · (first | omega | exact Nat.le_refl _ | (simp <;> omega))) | (with_reducible refine Below.allocW ?_ _) | (with_reducible refine Below.drew ?_) | (with_reducible refine Below.extW ?_ _))) hb2
  have s2 : w.heap.size ≤ w2.heap.size := B2.size
  go_wp2_with fail
  go_ret
  exact ⟨rfl, (by repeat (first | with_reducible exact Below.refl _ _ | with_reducible assumption | ((with_reducible refine Below.setCell ?_ ?_ _); rotate_left; · (first | omega | exact Nat.le_refl _ | (simp <;> omega))) | (with_reducible refine Below.allocW ?_ _) | (with_reducible refine Below.drew ?_) | (with_reducible refine Below.extW ?_ _)))⟩
theorem law_RankRises_yes (l K : Nat) (k : Int) (r : List Nd) (A : Option Addr) (cap : Nat) (a b : Int) (w : World) (h : goodL l k K r) (hS : Sl w w.heap.size encN A r) (hI : ints r) :
    Calls Try.prog 3 #[loadedV l k K A r.length cap, .int .i64 a, .int .i64 b] w fun e w' => e = .returned (.bool true) ∧ Below w.heap.size w w' := by
  have hn : r.length ≤ 67108864 := by have := h.1; omega
  have hr := (goodL_parts h.2.2).1
  have HC := Lib.hid (law16_Load · l K k A cap r h · hI)
  have HS := Lib.hid hS
  have HR := Lib.hid hr
  have HF := Lib.hid (right_fits hr).1
  clear h hS hr
  unfold loadedV refDig at HC
  unfold loadedV
  go_enter Try.func3, Try.ntmps3
  go_wp2_with fail
  refine (HC.out _ (HS.out.keep (by simp) fun p hp => Go.RowKit.Below.cell (B := w.heap.size) (w := w) (by repeat (first | with_reducible exact Below.refl _ _ | with_reducible assumption | ((with_reducible refine Below.setCell ?_ ?_ _); rotate_left; · (first | omega | exact Nat.le_refl _ | (simp <;> omega))) | (with_reducible refine Below.allocW ?_ _) | (with_reducible refine Below.drew ?_) | (with_reducible refine Below.extW ?_ _))) hp)).mono ?_
  rintro e w1 ⟨g, F, rfl, hD, _, hb1⟩
  have B1 : Below w.heap.size w w1 := Below.then_ (by repeat (first | with_reducible exact Below.refl _ _ | with_reducible assumption | ((with_reducible refine Below.setCell ?_ ?_ _); rotate_left; · (first | omega | exact Nat.le_refl _ | (simp <;> omega))) | (with_reducible refine Below.allocW ?_ _) | (with_reducible refine Below.drew ?_) | (with_reducible refine Below.extW ?_ _))) hb1
  have s1 : w.heap.size ≤ w1.heap.size := B1.size
  have z1_0 : w.heap.size < w1.heap.size := by have := hb1.size; (try simp at this); omega
  have y1_0 : w.heap.size ≤ w1.heap.size := Nat.le_of_lt z1_0
  have c1_0 := fun o => hb1.cell (p := ⟨w.heap.size, o, none⟩) (by first | omega | (simp <;> omega))
  have f1_0 := fun o => hb1.frozen (p := ⟨w.heap.size, o, none⟩) (by first | omega | (simp <;> omega))
  have KD := Lib.hid hD
  have hl := hD.l_le
  have q1 := hl.1
  have q2 := hl.2
  have q3 := pow_48 q2
  have q4 := pow_pos' l
  clear hD hl
  have hpq : min a b ≤ max a b := by omega
  go_wp2_with fail
  generalize min a b = p at hpq ⊢
  generalize max a b = q at hpq ⊢
  have HLp := Lib.hid (fun W hW => rank_Low W g K l k r F p hW hn)
  have HLq := Lib.hid (fun W hW => rank_Low W g K l k r F q hW hn)
  have HHp := Lib.hid (fun W hW => rank_High W g K l k r F p hW hn)
  have HHq := Lib.hid (fun W hW => rank_High W g K l k r F q hW hn)
  have HN := Lib.hid (fun W hW => digest_N W g K l k r F hW)
  have t1 := low_le (l := l) HF.out.roll hpq
  have t2 := high_le (l := l) HF.out.roll hpq
  have t3 := low_high HF.out.roll HR.out p
  have t4 := @low_top l r HR.out p
  have t5 := @high_top l r HR.out p
  have t6 := @low_zero l r HR.out p
  have t7 := @high_zero l r HR.out p
  generalize lowOf l r p = lp at HLp t1 t3 t4 t6
  generalize lowOf l r q = lq at HLq t1
  generalize highOf l r p = hp at HHp t2 t3 t5 t7
  generalize highOf l r q = hq at HHq t2
  generalize sumR r = n at HN t4 t5
  have u1 : decide (lq < lp) = false := by simpa using t1
  have u2 : decide (hq < hp) = false := by simpa using t2
  have u3 : decide (hp < lp) = false := by simpa using t3
  have KD1 := Lib.hid (KD.out.below ((Below.refl _ _).alloc (Nat.le_refl _) (.cells #[.int .i64 k, .int .i64 l, .slice A r.length cap] 31)))
  clear t1 t2 t3 hpq
  refine (HLp.out _ KD1.out).mono ?_
  rintro e w2 ⟨rfl, hb2⟩
  have B2 : Below w.heap.size w w2 := Below.then_ (by repeat (first | with_reducible exact Below.refl _ _ | with_reducible assumption | ((with_reducible refine Below.setCell ?_ ?_ _); rotate_left; · (first | omega | exact Nat.le_refl _ | (simp <;> omega))) | (with_reducible refine Below.allocW ?_ _) | (with_reducible refine Below.drew ?_) | (with_reducible refine Below.extW ?_ _))) hb2
  have s2 : w.heap.size ≤ w2.heap.size := B2.size
  have KD2 := Lib.hid (KD1.out.below hb2)
  go_wp2_with fail
  refine (HLq.out _ KD2.out).mono ?_
  rintro e w3 ⟨rfl, hb3⟩
  have B3 : Below w.heap.size w w3 := Below.then_ (by repeat (first | with_reducible exact Below.refl _ _ | with_reducible assumption | ((with_reducible refine Below.setCell ?_ ?_ _); rotate_left; · (first | omega | exact Nat.le_refl _ | (simp <;> omega))) | (with_reducible refine Below.allocW ?_ _) | (with_reducible refine Below.drew ?_) | (with_reducible refine Below.extW ?_ _))) hb3
  have s3 : w.heap.size ≤ w3.heap.size := B3.size
  have KD3 := Lib.hid (KD2.out.below hb3)
  go_wp2_with fail
  refine (HHp.out _ KD3.out).mono ?_
  rintro e w4 ⟨rfl, hb4⟩
  have B4 : Below w.heap.size w w4 := Below.then_ (by repeat (first | with_reducible exact Below.refl _ _ | with_reducible assumption | ((with_reducible refine Below.setCell ?_ ?_ _); rotate_left; · (first | omega | exact Nat.le_refl _ | (simp <;> omega))) | (with_reducible refine Below.allocW ?_ _) | (with_reducible refine Below.drew ?_) | (with_reducible refine Below.extW ?_ _))) hb4
  have s4 : w.heap.size ≤ w4.heap.size := B4.size
  have KD4 := Lib.hid (KD3.out.below hb4)
  go_wp2_with fail
  refine (HHq.out _ KD4.out).mono ?_
  rintro e w5 ⟨rfl, hb5⟩
  have B5 : Below w.heap.size w w5 := Below.then_ (by repeat (first | with_reducible exact Below.refl _ _ | with_reducible assumption | ((with_reducible refine Below.setCell ?_ ?_ _); rotate_left; · (first | omega | exact Nat.le_refl _ | (simp <;> omega))) | (with_reducible refine Below.allocW ?_ _) | (with_reducible refine Below.drew ?_) | (with_reducible refine Below.extW ?_ _))) hb5
  have s5 : w.heap.size ≤ w5.heap.size := B5.size
  have KD5 := Lib.hid (KD4.out.below hb5)
  go_wp2_with fail
  refine (HLp.out _ KD5.out).mono ?_
  rintro e w6 ⟨rfl, hb6⟩
  have B6 : Below w.heap.size w w6 := Below.then_ (by repeat (first | with_reducible exact Below.refl _ _ | with_reducible assumption | ((with_reducible refine Below.setCell ?_ ?_ _); rotate_left; · (first | omega | exact Nat.le_refl _ | (simp <;> omega))) | (with_reducible refine Below.allocW ?_ _) | (with_reducible refine Below.drew ?_) | (with_reducible refine Below.extW ?_ _))) hb6
  have s6 : w.heap.size ≤ w6.heap.size := B6.size
  have KD6 := Lib.hid (KD5.out.below hb6)
  go_wp2_with fail
  refine (HHp.out _ KD6.out).mono ?_
  rintro e w7 ⟨rfl, hb7⟩
  have B7 : Below w.heap.size w w7 := Below.then_ (by repeat (first | with_reducible exact Below.refl _ _ | with_reducible assumption | ((with_reducible refine Below.setCell ?_ ?_ _); rotate_left; · (first | omega | exact Nat.le_refl _ | (simp <;> omega))) | (with_reducible refine Below.allocW ?_ _) | (with_reducible refine Below.drew ?_) | (with_reducible refine Below.extW ?_ _))) hb7
  have s7 : w.heap.size ≤ w7.heap.size := B7.size
  have KD7 := Lib.hid (KD6.out.below hb7)
  by_cases c1 : 2 ^ l - 1 ≤ p
  · obtain rfl := t4 c1
    obtain rfl := t5 c1
    clear t4 t5 t6 t7 u1 u2
    have c2 : 0 ≤ p := by omega
    go_wp2_with fail
    refine (HLp.out _ KD7.out).mono ?_
    rintro e w8 ⟨rfl, hb8⟩
    have B8 : Below w.heap.size w w8 := Below.then_ (by repeat (first | with_reducible exact Below.refl _ _ | with_reducible assumption | ((with_reducible refine Below.setCell ?_ ?_ _); rotate_left; · (first | omega | exact Nat.le_refl _ | (simp <;> omega))) | (with_reducible refine Below.allocW ?_ _) | (with_reducible refine Below.drew ?_) | (with_reducible refine Below.extW ?_ _))) hb8
    have s8 : w.heap.size ≤ w8.heap.size := B8.size
    have KD8 := Lib.hid (KD7.out.below hb8)
    go_wp2_with fail
    refine (HN.out _ KD8.out).mono ?_
    rintro e w9 ⟨rfl, hb9⟩
    have B9 : Below w.heap.size w w9 := Below.then_ (by repeat (first | with_reducible exact Below.refl _ _ | with_reducible assumption | ((with_reducible refine Below.setCell ?_ ?_ _); rotate_left; · (first | omega | exact Nat.le_refl _ | (simp <;> omega))) | (with_reducible refine Below.allocW ?_ _) | (with_reducible refine Below.drew ?_) | (with_reducible refine Below.extW ?_ _))) hb9
    have s9 : w.heap.size ≤ w9.heap.size := B9.size
    have KD9 := Lib.hid (KD8.out.below hb9)
    go_wp2_with fail
    refine (HHp.out _ KD9.out).mono ?_
    rintro e w10 ⟨rfl, hb10⟩
    have B10 : Below w.heap.size w w10 := Below.then_ (by repeat (first | with_reducible exact Below.refl _ _ | with_reducible assumption | ((with_reducible refine Below.setCell ?_ ?_ _); rotate_left; · (first | omega | exact Nat.le_refl _ | (simp <;> omega))) | (with_reducible refine Below.allocW ?_ _) | (with_reducible refine Below.drew ?_) | (with_reducible refine Below.extW ?_ _))) hb10
    have s10 : w.heap.size ≤ w10.heap.size := B10.size
    have KD10 := Lib.hid (KD9.out.below hb10)
    go_wp2_with fail
    refine (HN.out _ KD10.out).mono ?_
    rintro e w11 ⟨rfl, hb11⟩
    have B11 : Below w.heap.size w w11 := Below.then_ (by repeat (first | with_reducible exact Below.refl _ _ | with_reducible assumption | ((with_reducible refine Below.setCell ?_ ?_ _); rotate_left; · (first | omega | exact Nat.le_refl _ | (simp <;> omega))) | (with_reducible refine Below.allocW ?_ _) | (with_reducible refine Below.drew ?_) | (with_reducible refine Below.extW ?_ _))) hb11
    have s11 : w.heap.size ≤ w11.heap.size := B11.size
    go_wp2_with fail
    refine (alive16 _).mono ?_
    rintro e w12 ⟨rfl, hb12⟩
    have B12 : Below w.heap.size w w12 := Below.then_ (by repeat (first | with_reducible exact Below.refl _ _ | with_reducible assumption | ((with_reducible refine Below.setCell ?_ ?_ _); rotate_left; · (first | omega | exact Nat.le_refl _ | (simp <;> omega))) | (with_reducible refine Below.allocW ?_ _) | (with_reducible refine Below.drew ?_) | (with_reducible refine Below.extW ?_ _))) hb12
    have s12 : w.heap.size ≤ w12.heap.size := B12.size
    go_wp2_with fail
    go_ret
    exact ⟨rfl, (by repeat (first | with_reducible exact Below.refl _ _ | with_reducible assumption | ((with_reducible refine Below.setCell ?_ ?_ _); rotate_left; · (first | omega | exact Nat.le_refl _ | (simp <;> omega))) | (with_reducible refine Below.allocW ?_ _) | (with_reducible refine Below.drew ?_) | (with_reducible refine Below.extW ?_ _)))⟩
  · by_cases c2 : p < 0
    · obtain rfl := t6 c2
      obtain rfl := t7 c2
      clear t4 t5 t6 t7 u1 u2
      go_wp2_with fail
      refine (HLp.out _ KD7.out).mono ?_
      rintro e w8 ⟨rfl, hb8⟩
      have B8 : Below w.heap.size w w8 := Below.then_ (by repeat (first | with_reducible exact Below.refl _ _ | with_reducible assumption | ((with_reducible refine Below.setCell ?_ ?_ _); rotate_left; · (first | omega | exact Nat.le_refl _ | (simp <;> omega))) | (with_reducible refine Below.allocW ?_ _) | (with_reducible refine Below.drew ?_) | (with_reducible refine Below.extW ?_ _))) hb8
      have s8 : w.heap.size ≤ w8.heap.size := B8.size
      have KD8 := Lib.hid (KD7.out.below hb8)
      go_wp2_with fail
      refine (HHp.out _ KD8.out).mono ?_
      rintro e w9 ⟨rfl, hb9⟩
      have B9 : Below w.heap.size w w9 := Below.then_ (by repeat (first | with_reducible exact Below.refl _ _ | with_reducible assumption | ((with_reducible refine Below.setCell ?_ ?_ _); rotate_left; · (first | omega | exact Nat.le_refl _ | (simp <;> omega))) | (with_reducible refine Below.allocW ?_ _) | (with_reducible refine Below.drew ?_) | (with_reducible refine Below.extW ?_ _))) hb9
      have s9 : w.heap.size ≤ w9.heap.size := B9.size
      go_wp2_with fail
      refine (alive16 _).mono ?_
      rintro e w10 ⟨rfl, hb10⟩
      have B10 : Below w.heap.size w w10 := Below.then_ (by repeat (first | with_reducible exact Below.refl _ _ | with_reducible assumption | ((with_reducible refine Below.setCell ?_ ?_ _); rotate_left; · (first | omega | exact Nat.le_refl _ | (simp <;> omega))) | (with_reducible refine Below.allocW ?_ _) | (with_reducible refine Below.drew ?_) | (with_reducible refine Below.extW ?_ _))) hb10
      have s10 : w.heap.size ≤ w10.heap.size := B10.size
      go_wp2_with fail
      go_ret
      exact ⟨rfl, (by repeat (first | with_reducible exact Below.refl _ _ | with_reducible assumption | ((with_reducible refine Below.setCell ?_ ?_ _); rotate_left; · (first | omega | exact Nat.le_refl _ | (simp <;> omega))) | (with_reducible refine Below.allocW ?_ _) | (with_reducible refine Below.drew ?_) | (with_reducible refine Below.extW ?_ _)))⟩
    · clear t4 t5 t6 t7 u1 u2
      go_wp2_with fail
      refine (alive16 _).mono ?_
      rintro e w8 ⟨rfl, hb8⟩
      have B8 : Below w.heap.size w w8 := Below.then_ (by repeat (first | with_reducible exact Below.refl _ _ | with_reducible assumption | ((with_reducible refine Below.setCell ?_ ?_ _); rotate_left; · (first | omega | exact Nat.le_refl _ | (simp <;> omega))) | (with_reducible refine Below.allocW ?_ _) | (with_reducible refine Below.drew ?_) | (with_reducible refine Below.extW ?_ _))) hb8
      have s8 : w.heap.size ≤ w8.heap.size := B8.size
      go_wp2_with fail
      go_ret
      exact ⟨rfl, (by repeat (first | with_reducible exact Below.refl _ _ | with_reducible assumption | ((with_reducible refine Below.setCell ?_ ?_ _); rotate_left; · (first | omega | exact Nat.le_refl _ | (simp <;> omega))) | (with_reducible refine Below.allocW ?_ _) | (with_reducible refine Below.drew ?_) | (with_reducible refine Below.extW ?_ _)))⟩
theorem law_RankRises (l k K : Int) (r : List Nd) (A : Option Addr) (cap : Nat) (a b : Int) (W : World) (hS : Sl W W.heap.size encN A r) (hI : ints r) (_ : i64 l) (_ : i64 k) (_ : i64 K) (hm : r.length ≤ maxLen) (_ : (Lit.int .i64 a).wf = true) (_ : (Lit.int .i64 b).wf = true) :
    Calls Try.prog 3 #[loadedV l k K A r.length cap, .int .i64 a, .int .i64 b] W fun e w' => e = .returned (.bool true) ∧ Below W.heap.size W w' := by
  by_cases h : goodL l k K r
  · obtain ⟨n, m, rfl, rfl⟩ := goodL_nat h.2.2
    exact law_RankRises_yes n m k r A cap a b W h hS hI
  · exact law_RankRises_no l k K r A cap a b W h hS hI hm
end Go.Proofs.Ytalnhdfgjjhhbaa
