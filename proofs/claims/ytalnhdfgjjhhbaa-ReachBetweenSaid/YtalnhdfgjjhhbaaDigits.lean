/- The reference of layer 1 (reckon): numbers as digits to the base 1000. -/
import Derived.Test.YtalnhdfgjjhhbaaTells
namespace Go.Proofs.Ytalnhdfgjjhhbaa
open Go.ChangeShapes Go.WideShapes Go.ChangeAt Go.RowKit
set_option linter.unusedVariables false

def encD : Enc Nat 1 := ⟨fun x => [.int .i64 x], fun _ => rfl, by intro x u hu; simp at hu; subst hu; rfl⟩
def dg (l : List Nat) (i : Nat) : Nat := l.getD i 0
def valD : List Nat → Nat
  | [] => 0
  | x :: l => x + 1000 * valD l
def okD (l : List Nat) : Prop := ∀ x ∈ l, x ≤ 999
theorem valD_snoc (l : List Nat) (x : Nat) : valD (l ++ [x]) = valD l + x * 1000 ^ l.length := by
  induction l with
  | nil => simp [valD]
  | cons y l ih =>
    simp only [List.cons_append, valD, ih, List.length_cons, Nat.pow_succ]
    rw [Nat.mul_add, show x * (1000 ^ l.length * 1000) = 1000 * (x * 1000 ^ l.length) by rw [← Nat.mul_assoc, Nat.mul_comm]]
    omega
theorem dg_le {l : List Nat} (h : okD l) (i : Nat) : dg l i ≤ 999 := by
  unfold dg
  rw [List.getD_eq_getElem?_getD]
  rcases hx : l[i]? with _ | x
  · simp
  · simp only [Option.getD_some]
    exact h x (List.mem_of_getElem? hx)
theorem dg_at {l : List Nat} {i : Nat} (h : i < l.length) : dg l i = l[i] := by
  unfold dg
  rw [List.getD_eq_getElem?_getD, List.getElem?_eq_getElem h]; rfl
theorem dg_out {l : List Nat} {i : Nat} (h : l.length ≤ i) : dg l i = 0 := by
  unfold dg
  rw [List.getD_eq_getElem?_getD, List.getElem?_eq_none h]; rfl
theorem valD_take_succ (l : List Nat) (i : Nat) : valD (l.take (i + 1)) = valD (l.take i) + dg l i * 1000 ^ i := by
  by_cases h : i < l.length
  · rw [List.take_succ_eq_append_getElem h, valD_snoc, List.length_take, Nat.min_eq_left (by omega), dg_at h]
  · rw [dg_out (by omega), List.take_of_length_le (by omega), List.take_of_length_le (by omega)]; simp
theorem okD.take {l : List Nat} (h : okD l) (i : Nat) : okD (l.take i) := fun x hx => h x (List.mem_of_mem_take hx)
theorem okD.snoc {l : List Nat} (h : okD l) {x : Nat} (hx : x ≤ 999) : okD (l ++ [x]) := by
  intro y hy
  rcases List.mem_append.1 hy with hy | hy
  · exact h y hy
  · simp at hy; omega
theorem okD.nil : okD [] := fun x hx => by simp at hx
theorem valD_take_lt {l : List Nat} (h : okD l) (i : Nat) : valD (l.take i) < 1000 ^ i := by
  induction i with
  | zero => simp [valD]
  | succ i ih =>
    rw [valD_take_succ, Nat.pow_succ]
    have h1 := dg_le h i
    have h2 : dg l i * 1000 ^ i ≤ 999 * 1000 ^ i := Nat.mul_le_mul_right _ h1
    omega
theorem valD_zeros (k : Nat) : valD (List.replicate k 0) = 0 := by
  induction k with
  | zero => rfl
  | succ k ih => rw [List.replicate_succ]; simp [valD, ih]
theorem okD.zeros (k : Nat) : okD (List.replicate k 0) := fun x hx => by have := (List.mem_replicate.1 hx).2; omega
theorem zeros_snoc (k : Nat) : List.replicate k 0 ++ [0] = List.replicate (k + 1) 0 := by rw [List.replicate_succ']

/-- One digit of a number n = m * 1000^e more. -/
theorem digit_step {V m e n : Nat} (h : V + m * 1000 ^ e = n) : V + m % 1000 * 1000 ^ e + m / 1000 * 1000 ^ (e + 1) = n := by
  have h1 : m / 1000 * 1000 ^ (e + 1) = 1000 * (m / 1000) * 1000 ^ e := by rw [Nat.pow_succ, Nat.mul_comm (1000 ^ e), ← Nat.mul_assoc, Nat.mul_comm (m / 1000)]
  have h2 : m % 1000 * 1000 ^ e + 1000 * (m / 1000) * 1000 ^ e = m * 1000 ^ e := by rw [← Nat.add_mul, Nat.mod_add_div]
  omega
theorem digits_few {V m e n : Nat} (h : V + m * 1000 ^ e = n) (hm : 1 ≤ m) (hn : n < 9223372036854775808) : e < 7 := by
  have h1 : 1000 ^ e ≤ m * 1000 ^ e := Nat.le_mul_of_pos_left _ hm
  refine (Nat.pow_lt_pow_iff_right (a := 1000) (by decide)).1 ?_
  have : (1000 : Nat) ^ 7 = 1000000000000000000000 := by decide
  omega

theorem ref1_Is (w : World) (n : Int) : Calls Try.prog 65 #[.int .i64 n] w fun e w' => e = .returned (.bool (decide (0 ≤ n))) ∧ Below w.heap.size w w' := by
  go_enter Try.func65, Try.ntmps65
  go_wp2_with fail
  go_ret
  exact ⟨rfl, (by repeat (first | with_reducible exact Below.refl _ _ | with_reducible assumption | ((with_reducible refine Below.setCell ?_ ?_ _); rotate_left; · (first | omega | exact Nat.le_refl _ | (simp <;> omega))) | (with_reducible refine Below.allocW ?_ _) | (with_reducible refine Below.drew ?_) | (with_reducible refine Below.extW ?_ _)))⟩
theorem ref1_digit (w : World) (A : Option Addr) (cap : Nat) (l : List Nat) (i : Nat) (hS : Sl w w.heap.size encD A l) (hm : l.length ≤ 1000000) (hi : i ≤ 1000000) :
    Calls Try.prog 90 #[.slice A l.length cap, .int .i64 i] w fun e w' => e = .returned (.int .i64 (dg l i)) ∧ Below w.heap.size w w' := by
  by_cases h : i < l.length
  · obtain ⟨b, off, rfl, hb, hc⟩ := hS.at_ h
    have d0 := hc 0 (.int .i64 l[i]) rfl
    simp only [Nat.add_zero, Nat.mul_one] at d0
    rw [← dg_at h] at d0
    clear hS hc
    go_enter Try.func90, Try.ntmps90
    go_wp2_with fail
    go_ret
    exact ⟨rfl, (by repeat (first | with_reducible exact Below.refl _ _ | with_reducible assumption | ((with_reducible refine Below.setCell ?_ ?_ _); rotate_left; · (first | omega | exact Nat.le_refl _ | (simp <;> omega))) | (with_reducible refine Below.allocW ?_ _) | (with_reducible refine Below.drew ?_) | (with_reducible refine Below.extW ?_ _)))⟩
  · rw [dg_out (by omega)]
    clear hS
    go_enter Try.func90, Try.ntmps90
    go_wp2_with fail
    go_ret
    exact ⟨rfl, (by repeat (first | with_reducible exact Below.refl _ _ | with_reducible assumption | ((with_reducible refine Below.setCell ?_ ?_ _); rotate_left; · (first | omega | exact Nat.le_refl _ | (simp <;> omega))) | (with_reducible refine Below.allocW ?_ _) | (with_reducible refine Below.drew ?_) | (with_reducible refine Below.extW ?_ _)))⟩
theorem ref1_Digits (w : World) (n : Nat) (hn : n < 9223372036854775808) :
    Calls Try.prog 68 #[.int .i64 n] w fun e w' => ∃ v L, e = .returned v ∧ Own w' w.heap.size 3 encD v L ∧ okD L ∧ valD L = n ∧ L.length ≤ 7 ∧ Below w.heap.size w w' := by
  go_enter Try.func68, Try.ntmps68
  go_wp2_with fail
  go_loopw [0, 3] (fun a v wr => ∃ (m : Nat) (L : List Nat), a = .int .i64 m ∧ Own wr w.heap.size 3 encD v L ∧ okD L ∧ valD L + m * 1000 ^ L.length = n ∧ L.length ≤ 7 ∧ m ≤ n ∧ Below w.heap.size w wr) (fun a _ _ => (intOf a).toNat)
  case atStart => exact ⟨n, [], rfl, Own.nil _ _ _ _, okD.nil, by simp [valD], by simp, Nat.le_refl _, Below.refl _ _⟩
  case round =>
    obtain ⟨m, L, rfl, hO, hk, hv, hL, hmn, hB⟩ := hrel
    have HO := Lib.hid hO
    have HK := Lib.hid hk
    have HV := Lib.hid hv
    have hs := hB.size
    clear hO hk hv
    by_cases h : 1 ≤ m
    · have h7 := digits_few HV.out h hn
      obtain ⟨r, hr⟩ : ∃ r, r = m % 1000 := ⟨_, rfl⟩
      obtain ⟨k, hq⟩ : ∃ k, k = m / 1000 := ⟨_, rfl⟩
      have e1 : (m : Int) % 1000 = (r : Int) := by omega
      have e2 : (m : Int) / 1000 = (k : Int) := by omega
      have HN := Lib.hid (digit_step HV.out)
      rw [← hr, ← hq] at HN
      have hr9 : r ≤ 999 := by omega
      have hk9 : k < m := by omega
      clear hr hq
      go_wp2_with ((at_builtin; refine wpList_push tyZ rfl _ _ rfl encD wr w.heap.size u3 _ rfl HO.out r (by go_simp) rfl ?c1 ?c2 ?c3 ?c4))
      case c1 => omega
      case c2 => simp only [maxLen]; omega
      case c3 => exact hs
      case c4 =>
        intro v' w2 hown2 hgrow _ hlies hb2 _
        have HO2 := Lib.hid hown2
        clear hown2
        go_wp2_with fail
        go_roundw
        case rel => exact ⟨k, L ++ [r], by go_num, HO2.out, HK.out.snoc hr9, by rw [valD_snoc, List.length_append]; exact HN.out, by simp; omega, by omega, Below.trans hB hb2⟩
        case measure => simp [intOf]; omega
    · obtain rfl : m = 0 := by omega
      go_wp2_with fail
      go_ret
      exact ⟨_, _, rfl, HO.out, HK.out, by have := HV.out; omega, hL, hB⟩
theorem ref1_Sum (w : World) (A B : Option Addr) (c1 c2 : Nat) (a b : List Nat) (hA : Sl w w.heap.size encD A a) (hB : Sl w w.heap.size encD B b) (ka : okD a) (kb : okD b) (la : a.length ≤ 1000) (lb : b.length ≤ 1000) :
    Calls Try.prog 89 #[.slice A a.length c1, .slice B b.length c2] w fun e w' => ∃ v L, e = .returned v ∧ Own w' w.heap.size 3 encD v L ∧ okD L ∧ valD L = valD a + valD b ∧ (L.length ≤ a.length + 1 ∨ L.length ≤ b.length + 1) ∧ Below w.heap.size w w' := by
  have HA := Lib.hid hA
  have HB := Lib.hid hB
  have KA := Lib.hid ka
  have KB := Lib.hid kb
  clear hA hB ka kb
  go_enter Try.func89, Try.ntmps89
  go_wp2_with fail
  go_loopw [5, 6, 7] (fun v c i wr => ∃ (m j : Nat) (L : List Nat), c = .int .i64 m ∧ i = .int .i64 j ∧ Own wr w.heap.size 3 encD v L ∧ okD L ∧ L.length = j ∧ valD L + m * 1000 ^ j = valD (a.take j) + valD (b.take j) ∧ m ≤ 1 ∧ (j ≤ a.length ∨ j ≤ b.length ∨ ((j ≤ a.length + 1 ∨ j ≤ b.length + 1) ∧ m = 0)) ∧ Below w.heap.size w wr) (fun _ _ i _ => a.length + b.length + 2 - (intOf i).toNat)
  case atStart => exact ⟨0, 0, [], rfl, rfl, Own.nil _ _ _ _, okD.nil, rfl, by simp [valD], by omega, .inl (Nat.zero_le _), Below.refl _ _⟩
  case round =>
    obtain ⟨m, j, L, rfl, rfl, hO, hk, hl, hv, hm, hj, hW⟩ := hrel
    have HO := Lib.hid hO
    have HK := Lib.hid hk
    have HV := Lib.hid hv
    have hs := hW.size
    clear hO hk hv
    have hd := dg_le KA.out j
    have hd' := dg_le KB.out j
    have DA := Lib.hid (ref1_digit · A c1 a j · (by omega) (by omega))
    have DB := Lib.hid (ref1_digit · B c2 b j · (by omega) (by omega))
    have HN := Lib.hid (show valD L + (m + dg a j + dg b j) * 1000 ^ j = valD (a.take (j + 1)) + valD (b.take (j + 1)) by
      rw [valD_take_succ, valD_take_succ, Nat.add_mul, Nat.add_mul]; have := HV.out; omega)
    have HX := Lib.hid (fun h : a.length ≤ j => dg_out (l := a) h)
    have HY := Lib.hid (fun h : b.length ≤ j => dg_out (l := b) h)
    generalize dg a j = x at hd DA HN HX
    generalize dg b j = y at hd' DB HN HY
    obtain ⟨r, hr⟩ : ∃ r, r = (m + x + y) % 1000 := ⟨_, rfl⟩
    obtain ⟨k, hq⟩ : ∃ k, k = (m + x + y) / 1000 := ⟨_, rfl⟩
    have e1 : ((m : Int) + (x : Int) + (y : Int)) % 1000 = (r : Int) := by omega
    have e2 : ((m : Int) + (x : Int) + (y : Int)) / 1000 = (k : Int) := by omega
    have HN2 := Lib.hid (digit_step HN.out)
    rw [← hr, ← hq] at HN2
    have hr9 : r ≤ 999 := by omega
    have hk9 : k ≤ 1 := by omega
    have hk0 : k = 0 ∨ j < a.length ∨ j < b.length := by
      by_cases h1 : j < a.length
      · exact .inr (.inl h1)
      · by_cases h2 : j < b.length
        · exact .inr (.inr h2)
        · left
          have hx0 := HX.out (by omega)
          have hy0 := HY.out (by omega)
          omega
    have HK0 := Lib.hid hk0
    clear hr hq hk0
    by_cases hc : j < a.length ∨ j < b.length ∨ 0 < m
    · rcases (show j < a.length ∨ (¬ j < a.length ∧ j < b.length) ∨ (¬ j < a.length ∧ ¬ j < b.length ∧ 0 < m) by omega) with h1 | ⟨h1, h2⟩ | ⟨h1, h2, h3⟩
      all_goals (
        have HJ := Lib.hid (show j ≤ a.length ∨ j ≤ b.length by omega)
        have hj1 : j ≤ 1000 := by omega
        clear hc hj
        go_wp2_with fail
        refine (DA.out _ (HA.out.keep (by omega) fun p hp => hW.cell hp)).mono ?_
        rintro e w1 ⟨rfl, hb1⟩
        have B1 : Below w.heap.size w w1 := Below.then_ (by repeat (first | with_reducible exact Below.refl _ _ | with_reducible assumption | ((with_reducible refine Below.setCell ?_ ?_ _); rotate_left; · (first | omega | exact Nat.le_refl _ | (simp <;> omega))) | (with_reducible refine Below.allocW ?_ _) | (with_reducible refine Below.drew ?_) | (with_reducible refine Below.extW ?_ _))) hb1
        have s1 : w.heap.size ≤ w1.heap.size := B1.size
        have W1 := hW.trans (hb1.mono hs)
        go_wp2_with fail
        refine (DB.out _ (HB.out.keep (by omega) fun p hp => W1.cell hp)).mono ?_
        rintro e w2 ⟨rfl, hb2⟩
        have B2 : Below w.heap.size w w2 := Below.then_ (by repeat (first | with_reducible exact Below.refl _ _ | with_reducible assumption | ((with_reducible refine Below.setCell ?_ ?_ _); rotate_left; · (first | omega | exact Nat.le_refl _ | (simp <;> omega))) | (with_reducible refine Below.allocW ?_ _) | (with_reducible refine Below.drew ?_) | (with_reducible refine Below.extW ?_ _))) hb2
        have s2 : w.heap.size ≤ w2.heap.size := B2.size
        have W2 := W1.trans (hb2.mono (by omega))
        have O2 := Lib.hid ((HO.out.below hb1).below hb2)
        clear hb1 hb2 B1 B2
        go_wp2_with ((at_builtin; refine wpList_push tyZ rfl _ _ rfl encD w2 w.heap.size u5 _ rfl O2.out r (by go_simp) rfl ?c1 ?c2 ?c3 ?c4))
        case c1 => omega
        case c2 => simp only [maxLen]; omega
        case c3 => exact W2.size
        case c4 =>
          intro v' w3 hown3 hgrow _ hlies hb3 _
          have HO3 := Lib.hid hown3
          clear hown3
          have W3 := Below.trans W2 hb3
          have hl1 : (L ++ [r]).length = j + 1 := by rw [List.length_append, hl]; rfl
          have HL1 := Lib.hid hl1
          clear hl1
          go_wp2_with fail
          go_roundw
          case rel => exact ⟨k, j + 1, L ++ [r], by go_num, by go_num, HO3.out, HK.out.snoc hr9, HL1.out, by rw [valD_snoc, hl]; exact HN2.out, hk9, by have := HK0.out; have := HJ.out; omega, W3⟩
          case measure => have := HJ.out; simp [intOf]; omega)
    · have h1 : ¬ j < a.length := by omega
      have h2 : ¬ j < b.length := by omega
      obtain rfl : m = 0 := by omega
      clear hc
      have HV2 := Lib.hid (show valD L = valD a + valD b by have := HV.out; rw [List.take_of_length_le (by omega), List.take_of_length_le (by omega)] at this; omega)
      go_wp2_with fail
      go_ret
      exact ⟨_, rfl, _, HO.out, HK.out, HV2.out, by omega, hW⟩
end Go.Proofs.Ytalnhdfgjjhhbaa
