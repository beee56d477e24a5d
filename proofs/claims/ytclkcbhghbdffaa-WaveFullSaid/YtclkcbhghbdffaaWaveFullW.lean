/- The law WaveFull, walked. -/
import Derived.Test.YtclkcbhghbdffaaWaveLaw
namespace Go.Proofs.Ytclkcbhghbdffaa
open Go.ChangeShapes Go.WideShapes Go.ChangeAt Go.RowKit
set_option linter.unusedVariables false
attribute [local go_sem ↓] Go.wp_at_zero Go.wp_at_succ

/-- What holds ahead of the round k. -/
structure FullInv (c : Bool) (k : Nat) (s : WS) : Prop where
  sent : s.sent ≤ k
  taken : s.taken = 0
  lost : s.lost ≤ k
  copied : s.copied ≤ k
  spoilt : s.spoilt = 0
  le : s.items.length ≤ 256
  few : s.items.length ≤ k
  some_ : 1 ≤ k → 1 ≤ s.items.length
  plain : c = false → s.items.length = min k 256
theorem FullInv.small {c : Bool} {k : Nat} {s : WS} (h : FullInv c k s) (hk : k ≤ 600) : s.small := by
  obtain ⟨h1, h2, h3, h4, h5, _⟩ := h
  unfold WS.small
  omega
theorem FullInv.send {c : Bool} {k : Nat} {s : WS} (h : FullInv c k s) (hc : c = false ∨ k = 0) (x : It) : FullInv c (k + 1) (s.send x).1 ∧ (s.send x).2 = (if k < 256 then 0 else 21) := by
  obtain ⟨h1, h2, h3, h4, h5, h6, h7, h8, h9⟩ := h
  have hl : s.items.length = min k 256 := by
    rcases hc with hc | hc
    · exact h9 hc
    · omega
  unfold WS.send
  by_cases hf : s.items.length = 256
  · rw [if_pos hf, if_neg (by omega)]
    show FullInv c (k + 1) s ∧ _
    exact ⟨⟨by omega, h2, by omega, by omega, h5, h6, by omega, by omega, by omega⟩, rfl⟩
  · rw [if_neg hf, if_pos (by omega)]
    show FullInv c (k + 1) { s with items := s.items ++ [x], sent := s.sent + 1 } ∧ _
    exact ⟨⟨by simp; omega, h2, by simp; omega, by simp; omega, h5, by simp; omega, by simp; omega, by simp, by simp; omega⟩, rfl⟩
/-- A round with copies. -/
theorem FullInv.copy {k : Nat} {s : WS} (h : FullInv true k s) (hk : 1 ≤ k) (x : It) :
    ∃ s1 s2 n m, s.send x = (s1, n) ∧ s1.items.length ≤ 256 ∧ 1 ≤ s1.items.length ∧ s1.sent ≤ k + 1 ∧ s1.taken = 0 ∧ s1.lost ≤ k ∧ s1.copied ≤ k ∧ s1.spoilt = 0 ∧
      s1.lose ((s1.items.length : Int) - 1) = (s2, m) ∧ s2.items.length ≤ 256 ∧ s2.sent ≤ k + 1 ∧ s2.taken = 0 ∧ s2.lost ≤ k + 1 ∧ s2.copied ≤ k ∧ s2.spoilt = 0 ∧ (s2.copy 0).2 = 0 ∧ FullInv true (k + 1) (s2.copy 0).1 := by
  obtain ⟨h1, h2, h3, h4, h5, h6, h7, h8, h9⟩ := h
  have hn := h8 hk
  have key : ∀ s1 n, s.send x = (s1, n) → s1.items.length ≤ 256 → 1 ≤ s1.items.length → s1.items.length ≤ k + 1 → (s.items.length < 256 → 2 ≤ s1.items.length) → (s.items.length = 256 → s1.items.length = 256) → s1.sent ≤ k + 1 → s1.taken = 0 → s1.lost ≤ k → s1.copied ≤ k → s1.spoilt = 0 →
      ∃ s1 s2 n m, s.send x = (s1, n) ∧ s1.items.length ≤ 256 ∧ 1 ≤ s1.items.length ∧ s1.sent ≤ k + 1 ∧ s1.taken = 0 ∧ s1.lost ≤ k ∧ s1.copied ≤ k ∧ s1.spoilt = 0 ∧
      s1.lose ((s1.items.length : Int) - 1) = (s2, m) ∧ s2.items.length ≤ 256 ∧ s2.sent ≤ k + 1 ∧ s2.taken = 0 ∧ s2.lost ≤ k + 1 ∧ s2.copied ≤ k ∧ s2.spoilt = 0 ∧ (s2.copy 0).2 = 0 ∧ FullInv true (k + 1) (s2.copy 0).1 := by
    intro s1 n e l1 l2 l2' l3 l3' a1 a2 a3 a4 a5
    have hh : s1.has ((s1.items.length : Int) - 1) = true := by simp [WS.has]; omega
    have ht : ((s1.items.length : Int) - 1).toNat = s1.items.length - 1 := by omega
    have hl : (s1.cut (s1.items.length - 1)).items.length = s1.items.length - 1 := by simp [WS.cut]; omega
    refine ⟨s1, { s1.cut (s1.items.length - 1) with lost := s1.lost + 1 }, n, 0, e, l1, l2, a1, a2, a3, a4, a5, by simp [WS.lose, hh, ht], by simp only; omega, a1, a2, by simp only; omega, a4, a5, ?_, ?_⟩
    · have h0 : ({ s1.cut (s1.items.length - 1) with lost := s1.lost + 1 } : WS).has 0 = true := by simp only [WS.has, hl]; simp; omega
      unfold WS.copy
      rw [if_pos h0, if_neg (by simp only; omega)]
    · have h0 : ({ s1.cut (s1.items.length - 1) with lost := s1.lost + 1 } : WS).has 0 = true := by simp only [WS.has, hl]; simp; omega
      unfold WS.copy
      rw [if_pos h0, if_neg (by simp only; omega)]
      refine ⟨a1, a2, by simp only; omega, by simp only [WS.cut]; omega, a5, ?_, ?_, ?_, by simp⟩
      · simp only [List.length_append, hl]; simp; omega
      · simp only [List.length_append, hl]; simp; omega
      · simp
  unfold WS.send at key ⊢
  by_cases hf : s.items.length = 256
  · rw [if_pos hf] at key ⊢
    exact key s 21 rfl h6 hn (by omega) (by omega) (fun h => h) (by omega) h2 h3 h4 h5
  · rw [if_neg hf] at key ⊢
    exact key _ 0 rfl (by simp; omega) (by simp) (by simp; omega) (by simp; omega) (by simp; omega) (by simp; omega) h2 h3 h4 h5

set_option maxRecDepth 100000 in
theorem law_WaveFull (n : Nat) (text : ByteArray) (c : Bool) (hn : n ≤ 65535) (hT : text.size ≤ maxLen) (w : World) : Calls Try.prog 3 #[.int .u16 n, .string text, .bool c] w fun e w' => e = .returned (.bool true) ∧ Below w.heap.size w w' := by
  by_cases hl : 100 < text.size
  · have hl' : (100 : Int) < text.size := by omega
    go_enter Try.func3, Try.ntmps3
    go_wp2_with fail
    refine (alive30 _).mono ?_
    rintro e w1 ⟨rfl, hb1⟩
    have B1 : Below w.heap.size w w1 := Below.then_ (by repeat (first | with_reducible exact Below.refl _ _ | with_reducible assumption | ((with_reducible refine Below.setCell ?_ ?_ _); rotate_left; · (first | omega | exact Nat.le_refl _ | (simp <;> omega))) | (with_reducible refine Below.allocW ?_ _) | (with_reducible refine Below.drew ?_) | (with_reducible refine Below.extW ?_ _))) hb1
    have s1 : w.heap.size ≤ w1.heap.size := B1.size
    go_wp2_with fail
    go_ret
    exact ⟨rfl, (by repeat (first | with_reducible exact Below.refl _ _ | with_reducible assumption | ((with_reducible refine Below.setCell ?_ ?_ _); rotate_left; · (first | omega | exact Nat.le_refl _ | (simp <;> omega))) | (with_reducible refine Below.allocW ?_ _) | (with_reducible refine Below.drew ?_) | (with_reducible refine Below.extW ?_ _)))⟩
  · have hl' : ¬ (100 : Int) < text.size := by omega
    go_enter Try.func3, Try.ntmps3
    go_wp2_with fail
    refine (wave_New w).mono ?_
    rintro e w1 ⟨rfl, hb1, ha⟩
    have hr1 := WaveRel.refl ha
    have z1 := hb1.size
    clear ha
    go_wp2_with fail
    rw [show (n : Int) % 600 = ((n % 600 : Nat) : Int) by omega]
    have hM : n % 600 < 600 := Nat.mod_lt _ (by decide)
    generalize n % 600 = M at hM ⊢
    go_loopw [20] (fun i wr => ∃ (k : Nat) (s : WS), k ≤ M ∧ i = .int .i64 k ∧ WaveRel w1 w.heap.size w.heap.size s wr ∧ FullInv c k s) (fun i _ => M - (intOf i).toNat)
    case atStart => exact ⟨0, _, Nat.zero_le _, rfl, hr1, by constructor <;> simp⟩
    case round =>
      obtain ⟨k, s, hk, rfl, hr, hI⟩ := hrel
      have HI := Lib.hid hI
      have HR := Lib.hid hr
      have z2 := Nat.le_trans z1 hr.below.size
      clear hI hr hr1
      by_cases hlt : k < M
      · cases c
        · by_cases h256 : k < 256
          · have hs := FullInv.send HI.out (.inl rfl) ((k : Int), text)
            rw [if_pos h256] at hs
            have HS := Lib.hid hs
            clear hs
            go_wp2_with fail
            refine (wave_Send _ _ _ s ((k : Int), text) HR.out.at_ (HI.out.small (by omega)) HI.out.le z2).mono ?_
            intro e w2 hp
            obtain ⟨rfl, hr0⟩ := hp.rel
            rw [HS.out.2]
            have hr2 := Lib.hid (HR.out.then_ hr0)
            clear hp hr0
            go_wp2_with fail
            go_roundw
            case rel => exact ⟨k + 1, _, by omega, by go_num, hr2.out, HS.out.1⟩
            case measure => simp [intOf]; omega
          · have hs := FullInv.send HI.out (.inl rfl) ((k : Int), text)
            rw [if_neg h256] at hs
            have HS := Lib.hid hs
            clear hs
            go_wp2_with fail
            refine (wave_Send _ _ _ s ((k : Int), text) HR.out.at_ (HI.out.small (by omega)) HI.out.le z2).mono ?_
            intro e w2 hp
            obtain ⟨rfl, hr0⟩ := hp.rel
            rw [HS.out.2]
            have hr2 := Lib.hid (HR.out.then_ hr0)
            clear hp hr0
            go_wp2_with fail
            go_roundw
            case rel => exact ⟨k + 1, _, by omega, by go_num, hr2.out, HS.out.1⟩
            case measure => simp [intOf]; omega
        · by_cases h0 : 0 < k
          · obtain ⟨s1, s2, n1, m1, e1, p1, p2, p3, p4, p5, p6, p7, e2, p8, p9, p10, p11, p12, p13, e3, hI3⟩ := FullInv.copy HI.out h0 ((k : Int), text)
            have S1 : s1.small := by unfold WS.small; omega
            have S2 : s2.small := by unfold WS.small; omega
            have E1 := Lib.hid e1
            have E2 := Lib.hid e2
            have E3 := Lib.hid e3
            have HI3 := Lib.hid hI3
            clear e1 e2 e3 hI3 p3 p4 p5 p6 p7 p9 p10 p11 p12 p13
            go_wp2_with fail
            refine (wave_Send _ _ _ s ((k : Int), text) HR.out.at_ (HI.out.small (by omega)) HI.out.le z2).mono ?_
            intro e w2 hp
            rw [E1.out] at hp
            obtain ⟨rfl, hr0⟩ := hp.rel
            have hr2 := Lib.hid (HR.out.then_ hr0)
            have z3 := Nat.le_trans z1 hr2.out.below.size
            clear hp hr0
            go_wp2_with fail
            refine (wave_Len _ _ _ _ hr2.out.at_).mono ?_
            rintro e w3 ⟨rfl, hb3⟩
            have hr3 := Lib.hid (hr2.out.more z1 hb3)
            have z4 := Nat.le_trans z1 hr3.out.below.size
            go_wp2_with fail
            refine (wave_Lose _ _ _ s1 ((s1.items.length : Int) - 1) hr3.out.at_ S1 p1 z4).mono ?_
            intro e w4 hp
            rw [E2.out] at hp
            obtain ⟨rfl, hr0⟩ := hp.rel
            have hr4 := Lib.hid (hr3.out.then_ hr0)
            have z5 := Nat.le_trans z1 hr4.out.below.size
            clear hp hr0
            go_wp2_with fail
            refine (wave_Copy _ _ _ s2 0 hr4.out.at_ S2 p8 z5).mono ?_
            intro e w5 hp
            rw [E3.out] at hp
            obtain ⟨rfl, hr0⟩ := hp.rel
            have hr5 := Lib.hid (hr4.out.then_ hr0)
            clear hp hr0
            by_cases h256 : k < 256
            all_goals
              go_wp2_with fail
              go_roundw
              case rel => exact ⟨k + 1, _, by omega, by go_num, hr5.out, HI3.out⟩
              case measure => simp [intOf]; omega
          · obtain rfl : k = 0 := by omega
            have hs := FullInv.send HI.out (.inr rfl) ((0 : Int), text)
            rw [if_pos (by decide)] at hs
            have HS := Lib.hid hs
            clear hs
            go_wp2_with fail
            refine (wave_Send _ _ _ s ((0 : Int), text) HR.out.at_ (HI.out.small (by omega)) HI.out.le z2).mono ?_
            intro e w2 hp
            obtain ⟨rfl, hr0⟩ := hp.rel
            rw [HS.out.2]
            have hr2 := Lib.hid (HR.out.then_ hr0)
            clear hp hr0
            go_wp2_with fail
            go_roundw
            case rel => exact ⟨1, _, by omega, by go_num, hr2.out, HS.out.1⟩
            case measure => simp [intOf]; omega
      · obtain rfl : k = M := by omega
        have h6 : (s.items.length : Int) ≤ 256 := by have := HI.out.le; omega
        have B0 := hb1.trans HR.out.below
        cases c
        · have h7 := HI.out.plain rfl
          by_cases h256 : k < 256
          · have h8 := Lib.hid (show s.items.length = k by omega)
            clear h6 h7
            go_wp2_with fail
            refine (wave_Len _ _ _ _ HR.out.at_).mono ?_
            rintro e w2 ⟨rfl, hb2⟩
            have B2 : Below w.heap.size w w2 := Below.then_ (by repeat (first | with_reducible exact Below.refl _ _ | with_reducible assumption | ((with_reducible refine Below.setCell ?_ ?_ _); rotate_left; · (first | omega | exact Nat.le_refl _ | (simp <;> omega))) | (with_reducible refine Below.allocW ?_ _) | (with_reducible refine Below.drew ?_) | (with_reducible refine Below.extW ?_ _))) hb2
            have s2 : w.heap.size ≤ w2.heap.size := B2.size
            rw [h8.out]
            go_wp2_with fail
            refine (wave_Len _ _ _ _ (HR.out.more z1 hb2).at_).mono ?_
            rintro e w3 ⟨rfl, hb3⟩
            have B3 : Below w.heap.size w w3 := Below.then_ (by repeat (first | with_reducible exact Below.refl _ _ | with_reducible assumption | ((with_reducible refine Below.setCell ?_ ?_ _); rotate_left; · (first | omega | exact Nat.le_refl _ | (simp <;> omega))) | (with_reducible refine Below.allocW ?_ _) | (with_reducible refine Below.drew ?_) | (with_reducible refine Below.extW ?_ _))) hb3
            have s3 : w.heap.size ≤ w3.heap.size := B3.size
            rw [h8.out]
            go_wp2_with fail
            refine (alive30 _).mono ?_
            rintro e w4 ⟨rfl, hb4⟩
            have B4 : Below w.heap.size w w4 := Below.then_ (by repeat (first | with_reducible exact Below.refl _ _ | with_reducible assumption | ((with_reducible refine Below.setCell ?_ ?_ _); rotate_left; · (first | omega | exact Nat.le_refl _ | (simp <;> omega))) | (with_reducible refine Below.allocW ?_ _) | (with_reducible refine Below.drew ?_) | (with_reducible refine Below.extW ?_ _))) hb4
            have s4 : w.heap.size ≤ w4.heap.size := B4.size
            go_wp2_with fail
            go_ret
            exact ⟨rfl, (by repeat (first | with_reducible exact Below.refl _ _ | with_reducible assumption | ((with_reducible refine Below.setCell ?_ ?_ _); rotate_left; · (first | omega | exact Nat.le_refl _ | (simp <;> omega))) | (with_reducible refine Below.allocW ?_ _) | (with_reducible refine Below.drew ?_) | (with_reducible refine Below.extW ?_ _)))⟩
          · have h8 := Lib.hid (show s.items.length = 256 by omega)
            clear h6 h7
            by_cases h9 : k = 256
            · subst h9
              go_wp2_with fail
              refine (wave_Len _ _ _ _ HR.out.at_).mono ?_
              rintro e w2 ⟨rfl, hb2⟩
              have B2 : Below w.heap.size w w2 := Below.then_ (by repeat (first | with_reducible exact Below.refl _ _ | with_reducible assumption | ((with_reducible refine Below.setCell ?_ ?_ _); rotate_left; · (first | omega | exact Nat.le_refl _ | (simp <;> omega))) | (with_reducible refine Below.allocW ?_ _) | (with_reducible refine Below.drew ?_) | (with_reducible refine Below.extW ?_ _))) hb2
              have s2 : w.heap.size ≤ w2.heap.size := B2.size
              rw [h8.out]
              go_wp2_with fail
              refine (wave_Len _ _ _ _ (HR.out.more z1 hb2).at_).mono ?_
              rintro e w3 ⟨rfl, hb3⟩
              have B3 : Below w.heap.size w w3 := Below.then_ (by repeat (first | with_reducible exact Below.refl _ _ | with_reducible assumption | ((with_reducible refine Below.setCell ?_ ?_ _); rotate_left; · (first | omega | exact Nat.le_refl _ | (simp <;> omega))) | (with_reducible refine Below.allocW ?_ _) | (with_reducible refine Below.drew ?_) | (with_reducible refine Below.extW ?_ _))) hb3
              have s3 : w.heap.size ≤ w3.heap.size := B3.size
              rw [h8.out]
              go_wp2_with fail
              refine (alive30 _).mono ?_
              rintro e w4 ⟨rfl, hb4⟩
              have B4 : Below w.heap.size w w4 := Below.then_ (by repeat (first | with_reducible exact Below.refl _ _ | with_reducible assumption | ((with_reducible refine Below.setCell ?_ ?_ _); rotate_left; · (first | omega | exact Nat.le_refl _ | (simp <;> omega))) | (with_reducible refine Below.allocW ?_ _) | (with_reducible refine Below.drew ?_) | (with_reducible refine Below.extW ?_ _))) hb4
              have s4 : w.heap.size ≤ w4.heap.size := B4.size
              go_wp2_with fail
              go_ret
              exact ⟨rfl, (by repeat (first | with_reducible exact Below.refl _ _ | with_reducible assumption | ((with_reducible refine Below.setCell ?_ ?_ _); rotate_left; · (first | omega | exact Nat.le_refl _ | (simp <;> omega))) | (with_reducible refine Below.allocW ?_ _) | (with_reducible refine Below.drew ?_) | (with_reducible refine Below.extW ?_ _)))⟩
            · have h10 : ¬ (k : Int) ≤ 256 := by omega
              go_wp2_with fail
              refine (wave_Len _ _ _ _ HR.out.at_).mono ?_
              rintro e w2 ⟨rfl, hb2⟩
              have B2 : Below w.heap.size w w2 := Below.then_ (by repeat (first | with_reducible exact Below.refl _ _ | with_reducible assumption | ((with_reducible refine Below.setCell ?_ ?_ _); rotate_left; · (first | omega | exact Nat.le_refl _ | (simp <;> omega))) | (with_reducible refine Below.allocW ?_ _) | (with_reducible refine Below.drew ?_) | (with_reducible refine Below.extW ?_ _))) hb2
              have s2 : w.heap.size ≤ w2.heap.size := B2.size
              rw [h8.out]
              go_wp2_with fail
              refine (wave_Len _ _ _ _ (HR.out.more z1 hb2).at_).mono ?_
              rintro e w3 ⟨rfl, hb3⟩
              have B3 : Below w.heap.size w w3 := Below.then_ (by repeat (first | with_reducible exact Below.refl _ _ | with_reducible assumption | ((with_reducible refine Below.setCell ?_ ?_ _); rotate_left; · (first | omega | exact Nat.le_refl _ | (simp <;> omega))) | (with_reducible refine Below.allocW ?_ _) | (with_reducible refine Below.drew ?_) | (with_reducible refine Below.extW ?_ _))) hb3
              have s3 : w.heap.size ≤ w3.heap.size := B3.size
              rw [h8.out]
              go_wp2_with fail
              refine (alive30 _).mono ?_
              rintro e w4 ⟨rfl, hb4⟩
              have B4 : Below w.heap.size w w4 := Below.then_ (by repeat (first | with_reducible exact Below.refl _ _ | with_reducible assumption | ((with_reducible refine Below.setCell ?_ ?_ _); rotate_left; · (first | omega | exact Nat.le_refl _ | (simp <;> omega))) | (with_reducible refine Below.allocW ?_ _) | (with_reducible refine Below.drew ?_) | (with_reducible refine Below.extW ?_ _))) hb4
              have s4 : w.heap.size ≤ w4.heap.size := B4.size
              go_wp2_with fail
              go_ret
              exact ⟨rfl, (by repeat (first | with_reducible exact Below.refl _ _ | with_reducible assumption | ((with_reducible refine Below.setCell ?_ ?_ _); rotate_left; · (first | omega | exact Nat.le_refl _ | (simp <;> omega))) | (with_reducible refine Below.allocW ?_ _) | (with_reducible refine Below.drew ?_) | (with_reducible refine Below.extW ?_ _)))⟩
        · go_wp2_with fail
          refine (wave_Len _ _ _ _ HR.out.at_).mono ?_
          rintro e w2 ⟨rfl, hb2⟩
          have B2 : Below w.heap.size w w2 := Below.then_ (by repeat (first | with_reducible exact Below.refl _ _ | with_reducible assumption | ((with_reducible refine Below.setCell ?_ ?_ _); rotate_left; · (first | omega | exact Nat.le_refl _ | (simp <;> omega))) | (with_reducible refine Below.allocW ?_ _) | (with_reducible refine Below.drew ?_) | (with_reducible refine Below.extW ?_ _))) hb2
          have s2 : w.heap.size ≤ w2.heap.size := B2.size
          go_wp2_with fail
          refine (alive30 _).mono ?_
          rintro e w3 ⟨rfl, hb3⟩
          have B3 : Below w.heap.size w w3 := Below.then_ (by repeat (first | with_reducible exact Below.refl _ _ | with_reducible assumption | ((with_reducible refine Below.setCell ?_ ?_ _); rotate_left; · (first | omega | exact Nat.le_refl _ | (simp <;> omega))) | (with_reducible refine Below.allocW ?_ _) | (with_reducible refine Below.drew ?_) | (with_reducible refine Below.extW ?_ _))) hb3
          have s3 : w.heap.size ≤ w3.heap.size := B3.size
          go_wp2_with fail
          go_ret
          exact ⟨rfl, (by repeat (first | with_reducible exact Below.refl _ _ | with_reducible assumption | ((with_reducible refine Below.setCell ?_ ?_ _); rotate_left; · (first | omega | exact Nat.le_refl _ | (simp <;> omega))) | (with_reducible refine Below.allocW ?_ _) | (with_reducible refine Below.drew ?_) | (with_reducible refine Below.extW ?_ _)))⟩

theorem open_u16 {H : Type} {enc : TypeId × Value → H} {w : World} {base : Nat} {spare : Nat → Bool} {held : Bool} {r : Reach} {b0 : Nat} {v : Value} {d : DataW H} {p : List MemPlace}
    (hv : Value.okWide Try.prog w r b0 22 v) (h : DataW.Trod enc Try.prog w base spare held 22 v d p) : ∃ n : Nat, v = .int .u16 n ∧ n ≤ 65535 := by
  obtain ⟨n, rfl, _, _, h5⟩ := open_int Try.underlying22 hv h
  simp only [Lit.wf, Bool.and_eq_true, decide_eq_true_eq] at h5
  have hmn : IntKind.u16.min = 0 := by decide
  have hmx : IntKind.u16.max = 65535 := by decide
  rw [hmn, hmx] at h5
  obtain ⟨m, rfl⟩ := Int.eq_ofNat_of_zero_le h5.1
  exact ⟨m, rfl, by omega⟩
end Go.Proofs.Ytclkcbhghbdffaa
