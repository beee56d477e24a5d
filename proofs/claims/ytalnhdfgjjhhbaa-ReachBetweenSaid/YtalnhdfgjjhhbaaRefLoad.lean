/- The references of layers 6, 7, 9, 11, 12 and 13, as far as Load goes. -/
import Derived.Test.YtalnhdfgjjhhbaaRank
import Derived.Test.YtalnhdfgjjhhbaaRef02
namespace Go.Proofs.Ytalnhdfgjjhhbaa
open Go.ChangeShapes Go.WideShapes Go.ChangeAt Go.RowKit
set_option linter.unusedVariables false

theorem totalFrom_bad {m : Int} {x : Nd} {l : List Nd} (hm : 0 ≤ m) (h : x.2 < 0 ∨ most - m < x.2) : totalFrom m (x :: l) = (0, false) := by
  simp only [totalFrom]
  rw [if_neg]
  rintro ⟨h1, h2⟩
  unfold addOf at h1 h2
  unfold most at *
  split at h1
  · rename_i hc
    rw [if_pos hc] at h2
    simp only at h2
    omega
  · cases h1
theorem totalFrom_good {m : Int} {x : Nd} {l : List Nd} (hm : 0 ≤ m) (h1 : 0 ≤ x.2) (h2 : x.2 ≤ most - m) : totalFrom m (x :: l) = totalFrom (m + x.2) l := by
  simp only [totalFrom]
  unfold most at h2
  have e : addOf m x.2 = (m + x.2, true) := by unfold addOf; rw [if_pos (by omega)]
  rw [e, if_pos ⟨rfl, by unfold most; simp only; omega⟩]
theorem ref6_Total (w : World) (A : Option Addr) (cap : Nat) (l : List Nd) (hS : Sl w w.heap.size encN A l) (hI : ints l) (hm : l.length ≤ maxLen) :
    Calls Try.prog 77 #[.slice A l.length cap] w fun e w' => e = .returned (okV (totalOf l)) ∧ Below w.heap.size w w' := by
  have HS := Lib.hid hS
  have HI := Lib.hid hI
  unfold maxLen at hm
  clear hS hI
  go_enter Try.func77, Try.ntmps77
  go_wp2_with fail
  go_loop [4, 5] (fun n i => ∃ (k : Nat) (m : Int), k ≤ l.length ∧ i = .int .i64 k ∧ n = .int .i64 m ∧ 0 ≤ m ∧ m ≤ 72057594037927935 ∧ totalOf l = totalFrom m (l.drop k)) (fun _ i => l.length - (intOf i).toNat)
  case atStart => exact ⟨0, 0, by omega, rfl, rfl, by omega, by omega, rfl⟩
  case round =>
    obtain ⟨k, m, hk, rfl, rfl, hm0, hm1, hT⟩ := hrel
    have HT := Lib.hid hT
    clear hT
    by_cases hlt : k < l.length
    · obtain ⟨b, off, rfl, hb, hc⟩ := HS.out.at_ hlt
      have d0 := hc 0 (.int .i64 l[k].1) rfl
      have d1 := hc 1 (.int .i64 l[k].2) rfl
      simp only [Nat.add_zero] at d0
      have hx := (HI.out _ (List.getElem_mem hlt)).2
      have hN := HT.out
      rw [drop_cons hlt] at hN
      obtain ⟨x, hxe⟩ : ∃ x, x = l[k] := ⟨_, rfl⟩
      rw [← hxe] at d0 d1 hx hN
      unfold i64 at hx
      have hx1 := hx.1
      have hx2 := hx.2
      have HN := Lib.hid hN
      clear hc hN hxe hx
      by_cases h1 : x.2 < 0
      · have HF := Lib.hid (HN.out.trans (totalFrom_bad hm0 (.inl h1)))
        go_wp2_with fail
        go_ret2
        exact ⟨by rw [HF.out]; rfl, (by repeat (first | with_reducible exact Below.refl _ _ | with_reducible assumption | ((with_reducible refine Below.setCell ?_ ?_ _); rotate_left; · (first | omega | exact Nat.le_refl _ | (simp <;> omega))) | (with_reducible refine Below.allocW ?_ _) | (with_reducible refine Below.drew ?_) | (with_reducible refine Below.extW ?_ _)))⟩
      · by_cases h2 : 72057594037927935 - m < x.2
        · have HF := Lib.hid (HN.out.trans (totalFrom_bad hm0 (.inr h2)))
          go_wp2_with fail
          go_ret2
          exact ⟨by rw [HF.out]; rfl, (by repeat (first | with_reducible exact Below.refl _ _ | with_reducible assumption | ((with_reducible refine Below.setCell ?_ ?_ _); rotate_left; · (first | omega | exact Nat.le_refl _ | (simp <;> omega))) | (with_reducible refine Below.allocW ?_ _) | (with_reducible refine Below.drew ?_) | (with_reducible refine Below.extW ?_ _)))⟩
        · have HF := Lib.hid (HN.out.trans (totalFrom_good hm0 (by omega) (by unfold most; omega)))
          go_wp2_with fail
          go_round
          case rel => exact ⟨k + 1, m + x.2, by omega, by go_num, rfl, by omega, by omega, HF.out⟩
          case measure => simp [intOf]; omega
    · obtain rfl : k = l.length := by omega
      have HE := Lib.hid (show totalOf l = (m, true) by rw [HT.out, List.drop_length]; rfl)
      go_wp2_with fail
      go_ret2
      exact ⟨by rw [HE.out]; rfl, (by repeat (first | with_reducible exact Below.refl _ _ | with_reducible assumption | ((with_reducible refine Below.setCell ?_ ?_ _); rotate_left; · (first | omega | exact Nat.le_refl _ | (simp <;> omega))) | (with_reducible refine Below.allocW ?_ _) | (with_reducible refine Below.drew ?_) | (with_reducible refine Below.extW ?_ _)))⟩
/-- The number ahead of place k. -/
def lastR (l : List Nd) (k : Nat) : Int := if k = 0 then 0 else (l[k - 1]?.getD (0, 0)).1
theorem rises_step {u : Int} {l : List Nd} {k : Nat} (hk : k < l.length) (hN : isNode u l[k].1 = true) (h1 : 1 ≤ l[k].2) (hl : lastR l k < l[k].1) (hR : risesFrom u 0 l = risesFrom u (lastR l k) (l.drop k)) :
    risesFrom u 0 l = risesFrom u (lastR l (k + 1)) (l.drop (k + 1)) := by
  rw [hR, drop_cons hk]
  simp only [risesFrom, hN, hl, h1, decide_true, Bool.true_and]
  congr 1
  simp [lastR, hk]
theorem rises_bad {u : Int} {l : List Nd} {k : Nat} (hk : k < l.length) (hR : risesFrom u 0 l = risesFrom u (lastR l k) (l.drop k)) (h : isNode u l[k].1 = false ∨ l[k].2 < 1 ∨ l[k].1 ≤ lastR l k) : rightOf u l = false := by
  unfold rightOf
  rw [hR, drop_cons hk]
  simp only [risesFrom]
  rcases h with h | h | h
  · rw [h]; simp
  · have : decide (1 ≤ l[k].2) = false := by simpa using h
    rw [this]; simp
  · have : decide (lastR l k < l[k].1) = false := by simpa using h
    rw [this]; simp
set_option maxRecDepth 100000 in
set_option maxHeartbeats 1000000 in
theorem ref6_Right (w : World) (u : Int) (A : Option Addr) (cap : Nat) (l : List Nd) (hS : Sl w w.heap.size encN A l) (hI : ints l) (hm : l.length ≤ maxLen) :
    Calls Try.prog 44 #[.int .i64 u, .slice A l.length cap] w fun e w' => e = .returned (.bool (rightOf u l)) ∧ Below w.heap.size w w' := by
  have HS := Lib.hid hS
  have HI := Lib.hid hI
  have HM := Lib.hid hm
  unfold maxLen at hm
  clear hS hI
  go_enter Try.func44, Try.ntmps44
  go_wp2_with fail
  go_loopw [5] (fun i wr => ∃ k : Nat, k ≤ l.length ∧ i = .int .i64 k ∧ risesFrom u 0 l = risesFrom u (lastR l k) (l.drop k) ∧ Below w.heap.size w wr) (fun i _ => l.length - (intOf i).toNat)
  case atStart => exact ⟨0, by omega, rfl, rfl, Below.refl _ _⟩
  case round =>
    obtain ⟨k, hk, rfl, hR, hB⟩ := hrel
    have HR := Lib.hid hR
    clear hR
    have hs := hB.size
    by_cases hlt : k < l.length
    · obtain ⟨b, off, rfl, hb, hc⟩ := (HS.out.below hB).at_ hlt
      have d0 := hc 0 (.int .i64 l[k].1) rfl
      have d1 := hc 1 (.int .i64 l[k].2) rfl
      simp only [Nat.add_zero] at d0
      have hx := (HI.out _ (List.getElem_mem hlt)).1
      have HBad := Lib.hid (rises_bad hlt HR.out)
      have HGood := Lib.hid (fun h1 h2 h3 => rises_step hlt h1 h2 h3 HR.out)
      have hzb : b < wr.heap.size := by omega
      have i1 : (k : Int) < (l.length : Int) := by omega
      have hprev : ∀ j, k = j + 1 → ∃ y : Nd, lastR l k = y.1 ∧ wr.cell? ⟨b, off + j * 2, none⟩ = some (.int .i64 y.1) := by
        intro j hj
        subst hj
        have hlj : j < l.length := by omega
        obtain ⟨b', off', hA, _, hc'⟩ := (HS.out.below hB).at_ hlj
        cases hA
        refine ⟨l[j], by simp [lastR, hlj], ?_⟩
        have := hc' 0 (.int .i64 l[j].1) rfl
        simpa using this
      have HP := Lib.hid hprev
      obtain ⟨x, hxe⟩ : ∃ x, x = l[k] := ⟨_, rfl⟩
      rw [← hxe] at d0 d1 hx HBad HGood
      unfold i64 at hx
      have hx2 := hx.2
      clear hc hxe hx hprev
      cases h2 : isNode u x.1
      · have HF := Lib.hid (HBad.out (.inl h2))
        go_wp2_with fail
        refine wp_region_ext (by kernel_rfl) (by kernel_rfl) ?_
        repeat (go_big_quiet_step ((go_at_call 58; exact quiet_ext (ref2_Right _ u x.1 hx2))))
        refine wpQuiet_nil ?_
        intro w1 hb1
        replace hb1 := below_of_ext hb1
        have B1 : Below w.heap.size w w1 := Below.then_ (by repeat (first | with_reducible exact Below.refl _ _ | with_reducible assumption | ((with_reducible refine Below.setCell ?_ ?_ _); rotate_left; · (first | omega | exact Nat.le_refl _ | (simp <;> omega))) | (with_reducible refine Below.allocW ?_ _) | (with_reducible refine Below.drew ?_) | (with_reducible refine Below.extW ?_ _))) hb1
        have s1 : w.heap.size ≤ w1.heap.size := B1.size
        go_wp2_with fail
        go_ret
        exact ⟨ret_bool HF.out.symm, (by repeat (first | with_reducible exact Below.refl _ _ | with_reducible assumption | ((with_reducible refine Below.setCell ?_ ?_ _); rotate_left; · (first | omega | exact Nat.le_refl _ | (simp <;> omega))) | (with_reducible refine Below.allocW ?_ _) | (with_reducible refine Below.drew ?_) | (with_reducible refine Below.extW ?_ _)))⟩
      · by_cases h3 : x.2 < 1
        · have HF := Lib.hid (HBad.out (.inr (.inl h3)))
          go_wp2_with fail
          refine wp_region_ext (by kernel_rfl) (by kernel_rfl) ?_
          repeat (go_big_quiet_step ((go_at_call 58; exact quiet_ext (ref2_Right _ u x.1 hx2))))
          refine wpQuiet_nil ?_
          intro w1 hb1
          replace hb1 := below_of_ext hb1
          have B1 : Below w.heap.size w w1 := Below.then_ (by repeat (first | with_reducible exact Below.refl _ _ | with_reducible assumption | ((with_reducible refine Below.setCell ?_ ?_ _); rotate_left; · (first | omega | exact Nat.le_refl _ | (simp <;> omega))) | (with_reducible refine Below.allocW ?_ _) | (with_reducible refine Below.drew ?_) | (with_reducible refine Below.extW ?_ _))) hb1
          have s1 : w.heap.size ≤ w1.heap.size := B1.size
          go_wp2_with fail
          go_ret
          exact ⟨ret_bool HF.out.symm, (by repeat (first | with_reducible exact Below.refl _ _ | with_reducible assumption | ((with_reducible refine Below.setCell ?_ ?_ _); rotate_left; · (first | omega | exact Nat.le_refl _ | (simp <;> omega))) | (with_reducible refine Below.allocW ?_ _) | (with_reducible refine Below.drew ?_) | (with_reducible refine Below.extW ?_ _)))⟩
        · have h3' : decide (x.2 < 1) = false := by simpa using h3
          rcases k with _ | j
          · have h1' : 1 ≤ x.1 := (isNode_nat h2).elim fun n ⟨m, h⟩ => by omega
            have HF := Lib.hid (HGood.out h2 (by omega) (by simp only [lastR]; simp; omega))
            simp only [Nat.zero_mul, Nat.add_zero, Int.natCast_zero] at d0 d1 i1 ⊢
            go_wp2_with fail
            refine wp_region_ext (by kernel_rfl) (by kernel_rfl) ?_
            repeat (go_big_quiet_step ((go_at_call 58; exact quiet_ext (ref2_Right _ u x.1 hx2))))
            refine wpQuiet_nil ?_
            intro w1 hb1
            replace hb1 := below_of_ext hb1
            have B1 : Below w.heap.size w w1 := Below.then_ (by repeat (first | with_reducible exact Below.refl _ _ | with_reducible assumption | ((with_reducible refine Below.setCell ?_ ?_ _); rotate_left; · (first | omega | exact Nat.le_refl _ | (simp <;> omega))) | (with_reducible refine Below.allocW ?_ _) | (with_reducible refine Below.drew ?_) | (with_reducible refine Below.extW ?_ _))) hb1
            have s1 : w.heap.size ≤ w1.heap.size := B1.size
            go_wp2_with fail
            go_roundw
            case rel => exact ⟨1, by omega, by go_num, HF.out, (by repeat (first | with_reducible exact Below.refl _ _ | with_reducible assumption | ((with_reducible refine Below.setCell ?_ ?_ _); rotate_left; · (first | omega | exact Nat.le_refl _ | (simp <;> omega))) | (with_reducible refine Below.allocW ?_ _) | (with_reducible refine Below.drew ?_) | (with_reducible refine Below.extW ?_ _)))⟩
            case measure => simp [intOf]; omega
          · obtain ⟨y, hy1, hy2⟩ := HP.out j rfl
            have j0 : (0 : Int) ≤ (j : Int) := by omega
            have j1 : (j : Int) < (l.length : Int) := by omega
            by_cases h4 : x.1 ≤ y.1
            · have HF := Lib.hid (HBad.out (.inr (.inr (by omega))))
              have HY := Lib.hid hy1
              clear hy1
              go_wp2_with fail
              refine wp_region_ext (by kernel_rfl) (by kernel_rfl) ?_
              repeat (go_big_quiet_step ((go_at_call 58; exact quiet_ext (ref2_Right _ u x.1 hx2))))
              refine wpQuiet_nil ?_
              intro w1 hb1
              replace hb1 := below_of_ext hb1
              have B1 : Below w.heap.size w w1 := Below.then_ (by repeat (first | with_reducible exact Below.refl _ _ | with_reducible assumption | ((with_reducible refine Below.setCell ?_ ?_ _); rotate_left; · (first | omega | exact Nat.le_refl _ | (simp <;> omega))) | (with_reducible refine Below.allocW ?_ _) | (with_reducible refine Below.drew ?_) | (with_reducible refine Below.extW ?_ _))) hb1
              have s1 : w.heap.size ≤ w1.heap.size := B1.size
              go_wp2_with fail
              go_ret
              exact ⟨ret_bool HF.out.symm, (by repeat (first | with_reducible exact Below.refl _ _ | with_reducible assumption | ((with_reducible refine Below.setCell ?_ ?_ _); rotate_left; · (first | omega | exact Nat.le_refl _ | (simp <;> omega))) | (with_reducible refine Below.allocW ?_ _) | (with_reducible refine Below.drew ?_) | (with_reducible refine Below.extW ?_ _)))⟩
            · have HF := Lib.hid (HGood.out h2 (by omega) (by omega))
              have h4' : decide (x.1 ≤ y.1) = false := by simpa using h4
              have HY := Lib.hid hy1
              clear hy1
              go_wp2_with fail
              refine wp_region_ext (by kernel_rfl) (by kernel_rfl) ?_
              repeat (go_big_quiet_step ((go_at_call 58; exact quiet_ext (ref2_Right _ u x.1 hx2))))
              refine wpQuiet_nil ?_
              intro w1 hb1
              replace hb1 := below_of_ext hb1
              have B1 : Below w.heap.size w w1 := Below.then_ (by repeat (first | with_reducible exact Below.refl _ _ | with_reducible assumption | ((with_reducible refine Below.setCell ?_ ?_ _); rotate_left; · (first | omega | exact Nat.le_refl _ | (simp <;> omega))) | (with_reducible refine Below.allocW ?_ _) | (with_reducible refine Below.drew ?_) | (with_reducible refine Below.extW ?_ _))) hb1
              have s1 : w.heap.size ≤ w1.heap.size := B1.size
              go_wp2_with fail
              go_roundw
              case rel => exact ⟨j + 1 + 1, by omega, by go_num, HF.out, (by repeat (first | with_reducible exact Below.refl _ _ | with_reducible assumption | ((with_reducible refine Below.setCell ?_ ?_ _); rotate_left; · (first | omega | exact Nat.le_refl _ | (simp <;> omega))) | (with_reducible refine Below.allocW ?_ _) | (with_reducible refine Below.drew ?_) | (with_reducible refine Below.extW ?_ _)))⟩
              case measure => simp [intOf]; omega
    · obtain rfl : k = l.length := by omega
      have HE := Lib.hid (show rightOf u l = ((totalOf l).2 && isNode u 1) by unfold rightOf; rw [HR.out, List.drop_length]; simp [risesFrom])
      have HU := Lib.hid (show isNode u 1 = decide (1 ≤ u ∧ u ≤ 48) by
        simp only [isNode]
        rw [Bool.eq_iff_iff]
        simp only [decide_eq_true_eq]
        have := pow_pos' u.toNat
        omega)
      have HC := Lib.hid (ref6_Total · A cap l · HI.out HM.out)
      generalize totalOf l = r at HE HC
      obtain ⟨r1, r2⟩ := r
      go_wp2_with fail
      refine (HC.out _ (HS.out.keep hs fun p hp => hB.cell hp)).mono ?_
      rintro e w1 ⟨rfl, hb1⟩
      have B1 : Below w.heap.size w w1 := Below.then_ (by repeat (first | with_reducible exact Below.refl _ _ | with_reducible assumption | ((with_reducible refine Below.setCell ?_ ?_ _); rotate_left; · (first | omega | exact Nat.le_refl _ | (simp <;> omega))) | (with_reducible refine Below.allocW ?_ _) | (with_reducible refine Below.drew ?_) | (with_reducible refine Below.extW ?_ _))) hb1
      have s1 : w.heap.size ≤ w1.heap.size := B1.size
      unfold okV
      cases r2
      · go_wp2_with fail
        go_ret
        exact ⟨ret_bool HE.out.symm, (by repeat (first | with_reducible exact Below.refl _ _ | with_reducible assumption | ((with_reducible refine Below.setCell ?_ ?_ _); rotate_left; · (first | omega | exact Nat.le_refl _ | (simp <;> omega))) | (with_reducible refine Below.allocW ?_ _) | (with_reducible refine Below.drew ?_) | (with_reducible refine Below.extW ?_ _)))⟩
      · go_wp2_with fail
        refine (ref2_Is _ u).mono ?_
        rintro e w2 ⟨rfl, hb2⟩
        have B2 : Below w.heap.size w w2 := Below.then_ (by repeat (first | with_reducible exact Below.refl _ _ | with_reducible assumption | ((with_reducible refine Below.setCell ?_ ?_ _); rotate_left; · (first | omega | exact Nat.le_refl _ | (simp <;> omega))) | (with_reducible refine Below.allocW ?_ _) | (with_reducible refine Below.drew ?_) | (with_reducible refine Below.extW ?_ _))) hb2
        have s2 : w.heap.size ≤ w2.heap.size := B2.size
        go_wp2_with fail
        go_ret
        exact ⟨ret_bool (by rw [HE.out, HU.out]; simp [Bool.decide_and]), (by repeat (first | with_reducible exact Below.refl _ _ | with_reducible assumption | ((with_reducible refine Below.setCell ?_ ?_ _); rotate_left; · (first | omega | exact Nat.le_refl _ | (simp <;> omega))) | (with_reducible refine Below.allocW ?_ _) | (with_reducible refine Below.drew ?_) | (with_reducible refine Below.extW ?_ _)))⟩

theorem ref7_Total (w : World) (u : Int) (A : Option Addr) (cap : Nat) (l : List Nd) (hS : Sl w w.heap.size encN A l) (hI : ints l) (hm : l.length ≤ maxLen) :
    Calls Try.prog 64 #[.agg #[.int .i64 u, .slice A l.length cap]] w fun e w' => e = .returned (.int .i64 (totalOf l).1) ∧ Below w.heap.size w w' := by
  have HC := Lib.hid (ref6_Total · A cap l · hI hm)
  have HS := Lib.hid hS
  clear hS hI hm
  go_enter Try.func64, Try.ntmps64
  go_wp2_with fail
  refine (HC.out _ (HS.out.keep (by simp) fun p hp => ((Below.refl w.heap.size w).alloc (Nat.le_refl _) _).cell hp)).mono ?_
  rintro e w1 ⟨rfl, hb1⟩
  have B1 : Below w.heap.size w w1 := Below.then_ (by repeat (first | with_reducible exact Below.refl _ _ | with_reducible assumption | ((with_reducible refine Below.setCell ?_ ?_ _); rotate_left; · (first | omega | exact Nat.le_refl _ | (simp <;> omega))) | (with_reducible refine Below.allocW ?_ _) | (with_reducible refine Below.drew ?_) | (with_reducible refine Below.extW ?_ _))) hb1
  have s1 : w.heap.size ≤ w1.heap.size := B1.size
  have z1_0 : w.heap.size < w1.heap.size := by have := hb1.size; (try simp at this); omega
  have y1_0 : w.heap.size ≤ w1.heap.size := Nat.le_of_lt z1_0
  have c1_0 := fun o => hb1.cell (p := ⟨w.heap.size, o, none⟩) (by first | omega | (simp <;> omega))
  have f1_0 := fun o => hb1.frozen (p := ⟨w.heap.size, o, none⟩) (by first | omega | (simp <;> omega))
  unfold okV
  go_wp2_with fail
  go_ret
  exact ⟨rfl, (by repeat (first | with_reducible exact Below.refl _ _ | with_reducible assumption | ((with_reducible refine Below.setCell ?_ ?_ _); rotate_left; · (first | omega | exact Nat.le_refl _ | (simp <;> omega))) | (with_reducible refine Below.allocW ?_ _) | (with_reducible refine Below.drew ?_) | (with_reducible refine Below.extW ?_ _)))⟩
theorem ref9_Is (w : World) (K l : Int) : Calls Try.prog 76 #[.int .i64 K, .int .i64 l] w fun e w' => e = .returned (.bool (isPool K l)) ∧ Below w.heap.size w w' := by
  by_cases h1 : K = 1
  · subst h1
    by_cases h2 : 1 ≤ l
    · by_cases h3 : l ≤ 16
      · go_enter Try.func76, Try.ntmps76
        go_wp2_with fail
        go_ret
        exact ⟨ret_bool (by simp [isPool, h2, h3]), (by repeat (first | with_reducible exact Below.refl _ _ | with_reducible assumption | ((with_reducible refine Below.setCell ?_ ?_ _); rotate_left; · (first | omega | exact Nat.le_refl _ | (simp <;> omega))) | (with_reducible refine Below.allocW ?_ _) | (with_reducible refine Below.drew ?_) | (with_reducible refine Below.extW ?_ _)))⟩
      · have h3' : 16 < l := by omega
        go_enter Try.func76, Try.ntmps76
        go_wp2_with fail
        go_ret
        exact ⟨ret_bool (by simp [isPool]; omega), (by repeat (first | with_reducible exact Below.refl _ _ | with_reducible assumption | ((with_reducible refine Below.setCell ?_ ?_ _); rotate_left; · (first | omega | exact Nat.le_refl _ | (simp <;> omega))) | (with_reducible refine Below.allocW ?_ _) | (with_reducible refine Below.drew ?_) | (with_reducible refine Below.extW ?_ _)))⟩
    · go_enter Try.func76, Try.ntmps76
      go_wp2_with fail
      go_ret
      exact ⟨ret_bool (by simp [isPool]; omega), (by repeat (first | with_reducible exact Below.refl _ _ | with_reducible assumption | ((with_reducible refine Below.setCell ?_ ?_ _); rotate_left; · (first | omega | exact Nat.le_refl _ | (simp <;> omega))) | (with_reducible refine Below.allocW ?_ _) | (with_reducible refine Below.drew ?_) | (with_reducible refine Below.extW ?_ _)))⟩
  · have e1 : (K == 1) = false := by simpa using h1
    by_cases h2 : K = 2
    · subst h2
      by_cases h3 : 1 ≤ l
      · go_enter Try.func76, Try.ntmps76
        go_wp2_with fail
        go_ret
        exact ⟨ret_bool (by simp [isPool, h3]), (by repeat (first | with_reducible exact Below.refl _ _ | with_reducible assumption | ((with_reducible refine Below.setCell ?_ ?_ _); rotate_left; · (first | omega | exact Nat.le_refl _ | (simp <;> omega))) | (with_reducible refine Below.allocW ?_ _) | (with_reducible refine Below.drew ?_) | (with_reducible refine Below.extW ?_ _)))⟩
      · go_enter Try.func76, Try.ntmps76
        go_wp2_with fail
        go_ret
        exact ⟨ret_bool (by simp [isPool]; omega), (by repeat (first | with_reducible exact Below.refl _ _ | with_reducible assumption | ((with_reducible refine Below.setCell ?_ ?_ _); rotate_left; · (first | omega | exact Nat.le_refl _ | (simp <;> omega))) | (with_reducible refine Below.allocW ?_ _) | (with_reducible refine Below.drew ?_) | (with_reducible refine Below.extW ?_ _)))⟩
    · have e2 : (K == 2) = false := by simpa using h2
      go_enter Try.func76, Try.ntmps76
      go_wp2_with fail
      go_ret
      exact ⟨ret_bool (by simp [isPool, h1, h2]), (by repeat (first | with_reducible exact Below.refl _ _ | with_reducible assumption | ((with_reducible refine Below.setCell ?_ ?_ _); rotate_left; · (first | omega | exact Nat.le_refl _ | (simp <;> omega))) | (with_reducible refine Below.allocW ?_ _) | (with_reducible refine Below.drew ?_) | (with_reducible refine Below.extW ?_ _)))⟩
theorem ref11_Cap (w : World) (n k : Int) (hn0 : 0 ≤ n) (hn : n ≤ 9223372036854775807) (hk : 1 ≤ k) (hk2 : k ≤ 9223372036854775807) : Calls Try.prog 97 #[.int .i64 n, .int .i64 k] w fun e w' => e = .returned (.int .i64 (n / k)) ∧ Below w.heap.size w w' := by
  have q1 : 0 ≤ n / k := Int.ediv_nonneg (by omega) (by omega)
  have q2 : n / k ≤ n := Int.ediv_le_self _ (by omega)
  go_enter Try.func97, Try.ntmps97
  go_wp2_with fail
  go_ret
  exact ⟨rfl, (by repeat (first | with_reducible exact Below.refl _ _ | with_reducible assumption | ((with_reducible refine Below.setCell ?_ ?_ _); rotate_left; · (first | omega | exact Nat.le_refl _ | (simp <;> omega))) | (with_reducible refine Below.allocW ?_ _) | (with_reducible refine Below.drew ?_) | (with_reducible refine Below.extW ?_ _)))⟩
theorem ref12_Is (w : World) (k : Int) : Calls Try.prog 75 #[.int .i64 k] w fun e w' => e = .returned (.bool (decide (1 ≤ k ∧ k ≤ 1048576))) ∧ Below w.heap.size w w' := by
  by_cases h1 : 1 ≤ k
  · go_enter Try.func75, Try.ntmps75
    go_wp2_with fail
    go_ret
    exact ⟨ret_bool (by simp [h1]), (by repeat (first | with_reducible exact Below.refl _ _ | with_reducible assumption | ((with_reducible refine Below.setCell ?_ ?_ _); rotate_left; · (first | omega | exact Nat.le_refl _ | (simp <;> omega))) | (with_reducible refine Below.allocW ?_ _) | (with_reducible refine Below.drew ?_) | (with_reducible refine Below.extW ?_ _)))⟩
  · go_enter Try.func75, Try.ntmps75
    go_wp2_with fail
    go_ret
    exact ⟨ret_bool (by simp; omega), (by repeat (first | with_reducible exact Below.refl _ _ | with_reducible assumption | ((with_reducible refine Below.setCell ?_ ?_ _); rotate_left; · (first | omega | exact Nat.le_refl _ | (simp <;> omega))) | (with_reducible refine Below.allocW ?_ _) | (with_reducible refine Below.drew ?_) | (with_reducible refine Below.extW ?_ _)))⟩
theorem ref12_Cap (w : World) (u k : Int) (A : Option Addr) (cap : Nat) (l : List Nd) (hS : Sl w w.heap.size encN A l) (hI : ints l) (hm : l.length ≤ maxLen) (h0 : 0 ≤ (totalOf l).1) (h1 : (totalOf l).1 ≤ 72057594037927935) (hk : 1 ≤ k) (hk2 : k ≤ 1048576) :
    Calls Try.prog 80 #[.agg #[.int .i64 u, .slice A l.length cap], .int .i64 k] w fun e w' => e = .returned (.int .i64 ((totalOf l).1 / k)) ∧ Below w.heap.size w w' := by
  have HC := Lib.hid (ref7_Total · u A cap l · hI hm)
  have HS := Lib.hid hS
  clear hS hI hm
  generalize (totalOf l).1 = t at HC h0 h1 ⊢
  go_enter Try.func80, Try.ntmps80
  go_wp2_with fail
  refine (HC.out _ (HS.out.keep (by simp) fun p hp => ((Below.refl w.heap.size w).alloc (Nat.le_refl _) _).cell hp)).mono ?_
  rintro e w1 ⟨rfl, hb1⟩
  have B1 : Below w.heap.size w w1 := Below.then_ (by repeat (first | with_reducible exact Below.refl _ _ | with_reducible assumption | ((with_reducible refine Below.setCell ?_ ?_ _); rotate_left; · (first | omega | exact Nat.le_refl _ | (simp <;> omega))) | (with_reducible refine Below.allocW ?_ _) | (with_reducible refine Below.drew ?_) | (with_reducible refine Below.extW ?_ _))) hb1
  have s1 : w.heap.size ≤ w1.heap.size := B1.size
  have z1_0 : w.heap.size < w1.heap.size := by have := hb1.size; (try simp at this); omega
  have y1_0 : w.heap.size ≤ w1.heap.size := Nat.le_of_lt z1_0
  have c1_0 := fun o => hb1.cell (p := ⟨w.heap.size, o, none⟩) (by first | omega | (simp <;> omega))
  have f1_0 := fun o => hb1.frozen (p := ⟨w.heap.size, o, none⟩) (by first | omega | (simp <;> omega))
  go_wp2_with fail
  refine (ref11_Cap _ t k h0 (by omega) hk (by omega)).mono ?_
  rintro e w2 ⟨rfl, hb2⟩
  have B2 : Below w.heap.size w w2 := Below.then_ (by repeat (first | with_reducible exact Below.refl _ _ | with_reducible assumption | ((with_reducible refine Below.setCell ?_ ?_ _); rotate_left; · (first | omega | exact Nat.le_refl _ | (simp <;> omega))) | (with_reducible refine Below.allocW ?_ _) | (with_reducible refine Below.drew ?_) | (with_reducible refine Below.extW ?_ _))) hb2
  have s2 : w.heap.size ≤ w2.heap.size := B2.size
  go_wp2_with fail
  go_ret
  exact ⟨rfl, (by repeat (first | with_reducible exact Below.refl _ _ | with_reducible assumption | ((with_reducible refine Below.setCell ?_ ?_ _); rotate_left; · (first | omega | exact Nat.le_refl _ | (simp <;> omega))) | (with_reducible refine Below.allocW ?_ _) | (with_reducible refine Below.drew ?_) | (with_reducible refine Below.extW ?_ _)))⟩
theorem light_step {u m : Int} {l : List Nd} {k : Nat} (hk : k < l.length) (h : (l.take k).any (heavy u m) = false) (hx : heavy u m l[k] = false) : (l.take (k + 1)).any (heavy u m) = false := by
  rw [List.take_succ_eq_append_getElem hk, List.any_append, h]; simp [hx]
theorem light_bad {u m : Int} {l : List Nd} {k : Nat} (hk : k < l.length) (hx : heavy u m l[k] = true) : l.any (heavy u m) = true := List.any_eq_true.2 ⟨_, List.getElem_mem hk, hx⟩
set_option maxRecDepth 100000 in
theorem ref12_Light (w : World) (u k : Int) (A : Option Addr) (cap : Nat) (l : List Nd) (hS : Sl w w.heap.size encN A l) (hI : ints l) (hm : l.length ≤ maxLen) (ht : (totalOf l).1 = sumR l) (h0 : 0 ≤ sumR l) (h1 : sumR l ≤ 72057594037927935) (hk : 1 ≤ k) (hk2 : k ≤ 1048576) :
    Calls Try.prog 46 #[.agg #[.int .i64 u, .slice A l.length cap], .int .i64 k] w fun e w' => e = .returned (.bool (lightOf u l k)) ∧ Below w.heap.size w w' := by
  have HC : Hid (∀ W, Sl W W.heap.size encN A l → Calls Try.prog 80 #[.agg #[.int .i64 u, .slice A l.length cap], .int .i64 k] W fun e w' => e = .returned (.int .i64 (sumR l / k)) ∧ Below W.heap.size W w') := Lib.hid fun W hW => by
    have := ref12_Cap W u k A cap l hW hI hm (by omega) (by omega) hk hk2
    rwa [ht] at this
  have HS := Lib.hid (hS.keep (B' := w.heap.size) (Nat.le_refl _) fun p hp => ((Below.refl w.heap.size w).alloc (Nat.le_refl _) (.cells #[.int .i64 u, .slice A l.length cap] 29)).cell hp)
  have HI := Lib.hid hI
  have HM : Hid (lightOf u l k = !l.any (heavy u (sumR l / k))) := Lib.hid rfl
  unfold maxLen at hm
  clear hS hI ht
  generalize sumR l / k = m at HC HM
  go_enter Try.func46, Try.ntmps46
  go_wp2_with fail
  go_loopw [5] (fun i wr => ∃ q : Nat, q ≤ l.length ∧ i = .int .i64 q ∧ (l.take q).any (heavy u m) = false ∧ Below w.heap.size w wr ∧ Below (w.heap.size + 1) (w.alloc (.cells #[.int .i64 u, .slice A l.length cap] 29)) wr) (fun i _ => l.length - (intOf i).toNat)
  case atStart => exact ⟨0, by omega, rfl, rfl, (by repeat (first | with_reducible exact Below.refl _ _ | with_reducible assumption | ((with_reducible refine Below.setCell ?_ ?_ _); rotate_left; · (first | omega | exact Nat.le_refl _ | (simp <;> omega))) | (with_reducible refine Below.allocW ?_ _) | (with_reducible refine Below.drew ?_) | (with_reducible refine Below.extW ?_ _))), Below.refl _ _⟩
  case round =>
    obtain ⟨q, hq, rfl, hR, hBw, hB⟩ := hrel
    have HR := Lib.hid hR
    clear hR
    have hs := hB.size
    simp only [World.size_alloc] at hs
    have cb := blk_cell ((hB.block w.heap.size (by omega)).trans (heap_alloc_new w _))
    have zb : w.heap.size < wr.heap.size := by omega
    by_cases hlt : q < l.length
    · obtain ⟨b, off, rfl, hb, hc⟩ := (HS.out.below (hB.mono (by omega))).at_ hlt
      have HSr := Lib.hid ((HS.out.below (hB.mono (by omega))).keep (B' := wr.heap.size) (by omega) fun p hp => rfl)
      have d0 := hc 0 (.int .i64 l[q].1) rfl
      have d1 := hc 1 (.int .i64 l[q].2) rfl
      simp only [Nat.add_zero] at d0
      have hx := (HI.out _ (List.getElem_mem hlt)).1
      have HStep := Lib.hid (light_step hlt HR.out)
      have HBad := Lib.hid (light_bad (u := u) (m := m) hlt)
      have hzb : b < wr.heap.size := by omega
      have i1 : (q : Int) < (l.length : Int) := by omega
      obtain ⟨x, hxe⟩ : ∃ x, x = l[q] := ⟨_, rfl⟩
      rw [← hxe] at d0 d1 hx HStep HBad
      have HK := Lib.hid (ref2_Kids · u x.1 hx.2)
      have HH : Hid (heavy u m x = ((kidsOf u x.1).2.2 && decide (m < x.2))) := Lib.hid rfl
      generalize kidsOf u x.1 = t at HK HH
      obtain ⟨t1, t2, t3⟩ := t
      unfold endsV at HK
      clear hc hxe hx
      cases t3
      · have HF := Lib.hid (HStep.out (by rw [HH.out]; rfl))
        go_wp2_with fail
        refine wp_region_ext (by kernel_rfl) (by kernel_rfl) ?_
        repeat (go_big_quiet_step ((go_at_call 79; exact quiet_ext (HK.out _))))
        refine wpQuiet_nil ?_
        intro w1 hb1
        replace hb1 := below_of_ext hb1
        have B1 : Below w.heap.size w w1 := Below.then_ (by repeat (first | with_reducible exact Below.refl _ _ | with_reducible assumption | ((with_reducible refine Below.setCell ?_ ?_ _); rotate_left; · (first | omega | exact Nat.le_refl _ | (simp <;> omega))) | (with_reducible refine Below.allocW ?_ _) | (with_reducible refine Below.drew ?_) | (with_reducible refine Below.extW ?_ _))) hb1
        have s1 : w.heap.size ≤ w1.heap.size := B1.size
        have z1_0 : w.heap.size < w1.heap.size := by have := hb1.size; (try simp at this); omega
        have y1_0 : w.heap.size ≤ w1.heap.size := Nat.le_of_lt z1_0
        have c1_0 := fun o => hb1.cell (p := ⟨w.heap.size, o, none⟩) (by first | omega | (simp <;> omega))
        have f1_0 := fun o => hb1.frozen (p := ⟨w.heap.size, o, none⟩) (by first | omega | (simp <;> omega))
        have z1_1 : b < w1.heap.size := by have := hb1.size; (try simp at this); omega
        have y1_1 : b ≤ w1.heap.size := Nat.le_of_lt z1_1
        have c1_1 := fun o => hb1.cell (p := ⟨b, o, none⟩) (by first | omega | (simp <;> omega))
        have f1_1 := fun o => hb1.frozen (p := ⟨b, o, none⟩) (by first | omega | (simp <;> omega))
        go_wp2_with fail
        refine wp_region_ext (by kernel_rfl) (by kernel_rfl) ?_
        repeat (go_big_quiet_step (fail))
        refine wpQuiet_nil ?_
        intro w2 hb2
        replace hb2 := below_of_ext hb2
        have B2 : Below w.heap.size w w2 := Below.then_ (by repeat (first | with_reducible exact Below.refl _ _ | with_reducible assumption | ((with_reducible refine Below.setCell ?_ ?_ _); rotate_left; · (first | omega | exact Nat.le_refl _ | (simp <;> omega))) | (with_reducible refine Below.allocW ?_ _) | (with_reducible refine Below.drew ?_) | (with_reducible refine Below.extW ?_ _))) hb2
        have s2 : w.heap.size ≤ w2.heap.size := B2.size
        have z2_0 : w.heap.size < w2.heap.size := by have := hb2.size; (try simp at this); omega
        have y2_0 : w.heap.size ≤ w2.heap.size := Nat.le_of_lt z2_0
        have c2_0 := fun o => hb2.cell (p := ⟨w.heap.size, o, none⟩) (by first | omega | (simp <;> omega))
        have f2_0 := fun o => hb2.frozen (p := ⟨w.heap.size, o, none⟩) (by first | omega | (simp <;> omega))
        have z2_1 : b < w2.heap.size := by have := hb2.size; (try simp at this); omega
        have y2_1 : b ≤ w2.heap.size := Nat.le_of_lt z2_1
        have c2_1 := fun o => hb2.cell (p := ⟨b, o, none⟩) (by first | omega | (simp <;> omega))
        have f2_1 := fun o => hb2.frozen (p := ⟨b, o, none⟩) (by first | omega | (simp <;> omega))
        have hB2 : Below (w.heap.size + 1) (w.alloc (.cells #[.int .i64 u, .slice (some ⟨b, off, none⟩) l.length cap] 29)) w2 := hB.trans ((hb1.mono (by omega)).trans (hb2.mono (by omega)))
        go_wp2_with fail
        go_roundw
        case rel => exact ⟨q + 1, by omega, by go_num, HF.out, B2, hB2⟩
        case measure => simp [intOf]; omega
      · by_cases hmx : m < x.2
        · have HF := Lib.hid (HBad.out (by rw [HH.out]; simpa using hmx))
          go_wp2_with fail
          refine wp_region_ext (by kernel_rfl) (by kernel_rfl) ?_
          repeat (go_big_quiet_step ((go_at_call 79; exact quiet_ext (HK.out _))))
          refine wpQuiet_nil ?_
          intro w1 hb1
          replace hb1 := below_of_ext hb1
          have B1 : Below w.heap.size w w1 := Below.then_ (by repeat (first | with_reducible exact Below.refl _ _ | with_reducible assumption | ((with_reducible refine Below.setCell ?_ ?_ _); rotate_left; · (first | omega | exact Nat.le_refl _ | (simp <;> omega))) | (with_reducible refine Below.allocW ?_ _) | (with_reducible refine Below.drew ?_) | (with_reducible refine Below.extW ?_ _))) hb1
          have s1 : w.heap.size ≤ w1.heap.size := B1.size
          have z1_0 : w.heap.size < w1.heap.size := by have := hb1.size; (try simp at this); omega
          have y1_0 : w.heap.size ≤ w1.heap.size := Nat.le_of_lt z1_0
          have c1_0 := fun o => hb1.cell (p := ⟨w.heap.size, o, none⟩) (by first | omega | (simp <;> omega))
          have f1_0 := fun o => hb1.frozen (p := ⟨w.heap.size, o, none⟩) (by first | omega | (simp <;> omega))
          have z1_1 : b < w1.heap.size := by have := hb1.size; (try simp at this); omega
          have y1_1 : b ≤ w1.heap.size := Nat.le_of_lt z1_1
          have c1_1 := fun o => hb1.cell (p := ⟨b, o, none⟩) (by first | omega | (simp <;> omega))
          have f1_1 := fun o => hb1.frozen (p := ⟨b, o, none⟩) (by first | omega | (simp <;> omega))
          have HS1 := Lib.hid (HSr.out.keep hb1.size fun p hp => hb1.cell hp)
          go_wp2_with fail
          refine wp_region_ext (by kernel_rfl) (by kernel_rfl) ?_
          repeat (go_big_quiet_step ((go_at_call 80; exact quiet_ext (HC.out _ (HS1.out.keep (ext_below _ _).size fun p hp => (ext_below _ _).cell hp)))))
          refine wpQuiet_nil ?_
          intro w2 hb2
          replace hb2 := below_of_ext hb2
          have B2 : Below w.heap.size w w2 := Below.then_ (by repeat (first | with_reducible exact Below.refl _ _ | with_reducible assumption | ((with_reducible refine Below.setCell ?_ ?_ _); rotate_left; · (first | omega | exact Nat.le_refl _ | (simp <;> omega))) | (with_reducible refine Below.allocW ?_ _) | (with_reducible refine Below.drew ?_) | (with_reducible refine Below.extW ?_ _))) hb2
          have s2 : w.heap.size ≤ w2.heap.size := B2.size
          have z2_0 : w.heap.size < w2.heap.size := by have := hb2.size; (try simp at this); omega
          have y2_0 : w.heap.size ≤ w2.heap.size := Nat.le_of_lt z2_0
          have c2_0 := fun o => hb2.cell (p := ⟨w.heap.size, o, none⟩) (by first | omega | (simp <;> omega))
          have f2_0 := fun o => hb2.frozen (p := ⟨w.heap.size, o, none⟩) (by first | omega | (simp <;> omega))
          have z2_1 : b < w2.heap.size := by have := hb2.size; (try simp at this); omega
          have y2_1 : b ≤ w2.heap.size := Nat.le_of_lt z2_1
          have c2_1 := fun o => hb2.cell (p := ⟨b, o, none⟩) (by first | omega | (simp <;> omega))
          have f2_1 := fun o => hb2.frozen (p := ⟨b, o, none⟩) (by first | omega | (simp <;> omega))
          go_wp2_with fail
          go_ret
          exact ⟨ret_bool (by rw [HM.out, HF.out]; rfl), (by repeat (first | with_reducible exact Below.refl _ _ | with_reducible assumption | ((with_reducible refine Below.setCell ?_ ?_ _); rotate_left; · (first | omega | exact Nat.le_refl _ | (simp <;> omega))) | (with_reducible refine Below.allocW ?_ _) | (with_reducible refine Below.drew ?_) | (with_reducible refine Below.extW ?_ _)))⟩
        · have hmx' : decide (m < x.2) = false := by simpa using hmx
          have HF := Lib.hid (HStep.out (by rw [HH.out, hmx']; rfl))
          go_wp2_with fail
          refine wp_region_ext (by kernel_rfl) (by kernel_rfl) ?_
          repeat (go_big_quiet_step ((go_at_call 79; exact quiet_ext (HK.out _))))
          refine wpQuiet_nil ?_
          intro w1 hb1
          replace hb1 := below_of_ext hb1
          have B1 : Below w.heap.size w w1 := Below.then_ (by repeat (first | with_reducible exact Below.refl _ _ | with_reducible assumption | ((with_reducible refine Below.setCell ?_ ?_ _); rotate_left; · (first | omega | exact Nat.le_refl _ | (simp <;> omega))) | (with_reducible refine Below.allocW ?_ _) | (with_reducible refine Below.drew ?_) | (with_reducible refine Below.extW ?_ _))) hb1
          have s1 : w.heap.size ≤ w1.heap.size := B1.size
          have z1_0 : w.heap.size < w1.heap.size := by have := hb1.size; (try simp at this); omega
          have y1_0 : w.heap.size ≤ w1.heap.size := Nat.le_of_lt z1_0
          have c1_0 := fun o => hb1.cell (p := ⟨w.heap.size, o, none⟩) (by first | omega | (simp <;> omega))
          have f1_0 := fun o => hb1.frozen (p := ⟨w.heap.size, o, none⟩) (by first | omega | (simp <;> omega))
          have z1_1 : b < w1.heap.size := by have := hb1.size; (try simp at this); omega
          have y1_1 : b ≤ w1.heap.size := Nat.le_of_lt z1_1
          have c1_1 := fun o => hb1.cell (p := ⟨b, o, none⟩) (by first | omega | (simp <;> omega))
          have f1_1 := fun o => hb1.frozen (p := ⟨b, o, none⟩) (by first | omega | (simp <;> omega))
          have HS1 := Lib.hid (HSr.out.keep hb1.size fun p hp => hb1.cell hp)
          go_wp2_with fail
          refine wp_region_ext (by kernel_rfl) (by kernel_rfl) ?_
          repeat (go_big_quiet_step ((go_at_call 80; exact quiet_ext (HC.out _ (HS1.out.keep (ext_below _ _).size fun p hp => (ext_below _ _).cell hp)))))
          refine wpQuiet_nil ?_
          intro w2 hb2
          replace hb2 := below_of_ext hb2
          have B2 : Below w.heap.size w w2 := Below.then_ (by repeat (first | with_reducible exact Below.refl _ _ | with_reducible assumption | ((with_reducible refine Below.setCell ?_ ?_ _); rotate_left; · (first | omega | exact Nat.le_refl _ | (simp <;> omega))) | (with_reducible refine Below.allocW ?_ _) | (with_reducible refine Below.drew ?_) | (with_reducible refine Below.extW ?_ _))) hb2
          have s2 : w.heap.size ≤ w2.heap.size := B2.size
          have z2_0 : w.heap.size < w2.heap.size := by have := hb2.size; (try simp at this); omega
          have y2_0 : w.heap.size ≤ w2.heap.size := Nat.le_of_lt z2_0
          have c2_0 := fun o => hb2.cell (p := ⟨w.heap.size, o, none⟩) (by first | omega | (simp <;> omega))
          have f2_0 := fun o => hb2.frozen (p := ⟨w.heap.size, o, none⟩) (by first | omega | (simp <;> omega))
          have z2_1 : b < w2.heap.size := by have := hb2.size; (try simp at this); omega
          have y2_1 : b ≤ w2.heap.size := Nat.le_of_lt z2_1
          have c2_1 := fun o => hb2.cell (p := ⟨b, o, none⟩) (by first | omega | (simp <;> omega))
          have f2_1 := fun o => hb2.frozen (p := ⟨b, o, none⟩) (by first | omega | (simp <;> omega))
          have hB2 : Below (w.heap.size + 1) (w.alloc (.cells #[.int .i64 u, .slice (some ⟨b, off, none⟩) l.length cap] 29)) w2 := hB.trans ((hb1.mono (by omega)).trans (hb2.mono (by omega)))
          go_wp2_with fail
          go_roundw
          case rel => exact ⟨q + 1, by omega, by go_num, HF.out, B2, hB2⟩
          case measure => simp [intOf]; omega
    · obtain rfl : q = l.length := by omega
      rw [List.take_length] at HR
      have hkk : decide (1 ≤ k ∧ k ≤ 1048576) = true := by simp [hk, hk2]
      have HK2 := Lib.hid hkk
      clear hkk
      go_wp2_with fail
      refine (ref12_Is _ k).mono ?_
      rintro e w1 ⟨rfl, hb1⟩
      have B1 : Below w.heap.size w w1 := Below.then_ (by repeat (first | with_reducible exact Below.refl _ _ | with_reducible assumption | ((with_reducible refine Below.setCell ?_ ?_ _); rotate_left; · (first | omega | exact Nat.le_refl _ | (simp <;> omega))) | (with_reducible refine Below.allocW ?_ _) | (with_reducible refine Below.drew ?_) | (with_reducible refine Below.extW ?_ _))) hb1
      have s1 : w.heap.size ≤ w1.heap.size := B1.size
      rw [HK2.out]
      go_wp2_with fail
      go_ret
      exact ⟨ret_bool (by rw [HM.out, HR.out]; rfl), (by repeat (first | with_reducible exact Below.refl _ _ | with_reducible assumption | ((with_reducible refine Below.setCell ?_ ?_ _); rotate_left; · (first | omega | exact Nat.le_refl _ | (simp <;> omega))) | (with_reducible refine Below.allocW ?_ _) | (with_reducible refine Below.drew ?_) | (with_reducible refine Below.extW ?_ _)))⟩

theorem ref13_Is (w : World) (l k K : Int) : Calls Try.prog 43 #[.agg #[.int .i64 l, .int .i64 k, .int .i64 K]] w fun e w' => e = .returned (.bool (isDig l k K)) ∧ Below w.heap.size w w' := by
  have HE : Hid (isDig l k K = (isPool K l && decide (1 ≤ k ∧ k ≤ 1048576))) := Lib.hid rfl
  have HC := Lib.hid (ref12_Is · k)
  cases hk : decide (1 ≤ k ∧ k ≤ 1048576)
  · rw [hk] at HE HC
    clear hk
    go_enter Try.func43, Try.ntmps43
    go_wp2_with fail
    refine (HC.out _).mono ?_
    rintro e w1 ⟨rfl, hb1⟩
    have B1 : Below w.heap.size w w1 := Below.then_ (by repeat (first | with_reducible exact Below.refl _ _ | with_reducible assumption | ((with_reducible refine Below.setCell ?_ ?_ _); rotate_left; · (first | omega | exact Nat.le_refl _ | (simp <;> omega))) | (with_reducible refine Below.allocW ?_ _) | (with_reducible refine Below.drew ?_) | (with_reducible refine Below.extW ?_ _))) hb1
    have s1 : w.heap.size ≤ w1.heap.size := B1.size
    have z1_0 : w.heap.size < w1.heap.size := by have := hb1.size; (try simp at this); omega
    have y1_0 : w.heap.size ≤ w1.heap.size := Nat.le_of_lt z1_0
    have c1_0 := fun o => hb1.cell (p := ⟨w.heap.size, o, none⟩) (by first | omega | (simp <;> omega))
    have f1_0 := fun o => hb1.frozen (p := ⟨w.heap.size, o, none⟩) (by first | omega | (simp <;> omega))
    go_wp2_with fail
    go_ret
    exact ⟨ret_bool (by rw [HE.out]; simp), (by repeat (first | with_reducible exact Below.refl _ _ | with_reducible assumption | ((with_reducible refine Below.setCell ?_ ?_ _); rotate_left; · (first | omega | exact Nat.le_refl _ | (simp <;> omega))) | (with_reducible refine Below.allocW ?_ _) | (with_reducible refine Below.drew ?_) | (with_reducible refine Below.extW ?_ _)))⟩
  · rw [hk] at HE HC
    clear hk
    go_enter Try.func43, Try.ntmps43
    go_wp2_with fail
    refine (HC.out _).mono ?_
    rintro e w1 ⟨rfl, hb1⟩
    have B1 : Below w.heap.size w w1 := Below.then_ (by repeat (first | with_reducible exact Below.refl _ _ | with_reducible assumption | ((with_reducible refine Below.setCell ?_ ?_ _); rotate_left; · (first | omega | exact Nat.le_refl _ | (simp <;> omega))) | (with_reducible refine Below.allocW ?_ _) | (with_reducible refine Below.drew ?_) | (with_reducible refine Below.extW ?_ _))) hb1
    have s1 : w.heap.size ≤ w1.heap.size := B1.size
    have z1_0 : w.heap.size < w1.heap.size := by have := hb1.size; (try simp at this); omega
    have y1_0 : w.heap.size ≤ w1.heap.size := Nat.le_of_lt z1_0
    have c1_0 := fun o => hb1.cell (p := ⟨w.heap.size, o, none⟩) (by first | omega | (simp <;> omega))
    have f1_0 := fun o => hb1.frozen (p := ⟨w.heap.size, o, none⟩) (by first | omega | (simp <;> omega))
    go_wp2_with fail
    refine (ref9_Is _ K l).mono ?_
    rintro e w2 ⟨rfl, hb2⟩
    have B2 : Below w.heap.size w w2 := Below.then_ (by repeat (first | with_reducible exact Below.refl _ _ | with_reducible assumption | ((with_reducible refine Below.setCell ?_ ?_ _); rotate_left; · (first | omega | exact Nat.le_refl _ | (simp <;> omega))) | (with_reducible refine Below.allocW ?_ _) | (with_reducible refine Below.drew ?_) | (with_reducible refine Below.extW ?_ _))) hb2
    have s2 : w.heap.size ≤ w2.heap.size := B2.size
    have z2_0 : w.heap.size < w2.heap.size := by have := hb2.size; (try simp at this); omega
    have y2_0 : w.heap.size ≤ w2.heap.size := Nat.le_of_lt z2_0
    have c2_0 := fun o => hb2.cell (p := ⟨w.heap.size, o, none⟩) (by first | omega | (simp <;> omega))
    have f2_0 := fun o => hb2.frozen (p := ⟨w.heap.size, o, none⟩) (by first | omega | (simp <;> omega))
    go_wp2_with fail
    go_ret
    exact ⟨ret_bool (by rw [HE.out]; simp), (by repeat (first | with_reducible exact Below.refl _ _ | with_reducible assumption | ((with_reducible refine Below.setCell ?_ ?_ _); rotate_left; · (first | omega | exact Nat.le_refl _ | (simp <;> omega))) | (with_reducible refine Below.allocW ?_ _) | (with_reducible refine Below.drew ?_) | (with_reducible refine Below.extW ?_ _)))⟩
theorem ref13_New (w : World) (l k K : Int) : Calls Try.prog 45 #[.agg #[.int .i64 l, .int .i64 k, .int .i64 K]] w fun e w' => e = .returned (.agg #[.int .i64 k, .int .i64 l, .slice none 0 0]) ∧ Below w.heap.size w w' := by
  go_enter Try.func45, Try.ntmps45
  go_wp2_with fail
  exact bodyPost_ret (v := .agg #[.int .i64 k, .int .i64 l, .slice none 0 0]) (by simp only [results, Try.results45]; go_simp) rfl ⟨rfl, (by repeat (first | with_reducible exact Below.refl _ _ | with_reducible assumption | ((with_reducible refine Below.setCell ?_ ?_ _); rotate_left; · (first | omega | exact Nat.le_refl _ | (simp <;> omega))) | (with_reducible refine Below.allocW ?_ _) | (with_reducible refine Below.drew ?_) | (with_reducible refine Below.extW ?_ _)))⟩
/-- The document's digest. -/
def refDig (k l : Int) (A : Option Addr) (n cap : Nat) : Value := .agg #[.int .i64 k, .int .i64 l, .slice A n cap]
def refLoadV (l k K : Int) (A : Option Addr) (r : List Nd) (cap : Nat) : Value := if loadErr l k K r = 0 then .tuple #[refDig k l A r.length cap, .int .i64 0] else .tuple #[refDig 0 0 none 0 0, .int .i64 (loadErr l k K r)]

theorem ref13_Load_2 (w : World) (l k K : Int) (A : Option Addr) (cap : Nat) (r : List Nd) (hd : isDig l k K = false) : Calls Try.prog 21 #[.agg #[.int .i64 l, .int .i64 k, .int .i64 K], .slice A r.length cap] w fun e w' => e = .returned (.tuple #[refDig 0 0 none 0 0, .int .i64 2]) ∧ Below w.heap.size w w' := by
  have HD := Lib.hid hd
  clear hd
  unfold refDig
  go_enter Try.func21, Try.ntmps21
  go_wp2_with fail
  refine (ref13_Is _ l k K).mono ?_
  rintro e w1 ⟨rfl, hb1⟩
  have B1 : Below w.heap.size w w1 := Below.then_ (by repeat (first | with_reducible exact Below.refl _ _ | with_reducible assumption | ((with_reducible refine Below.setCell ?_ ?_ _); rotate_left; · (first | omega | exact Nat.le_refl _ | (simp <;> omega))) | (with_reducible refine Below.allocW ?_ _) | (with_reducible refine Below.drew ?_) | (with_reducible refine Below.extW ?_ _))) hb1
  have s1 : w.heap.size ≤ w1.heap.size := B1.size
  have z1_0 : w.heap.size < w1.heap.size := by have := hb1.size; (try simp at this); omega
  have y1_0 : w.heap.size ≤ w1.heap.size := Nat.le_of_lt z1_0
  have c1_0 := fun o => hb1.cell (p := ⟨w.heap.size, o, none⟩) (by first | omega | (simp <;> omega))
  have f1_0 := fun o => hb1.frozen (p := ⟨w.heap.size, o, none⟩) (by first | omega | (simp <;> omega))
  have z1_1 : w.heap.size + 1 < w1.heap.size := by have := hb1.size; (try simp at this); omega
  have y1_1 : w.heap.size + 1 ≤ w1.heap.size := Nat.le_of_lt z1_1
  have c1_1 := fun o => hb1.cell (p := ⟨w.heap.size + 1, o, none⟩) (by first | omega | (simp <;> omega))
  have f1_1 := fun o => hb1.frozen (p := ⟨w.heap.size + 1, o, none⟩) (by first | omega | (simp <;> omega))
  rw [HD.out]
  go_wp2_with fail
  exact bodyPost_ret (v := .tuple #[.agg #[.int .i64 0, .int .i64 0, .slice none 0 0], .int .i64 2]) (by simp only [results, Try.results21]; go_simp) rfl ⟨rfl, (by repeat (first | with_reducible exact Below.refl _ _ | with_reducible assumption | ((with_reducible refine Below.setCell ?_ ?_ _); rotate_left; · (first | omega | exact Nat.le_refl _ | (simp <;> omega))) | (with_reducible refine Below.allocW ?_ _) | (with_reducible refine Below.drew ?_) | (with_reducible refine Below.extW ?_ _)))⟩
theorem ref13_Load_10 (w : World) (l k K : Int) (A : Option Addr) (cap : Nat) (r : List Nd) (hd : isDig l k K = true) (hr : rightOf l r = false) (hS : Sl w w.heap.size encN A r) (hI : ints r) (hn : r.length < 67108864) : Calls Try.prog 21 #[.agg #[.int .i64 l, .int .i64 k, .int .i64 K], .slice A r.length cap] w fun e w' => e = .returned (.tuple #[refDig 0 0 none 0 0, .int .i64 10]) ∧ Below w.heap.size w w' := by
  have HD := Lib.hid hd
  have HR := Lib.hid (ref6_Right · l A cap r · hI (by unfold maxLen; omega))
  have HF := Lib.hid hr
  have HS := Lib.hid hS
  clear hd hr hS
  unfold refDig
  go_enter Try.func21, Try.ntmps21
  go_wp2_with fail
  refine (ref13_Is _ l k K).mono ?_
  rintro e w1 ⟨rfl, hb1⟩
  have B1 : Below w.heap.size w w1 := Below.then_ (by repeat (first | with_reducible exact Below.refl _ _ | with_reducible assumption | ((with_reducible refine Below.setCell ?_ ?_ _); rotate_left; · (first | omega | exact Nat.le_refl _ | (simp <;> omega))) | (with_reducible refine Below.allocW ?_ _) | (with_reducible refine Below.drew ?_) | (with_reducible refine Below.extW ?_ _))) hb1
  have s1 : w.heap.size ≤ w1.heap.size := B1.size
  have z1_0 : w.heap.size < w1.heap.size := by have := hb1.size; (try simp at this); omega
  have y1_0 : w.heap.size ≤ w1.heap.size := Nat.le_of_lt z1_0
  have c1_0 := fun o => hb1.cell (p := ⟨w.heap.size, o, none⟩) (by first | omega | (simp <;> omega))
  have f1_0 := fun o => hb1.frozen (p := ⟨w.heap.size, o, none⟩) (by first | omega | (simp <;> omega))
  have z1_1 : w.heap.size + 1 < w1.heap.size := by have := hb1.size; (try simp at this); omega
  have y1_1 : w.heap.size + 1 ≤ w1.heap.size := Nat.le_of_lt z1_1
  have c1_1 := fun o => hb1.cell (p := ⟨w.heap.size + 1, o, none⟩) (by first | omega | (simp <;> omega))
  have f1_1 := fun o => hb1.frozen (p := ⟨w.heap.size + 1, o, none⟩) (by first | omega | (simp <;> omega))
  rw [HD.out]
  go_wp2_with fail
  refine (HR.out _ (HS.out.keep s1 fun p hp => B1.cell hp)).mono ?_
  rintro e w2 ⟨rfl, hb2⟩
  have B2 : Below w.heap.size w w2 := Below.then_ (by repeat (first | with_reducible exact Below.refl _ _ | with_reducible assumption | ((with_reducible refine Below.setCell ?_ ?_ _); rotate_left; · (first | omega | exact Nat.le_refl _ | (simp <;> omega))) | (with_reducible refine Below.allocW ?_ _) | (with_reducible refine Below.drew ?_) | (with_reducible refine Below.extW ?_ _))) hb2
  have s2 : w.heap.size ≤ w2.heap.size := B2.size
  have z2_0 : w.heap.size < w2.heap.size := by have := hb2.size; (try simp at this); omega
  have y2_0 : w.heap.size ≤ w2.heap.size := Nat.le_of_lt z2_0
  have c2_0 := fun o => hb2.cell (p := ⟨w.heap.size, o, none⟩) (by first | omega | (simp <;> omega))
  have f2_0 := fun o => hb2.frozen (p := ⟨w.heap.size, o, none⟩) (by first | omega | (simp <;> omega))
  have z2_1 : w.heap.size + 1 < w2.heap.size := by have := hb2.size; (try simp at this); omega
  have y2_1 : w.heap.size + 1 ≤ w2.heap.size := Nat.le_of_lt z2_1
  have c2_1 := fun o => hb2.cell (p := ⟨w.heap.size + 1, o, none⟩) (by first | omega | (simp <;> omega))
  have f2_1 := fun o => hb2.frozen (p := ⟨w.heap.size + 1, o, none⟩) (by first | omega | (simp <;> omega))
  rw [HF.out]
  go_wp2_with fail
  exact bodyPost_ret (v := .tuple #[.agg #[.int .i64 0, .int .i64 0, .slice none 0 0], .int .i64 10]) (by simp only [results, Try.results21]; go_simp) rfl ⟨rfl, (by repeat (first | with_reducible exact Below.refl _ _ | with_reducible assumption | ((with_reducible refine Below.setCell ?_ ?_ _); rotate_left; · (first | omega | exact Nat.le_refl _ | (simp <;> omega))) | (with_reducible refine Below.allocW ?_ _) | (with_reducible refine Below.drew ?_) | (with_reducible refine Below.extW ?_ _)))⟩
theorem ref13_Load_13 (w : World) (l k K : Int) (A : Option Addr) (cap : Nat) (r : List Nd) (hd : isDig l k K = true) (hr : rightOf l r = true) (h8 : 8 * k < r.length) (hS : Sl w w.heap.size encN A r) (hI : ints r) (hn : r.length < 67108864) : Calls Try.prog 21 #[.agg #[.int .i64 l, .int .i64 k, .int .i64 K], .slice A r.length cap] w fun e w' => e = .returned (.tuple #[refDig 0 0 none 0 0, .int .i64 13]) ∧ Below w.heap.size w w' := by
  have HD := Lib.hid hd
  have HR := Lib.hid (ref6_Right · l A cap r · hI (by unfold maxLen; omega))
  have HF := Lib.hid hr
  have HS := Lib.hid hS
  simp only [isDig, Bool.and_eq_true, decide_eq_true_eq] at hd
  obtain ⟨_, hk1, hk2⟩ := hd
  clear hr hS
  unfold refDig
  go_enter Try.func21, Try.ntmps21
  go_wp2_with fail
  refine (ref13_Is _ l k K).mono ?_
  rintro e w1 ⟨rfl, hb1⟩
  have B1 : Below w.heap.size w w1 := Below.then_ (by repeat (first | with_reducible exact Below.refl _ _ | with_reducible assumption | ((with_reducible refine Below.setCell ?_ ?_ _); rotate_left; · (first | omega | exact Nat.le_refl _ | (simp <;> omega))) | (with_reducible refine Below.allocW ?_ _) | (with_reducible refine Below.drew ?_) | (with_reducible refine Below.extW ?_ _))) hb1
  have s1 : w.heap.size ≤ w1.heap.size := B1.size
  have z1_0 : w.heap.size < w1.heap.size := by have := hb1.size; (try simp at this); omega
  have y1_0 : w.heap.size ≤ w1.heap.size := Nat.le_of_lt z1_0
  have c1_0 := fun o => hb1.cell (p := ⟨w.heap.size, o, none⟩) (by first | omega | (simp <;> omega))
  have f1_0 := fun o => hb1.frozen (p := ⟨w.heap.size, o, none⟩) (by first | omega | (simp <;> omega))
  have z1_1 : w.heap.size + 1 < w1.heap.size := by have := hb1.size; (try simp at this); omega
  have y1_1 : w.heap.size + 1 ≤ w1.heap.size := Nat.le_of_lt z1_1
  have c1_1 := fun o => hb1.cell (p := ⟨w.heap.size + 1, o, none⟩) (by first | omega | (simp <;> omega))
  have f1_1 := fun o => hb1.frozen (p := ⟨w.heap.size + 1, o, none⟩) (by first | omega | (simp <;> omega))
  rw [HD.out]
  go_wp2_with fail
  refine (HR.out _ (HS.out.keep s1 fun p hp => B1.cell hp)).mono ?_
  rintro e w2 ⟨rfl, hb2⟩
  have B2 : Below w.heap.size w w2 := Below.then_ (by repeat (first | with_reducible exact Below.refl _ _ | with_reducible assumption | ((with_reducible refine Below.setCell ?_ ?_ _); rotate_left; · (first | omega | exact Nat.le_refl _ | (simp <;> omega))) | (with_reducible refine Below.allocW ?_ _) | (with_reducible refine Below.drew ?_) | (with_reducible refine Below.extW ?_ _))) hb2
  have s2 : w.heap.size ≤ w2.heap.size := B2.size
  have z2_0 : w.heap.size < w2.heap.size := by have := hb2.size; (try simp at this); omega
  have y2_0 : w.heap.size ≤ w2.heap.size := Nat.le_of_lt z2_0
  have c2_0 := fun o => hb2.cell (p := ⟨w.heap.size, o, none⟩) (by first | omega | (simp <;> omega))
  have f2_0 := fun o => hb2.frozen (p := ⟨w.heap.size, o, none⟩) (by first | omega | (simp <;> omega))
  have z2_1 : w.heap.size + 1 < w2.heap.size := by have := hb2.size; (try simp at this); omega
  have y2_1 : w.heap.size + 1 ≤ w2.heap.size := Nat.le_of_lt z2_1
  have c2_1 := fun o => hb2.cell (p := ⟨w.heap.size + 1, o, none⟩) (by first | omega | (simp <;> omega))
  have f2_1 := fun o => hb2.frozen (p := ⟨w.heap.size + 1, o, none⟩) (by first | omega | (simp <;> omega))
  rw [HF.out]
  go_wp2_with fail
  refine (ref13_New _ l k K).mono ?_
  rintro e w3 ⟨rfl, hb3⟩
  have B3 : Below w.heap.size w w3 := Below.then_ (by repeat (first | with_reducible exact Below.refl _ _ | with_reducible assumption | ((with_reducible refine Below.setCell ?_ ?_ _); rotate_left; · (first | omega | exact Nat.le_refl _ | (simp <;> omega))) | (with_reducible refine Below.allocW ?_ _) | (with_reducible refine Below.drew ?_) | (with_reducible refine Below.extW ?_ _))) hb3
  have s3 : w.heap.size ≤ w3.heap.size := B3.size
  have z3_0 : w.heap.size < w3.heap.size := by have := hb3.size; (try simp at this); omega
  have y3_0 : w.heap.size ≤ w3.heap.size := Nat.le_of_lt z3_0
  have c3_0 := fun o => hb3.cell (p := ⟨w.heap.size, o, none⟩) (by first | omega | (simp <;> omega))
  have f3_0 := fun o => hb3.frozen (p := ⟨w.heap.size, o, none⟩) (by first | omega | (simp <;> omega))
  have z3_1 : w.heap.size + 1 < w3.heap.size := by have := hb3.size; (try simp at this); omega
  have y3_1 : w.heap.size + 1 ≤ w3.heap.size := Nat.le_of_lt z3_1
  have c3_1 := fun o => hb3.cell (p := ⟨w.heap.size + 1, o, none⟩) (by first | omega | (simp <;> omega))
  have f3_1 := fun o => hb3.frozen (p := ⟨w.heap.size + 1, o, none⟩) (by first | omega | (simp <;> omega))
  go_wp2_with fail
  exact bodyPost_ret (v := .tuple #[.agg #[.int .i64 0, .int .i64 0, .slice none 0 0], .int .i64 13]) (by simp only [results, Try.results21]; go_simp) rfl ⟨rfl, (by repeat (first | with_reducible exact Below.refl _ _ | with_reducible assumption | ((with_reducible refine Below.setCell ?_ ?_ _); rotate_left; · (first | omega | exact Nat.le_refl _ | (simp <;> omega))) | (with_reducible refine Below.allocW ?_ _) | (with_reducible refine Below.drew ?_) | (with_reducible refine Below.extW ?_ _)))⟩
theorem ref13_Load_l (w : World) (l : Nat) (k K : Int) (A : Option Addr) (cap : Nat) (r : List Nd) (hd : isDig l k K = true) (hr : rightOf l r = true) (h8 : ¬ 8 * k < r.length) (hS : Sl w w.heap.size encN A r) (hI : ints r) (hn : r.length < 67108864) : Calls Try.prog 21 #[.agg #[.int .i64 l, .int .i64 k, .int .i64 K], .slice A r.length cap] w fun e w' => e = .returned (.tuple #[if lightOf l r k = true then refDig k l A r.length cap else refDig 0 0 none 0 0, .int .i64 (if lightOf l r k = true then 0 else 13)]) ∧ Below w.heap.size w w' := by
  have hf := right_fits hr
  have hs0 := sumR_nonneg hf.1.roll
  have hs1 := hf.1.sum
  have HD := Lib.hid hd
  have HR := Lib.hid (ref6_Right · l A cap r · hI (by unfold maxLen; omega))
  have HF := Lib.hid hr
  have HS := Lib.hid hS
  simp only [isDig, Bool.and_eq_true, decide_eq_true_eq] at hd
  obtain ⟨_, hk1, hk2⟩ := hd
  have HL := Lib.hid (ref12_Light · l k A cap r · hI (by unfold maxLen; omega) hf.2 hs0 hs1 hk1 hk2)
  clear hr hS hf hs0 hs1
  unfold refDig
  cases hl : lightOf l r k
  · rw [hl] at HL
    rw [if_neg (by simp), if_neg (by simp)]
    clear hl
    go_enter Try.func21, Try.ntmps21
    go_wp2_with fail
    refine (ref13_Is _ l k K).mono ?_
    rintro e w1 ⟨rfl, hb1⟩
    have B1 : Below w.heap.size w w1 := Below.then_ (by repeat (first | with_reducible exact Below.refl _ _ | with_reducible assumption | ((with_reducible refine Below.setCell ?_ ?_ _); rotate_left; · (first | omega | exact Nat.le_refl _ | (simp <;> omega))) | (with_reducible refine Below.allocW ?_ _) | (with_reducible refine Below.drew ?_) | (with_reducible refine Below.extW ?_ _))) hb1
    have s1 : w.heap.size ≤ w1.heap.size := B1.size
    have z1_0 : w.heap.size < w1.heap.size := by have := hb1.size; (try simp at this); omega
    have y1_0 : w.heap.size ≤ w1.heap.size := Nat.le_of_lt z1_0
    have c1_0 := fun o => hb1.cell (p := ⟨w.heap.size, o, none⟩) (by first | omega | (simp <;> omega))
    have f1_0 := fun o => hb1.frozen (p := ⟨w.heap.size, o, none⟩) (by first | omega | (simp <;> omega))
    have z1_1 : w.heap.size + 1 < w1.heap.size := by have := hb1.size; (try simp at this); omega
    have y1_1 : w.heap.size + 1 ≤ w1.heap.size := Nat.le_of_lt z1_1
    have c1_1 := fun o => hb1.cell (p := ⟨w.heap.size + 1, o, none⟩) (by first | omega | (simp <;> omega))
    have f1_1 := fun o => hb1.frozen (p := ⟨w.heap.size + 1, o, none⟩) (by first | omega | (simp <;> omega))
    rw [HD.out]
    go_wp2_with fail
    refine (HR.out _ (HS.out.keep s1 fun p hp => B1.cell hp)).mono ?_
    rintro e w2 ⟨rfl, hb2⟩
    have B2 : Below w.heap.size w w2 := Below.then_ (by repeat (first | with_reducible exact Below.refl _ _ | with_reducible assumption | ((with_reducible refine Below.setCell ?_ ?_ _); rotate_left; · (first | omega | exact Nat.le_refl _ | (simp <;> omega))) | (with_reducible refine Below.allocW ?_ _) | (with_reducible refine Below.drew ?_) | (with_reducible refine Below.extW ?_ _))) hb2
    have s2 : w.heap.size ≤ w2.heap.size := B2.size
    have z2_0 : w.heap.size < w2.heap.size := by have := hb2.size; (try simp at this); omega
    have y2_0 : w.heap.size ≤ w2.heap.size := Nat.le_of_lt z2_0
    have c2_0 := fun o => hb2.cell (p := ⟨w.heap.size, o, none⟩) (by first | omega | (simp <;> omega))
    have f2_0 := fun o => hb2.frozen (p := ⟨w.heap.size, o, none⟩) (by first | omega | (simp <;> omega))
    have z2_1 : w.heap.size + 1 < w2.heap.size := by have := hb2.size; (try simp at this); omega
    have y2_1 : w.heap.size + 1 ≤ w2.heap.size := Nat.le_of_lt z2_1
    have c2_1 := fun o => hb2.cell (p := ⟨w.heap.size + 1, o, none⟩) (by first | omega | (simp <;> omega))
    have f2_1 := fun o => hb2.frozen (p := ⟨w.heap.size + 1, o, none⟩) (by first | omega | (simp <;> omega))
    rw [HF.out]
    go_wp2_with fail
    refine (ref13_New _ l k K).mono ?_
    rintro e w3 ⟨rfl, hb3⟩
    have B3 : Below w.heap.size w w3 := Below.then_ (by repeat (first | with_reducible exact Below.refl _ _ | with_reducible assumption | ((with_reducible refine Below.setCell ?_ ?_ _); rotate_left; · (first | omega | exact Nat.le_refl _ | (simp <;> omega))) | (with_reducible refine Below.allocW ?_ _) | (with_reducible refine Below.drew ?_) | (with_reducible refine Below.extW ?_ _))) hb3
    have s3 : w.heap.size ≤ w3.heap.size := B3.size
    have z3_0 : w.heap.size < w3.heap.size := by have := hb3.size; (try simp at this); omega
    have y3_0 : w.heap.size ≤ w3.heap.size := Nat.le_of_lt z3_0
    have c3_0 := fun o => hb3.cell (p := ⟨w.heap.size, o, none⟩) (by first | omega | (simp <;> omega))
    have f3_0 := fun o => hb3.frozen (p := ⟨w.heap.size, o, none⟩) (by first | omega | (simp <;> omega))
    have z3_1 : w.heap.size + 1 < w3.heap.size := by have := hb3.size; (try simp at this); omega
    have y3_1 : w.heap.size + 1 ≤ w3.heap.size := Nat.le_of_lt z3_1
    have c3_1 := fun o => hb3.cell (p := ⟨w.heap.size + 1, o, none⟩) (by first | omega | (simp <;> omega))
    have f3_1 := fun o => hb3.frozen (p := ⟨w.heap.size + 1, o, none⟩) (by first | omega | (simp <;> omega))
    go_wp2_with fail
    refine (HL.out _ (HS.out.keep (by simp; omega) fun p hp => Go.RowKit.Below.cell (B := w.heap.size) (w := w) (by repeat (first | with_reducible exact Below.refl _ _ | with_reducible assumption | ((with_reducible refine Below.setCell ?_ ?_ _); rotate_left; · (first | omega | exact Nat.le_refl _ | (simp <;> omega))) | (with_reducible refine Below.allocW ?_ _) | (with_reducible refine Below.drew ?_) | (with_reducible refine Below.extW ?_ _))) hp)).mono ?_
    rintro e w4 ⟨rfl, hb4⟩
    have B4 : Below w.heap.size w w4 := Below.then_ (by repeat (first | with_reducible exact Below.refl _ _ | with_reducible assumption | ((with_reducible refine Below.setCell ?_ ?_ _); rotate_left; · (first | omega | exact Nat.le_refl _ | (simp <;> omega))) | (with_reducible refine Below.allocW ?_ _) | (with_reducible refine Below.drew ?_) | (with_reducible refine Below.extW ?_ _))) hb4
    have s4 : w.heap.size ≤ w4.heap.size := B4.size
    have z4_0 : w.heap.size < w4.heap.size := by have := hb4.size; (try simp at this); omega
    have y4_0 : w.heap.size ≤ w4.heap.size := Nat.le_of_lt z4_0
    have c4_0 := fun o => hb4.cell (p := ⟨w.heap.size, o, none⟩) (by first | omega | (simp <;> omega))
    have f4_0 := fun o => hb4.frozen (p := ⟨w.heap.size, o, none⟩) (by first | omega | (simp <;> omega))
    have z4_1 : w.heap.size + 1 < w4.heap.size := by have := hb4.size; (try simp at this); omega
    have y4_1 : w.heap.size + 1 ≤ w4.heap.size := Nat.le_of_lt z4_1
    have c4_1 := fun o => hb4.cell (p := ⟨w.heap.size + 1, o, none⟩) (by first | omega | (simp <;> omega))
    have f4_1 := fun o => hb4.frozen (p := ⟨w.heap.size + 1, o, none⟩) (by first | omega | (simp <;> omega))
    go_wp2_with fail
    exact bodyPost_ret (v := .tuple #[.agg #[.int .i64 0, .int .i64 0, .slice none 0 0], .int .i64 13]) (by simp only [results, Try.results21]; go_simp) rfl ⟨rfl, (by repeat (first | with_reducible exact Below.refl _ _ | with_reducible assumption | ((with_reducible refine Below.setCell ?_ ?_ _); rotate_left; · (first | omega | exact Nat.le_refl _ | (simp <;> omega))) | (with_reducible refine Below.allocW ?_ _) | (with_reducible refine Below.drew ?_) | (with_reducible refine Below.extW ?_ _)))⟩
  · rw [hl] at HL
    rw [if_pos rfl, if_pos rfl]
    clear hl
    go_enter Try.func21, Try.ntmps21
    go_wp2_with fail
    refine (ref13_Is _ l k K).mono ?_
    rintro e w1 ⟨rfl, hb1⟩
    have B1 : Below w.heap.size w w1 := Below.then_ (by repeat (first | with_reducible exact Below.refl _ _ | with_reducible assumption | ((with_reducible refine Below.setCell ?_ ?_ _); rotate_left; · (first | omega | exact Nat.le_refl _ | (simp <;> omega))) | (with_reducible refine Below.allocW ?_ _) | (with_reducible refine Below.drew ?_) | (with_reducible refine Below.extW ?_ _))) hb1
    have s1 : w.heap.size ≤ w1.heap.size := B1.size
    have z1_0 : w.heap.size < w1.heap.size := by have := hb1.size; (try simp at this); omega
    have y1_0 : w.heap.size ≤ w1.heap.size := Nat.le_of_lt z1_0
    have c1_0 := fun o => hb1.cell (p := ⟨w.heap.size, o, none⟩) (by first | omega | (simp <;> omega))
    have f1_0 := fun o => hb1.frozen (p := ⟨w.heap.size, o, none⟩) (by first | omega | (simp <;> omega))
    have z1_1 : w.heap.size + 1 < w1.heap.size := by have := hb1.size; (try simp at this); omega
    have y1_1 : w.heap.size + 1 ≤ w1.heap.size := Nat.le_of_lt z1_1
    have c1_1 := fun o => hb1.cell (p := ⟨w.heap.size + 1, o, none⟩) (by first | omega | (simp <;> omega))
    have f1_1 := fun o => hb1.frozen (p := ⟨w.heap.size + 1, o, none⟩) (by first | omega | (simp <;> omega))
    rw [HD.out]
    go_wp2_with fail
    refine (HR.out _ (HS.out.keep s1 fun p hp => B1.cell hp)).mono ?_
    rintro e w2 ⟨rfl, hb2⟩
    have B2 : Below w.heap.size w w2 := Below.then_ (by repeat (first | with_reducible exact Below.refl _ _ | with_reducible assumption | ((with_reducible refine Below.setCell ?_ ?_ _); rotate_left; · (first | omega | exact Nat.le_refl _ | (simp <;> omega))) | (with_reducible refine Below.allocW ?_ _) | (with_reducible refine Below.drew ?_) | (with_reducible refine Below.extW ?_ _))) hb2
    have s2 : w.heap.size ≤ w2.heap.size := B2.size
    have z2_0 : w.heap.size < w2.heap.size := by have := hb2.size; (try simp at this); omega
    have y2_0 : w.heap.size ≤ w2.heap.size := Nat.le_of_lt z2_0
    have c2_0 := fun o => hb2.cell (p := ⟨w.heap.size, o, none⟩) (by first | omega | (simp <;> omega))
    have f2_0 := fun o => hb2.frozen (p := ⟨w.heap.size, o, none⟩) (by first | omega | (simp <;> omega))
    have z2_1 : w.heap.size + 1 < w2.heap.size := by have := hb2.size; (try simp at this); omega
    have y2_1 : w.heap.size + 1 ≤ w2.heap.size := Nat.le_of_lt z2_1
    have c2_1 := fun o => hb2.cell (p := ⟨w.heap.size + 1, o, none⟩) (by first | omega | (simp <;> omega))
    have f2_1 := fun o => hb2.frozen (p := ⟨w.heap.size + 1, o, none⟩) (by first | omega | (simp <;> omega))
    rw [HF.out]
    go_wp2_with fail
    refine (ref13_New _ l k K).mono ?_
    rintro e w3 ⟨rfl, hb3⟩
    have B3 : Below w.heap.size w w3 := Below.then_ (by repeat (first | with_reducible exact Below.refl _ _ | with_reducible assumption | ((with_reducible refine Below.setCell ?_ ?_ _); rotate_left; · (first | omega | exact Nat.le_refl _ | (simp <;> omega))) | (with_reducible refine Below.allocW ?_ _) | (with_reducible refine Below.drew ?_) | (with_reducible refine Below.extW ?_ _))) hb3
    have s3 : w.heap.size ≤ w3.heap.size := B3.size
    have z3_0 : w.heap.size < w3.heap.size := by have := hb3.size; (try simp at this); omega
    have y3_0 : w.heap.size ≤ w3.heap.size := Nat.le_of_lt z3_0
    have c3_0 := fun o => hb3.cell (p := ⟨w.heap.size, o, none⟩) (by first | omega | (simp <;> omega))
    have f3_0 := fun o => hb3.frozen (p := ⟨w.heap.size, o, none⟩) (by first | omega | (simp <;> omega))
    have z3_1 : w.heap.size + 1 < w3.heap.size := by have := hb3.size; (try simp at this); omega
    have y3_1 : w.heap.size + 1 ≤ w3.heap.size := Nat.le_of_lt z3_1
    have c3_1 := fun o => hb3.cell (p := ⟨w.heap.size + 1, o, none⟩) (by first | omega | (simp <;> omega))
    have f3_1 := fun o => hb3.frozen (p := ⟨w.heap.size + 1, o, none⟩) (by first | omega | (simp <;> omega))
    go_wp2_with fail
    refine (HL.out _ (HS.out.keep (by simp; omega) fun p hp => Go.RowKit.Below.cell (B := w.heap.size) (w := w) (by repeat (first | with_reducible exact Below.refl _ _ | with_reducible assumption | ((with_reducible refine Below.setCell ?_ ?_ _); rotate_left; · (first | omega | exact Nat.le_refl _ | (simp <;> omega))) | (with_reducible refine Below.allocW ?_ _) | (with_reducible refine Below.drew ?_) | (with_reducible refine Below.extW ?_ _))) hp)).mono ?_
    rintro e w4 ⟨rfl, hb4⟩
    have B4 : Below w.heap.size w w4 := Below.then_ (by repeat (first | with_reducible exact Below.refl _ _ | with_reducible assumption | ((with_reducible refine Below.setCell ?_ ?_ _); rotate_left; · (first | omega | exact Nat.le_refl _ | (simp <;> omega))) | (with_reducible refine Below.allocW ?_ _) | (with_reducible refine Below.drew ?_) | (with_reducible refine Below.extW ?_ _))) hb4
    have s4 : w.heap.size ≤ w4.heap.size := B4.size
    have z4_0 : w.heap.size < w4.heap.size := by have := hb4.size; (try simp at this); omega
    have y4_0 : w.heap.size ≤ w4.heap.size := Nat.le_of_lt z4_0
    have c4_0 := fun o => hb4.cell (p := ⟨w.heap.size, o, none⟩) (by first | omega | (simp <;> omega))
    have f4_0 := fun o => hb4.frozen (p := ⟨w.heap.size, o, none⟩) (by first | omega | (simp <;> omega))
    have z4_1 : w.heap.size + 1 < w4.heap.size := by have := hb4.size; (try simp at this); omega
    have y4_1 : w.heap.size + 1 ≤ w4.heap.size := Nat.le_of_lt z4_1
    have c4_1 := fun o => hb4.cell (p := ⟨w.heap.size + 1, o, none⟩) (by first | omega | (simp <;> omega))
    have f4_1 := fun o => hb4.frozen (p := ⟨w.heap.size + 1, o, none⟩) (by first | omega | (simp <;> omega))
    have z4_2 : w3.heap.size < w4.heap.size := by have := hb4.size; (try simp at this); omega
    have y4_2 : w3.heap.size ≤ w4.heap.size := Nat.le_of_lt z4_2
    have c4_2 := fun o => hb4.cell (p := ⟨w3.heap.size, o, none⟩) (by first | omega | (simp <;> omega))
    have f4_2 := fun o => hb4.frozen (p := ⟨w3.heap.size, o, none⟩) (by first | omega | (simp <;> omega))
    go_wp2_with fail
    exact bodyPost_ret (v := .tuple #[.agg #[.int .i64 k, .int .i64 l, .slice A r.length cap], .int .i64 0]) (by simp only [results, Try.results21]; go_simp) rfl ⟨rfl, (by repeat (first | with_reducible exact Below.refl _ _ | with_reducible assumption | ((with_reducible refine Below.setCell ?_ ?_ _); rotate_left; · (first | omega | exact Nat.le_refl _ | (simp <;> omega))) | (with_reducible refine Below.allocW ?_ _) | (with_reducible refine Below.drew ?_) | (with_reducible refine Below.extW ?_ _)))⟩
end Go.Proofs.Ytalnhdfgjjhhbaa
