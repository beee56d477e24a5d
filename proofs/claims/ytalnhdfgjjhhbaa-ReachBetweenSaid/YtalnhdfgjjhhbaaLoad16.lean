/- Chapter 16: a digest out of a conf and nodes; the chapter's example. -/
import Derived.Test.YtalnhdfgjjhhbaaOpen
namespace Go.Proofs.Ytalnhdfgjjhhbaa
open Go.ChangeShapes Go.WideShapes Go.ChangeAt Go.RowKit
set_option linter.unusedVariables false
set_option maxRecDepth 100000

theorem DigAt.set {w : World} {g K l : Nat} {k : Int} {r : List Nd} {F : Nat → Prop} {q o : Nat} {u : Value} (h : DigAt w g K l k r F) (hp : ∀ b, F b → b ≠ q) : DigAt (w.setCell ⟨q, o, none⟩ u) g K l k r F := h.keep fun b hb => Below.heap_setCell _ _ _ _ (hp b hb)
theorem DigAt.alloc {w : World} {g K l : Nat} {k : Int} {r : List Nd} {F : Nat → Prop} (h : DigAt w g K l k r F) (o : Obj) : DigAt (w.alloc o) g K l k r F := h.below ((Below.refl _ _).alloc (Nat.le_refl _) o)
theorem DigAt.drew {w : World} {g K l : Nat} {k : Int} {r : List Nd} {F : Nat → Prop} (h : DigAt w g K l k r F) : DigAt w.drew g K l k r F := h.keep fun b hb => rfl
/-- There is such a digest, and it isn't too big. -/
def goodL (l k K : Int) (r : List Nd) : Prop := r.length ≤ 150 ∧ ¬ (K = 1 ∧ 10 < l) ∧ loadErr l k K r = 0
theorem goodL_dig {l k K : Int} {r : List Nd} (h : loadErr l k K r = 0) : isDig l k K = true := by
  cases hd : isDig l k K
  · simp only [loadErr] at h; rw [if_pos hd] at h; cases h
  · rfl
theorem goodL_nat {l k K : Int} {r : List Nd} (h : loadErr l k K r = 0) : ∃ n m : Nat, l = n ∧ K = m := by
  have hd := goodL_dig h
  simp only [isDig, isPool, Bool.and_eq_true, decide_eq_true_eq] at hd
  obtain ⟨n, rfl⟩ := Int.eq_ofNat_of_zero_le (show 0 ≤ l by omega)
  obtain ⟨m, rfl⟩ := Int.eq_ofNat_of_zero_le (show 0 ≤ K by omega)
  exact ⟨n, m, rfl, rfl⟩
theorem goodL_parts {l k K : Int} {r : List Nd} (h : loadErr l k K r = 0) : rightOf l r = true ∧ ¬ 8 * k < r.length ∧ lightOf l r k = true := by
  have hd := goodL_dig h
  have hr : rightOf l r = true := by
    cases hr : rightOf l r
    · simp only [loadErr] at h; rw [if_neg (by simp [hd]), if_pos hr] at h; cases h
    · rfl
  have h8 : ¬ 8 * k < r.length := by
    intro h8
    simp only [loadErr] at h
    rw [if_neg (by simp [hd]), if_neg (by simp [hr]), if_pos h8] at h
    cases h
  refine ⟨hr, h8, ?_⟩
  cases hl : lightOf l r k
  · simp only [loadErr] at h; rw [if_neg (by simp [hd]), if_neg (by simp [hr]), if_neg h8, if_pos hl] at h; cases h
  · rfl
theorem law16_Load_no (w : World) (l k K : Int) (A : Option Addr) (cap : Nat) (r : List Nd) (h : ¬ goodL l k K r) (hS : Sl w w.heap.size encN A r) (hI : ints r) (hm : r.length ≤ maxLen) :
    Calls Try.prog 6 #[loadedV l k K A r.length cap] w fun e w' => e = .returned (.tuple #[.pointer none, refDig 0 0 none 0 0]) ∧ Below w.heap.size w w' := by
  unfold loadedV refDig
  unfold maxLen at hm
  by_cases h1 : 150 < r.length
  · have h1' : (150 : Int) < (r.length : Int) := by omega
    clear h hS
    go_enter Try.func6, Try.ntmps6
    go_wp2_with fail
    exact bodyPost_ret (v := .tuple #[.pointer none, .agg #[.int .i64 0, .int .i64 0, .slice none 0 0]]) (by simp only [results, Try.results6]; go_simp) rfl ⟨rfl, (by repeat (first | with_reducible exact Below.refl _ _ | with_reducible assumption | ((with_reducible refine Below.setCell ?_ ?_ _); rotate_left; · (first | omega | exact Nat.le_refl _ | (simp <;> omega))) | (with_reducible refine Below.allocW ?_ _) | (with_reducible refine Below.drew ?_) | (with_reducible refine Below.extW ?_ _)))⟩
  · have h1' : ¬ (150 : Int) < (r.length : Int) := by omega
    by_cases h2 : K = 1 ∧ 10 < l
    · obtain ⟨rfl, h2⟩ := h2
      clear h hS
      go_enter Try.func6, Try.ntmps6
      go_wp2_with fail
      exact bodyPost_ret (v := .tuple #[.pointer none, .agg #[.int .i64 0, .int .i64 0, .slice none 0 0]]) (by simp only [results, Try.results6]; go_simp) rfl ⟨rfl, (by repeat (first | with_reducible exact Below.refl _ _ | with_reducible assumption | ((with_reducible refine Below.setCell ?_ ?_ _); rotate_left; · (first | omega | exact Nat.le_refl _ | (simp <;> omega))) | (with_reducible refine Below.allocW ?_ _) | (with_reducible refine Below.drew ?_) | (with_reducible refine Below.extW ?_ _)))⟩
    · have he : loadErr l k K r ≠ 0 := fun he => h ⟨by omega, h2, he⟩
      have HC := Lib.hid (digest_Load_no · l k K A cap r he · hI (by omega))
      have HS := Lib.hid hS
      have he' : (loadErr l k K r == 0) = false := by simpa using he
      generalize loadErr l k K r = er at HC he he'
      clear h hS hI
      by_cases h3 : K = 1
      · subst h3
        have h4 : ¬ 10 < l := fun h4 => h2 ⟨rfl, h4⟩
        clear h2
        go_enter Try.func6, Try.ntmps6
        go_wp2_with fail
        refine (HC.out _ (HS.out.keep (by simp; omega) fun p hp => Go.RowKit.Below.cell (B := w.heap.size) (w := w) (by repeat (first | with_reducible exact Below.refl _ _ | with_reducible assumption | ((with_reducible refine Below.setCell ?_ ?_ _); rotate_left; · (first | omega | exact Nat.le_refl _ | (simp <;> omega))) | (with_reducible refine Below.allocW ?_ _) | (with_reducible refine Below.drew ?_) | (with_reducible refine Below.extW ?_ _))) hp)).mono ?_
        rintro e w1 ⟨rfl, hb1⟩
        have B1 : Below w.heap.size w w1 := Below.then_ (by repeat (first | with_reducible exact Below.refl _ _ | with_reducible assumption | ((with_reducible refine Below.setCell ?_ ?_ _); rotate_left; · (first | omega | exact Nat.le_refl _ | (simp <;> omega))) | (with_reducible refine Below.allocW ?_ _) | (with_reducible refine Below.drew ?_) | (with_reducible refine Below.extW ?_ _))) hb1
        have s1 : w.heap.size ≤ w1.heap.size := B1.size
        have z1_0 : w.heap.size < w1.heap.size := by have := hb1.size; (try simp at this); omega
        have y1_0 : w.heap.size ≤ w1.heap.size := Nat.le_of_lt z1_0
        have c1_0 := fun o => hb1.cell (p := ⟨w.heap.size, o, none⟩) (by first | omega | (simp <;> omega))
        have f1_0 := fun o => hb1.frozen (p := ⟨w.heap.size, o, none⟩) (by first | omega | (simp <;> omega))
        have z1_1 : w.heap.size + 1 < w1.heap.size := by have := hb1.size; (try simp at this); omega
        have y1_1 : w.heap.size + 1 ≤ w1.heap.size := Nat.le_of_lt z1_1
        have c1_1 := fun o => hb1.cell (p := ⟨w.heap.size + 1, o, none⟩) (by first | omega | (simp <;> omega))
        have f1_1 := fun o => hb1.frozen (p := ⟨w.heap.size + 1, o, none⟩) (by first | omega | (simp <;> omega))
        go_wp2_with fail
        exact bodyPost_ret (v := .tuple #[.pointer none, .agg #[.int .i64 0, .int .i64 0, .slice none 0 0]]) (by simp only [results, Try.results6]; go_simp) rfl ⟨rfl, (by repeat (first | with_reducible exact Below.refl _ _ | with_reducible assumption | ((with_reducible refine Below.setCell ?_ ?_ _); rotate_left; · (first | omega | exact Nat.le_refl _ | (simp <;> omega))) | (with_reducible refine Below.allocW ?_ _) | (with_reducible refine Below.drew ?_) | (with_reducible refine Below.extW ?_ _)))⟩
      · have h4 : (K == 1) = false := by simpa using h3
        clear h2
        go_enter Try.func6, Try.ntmps6
        go_wp2_with fail
        refine (HC.out _ (HS.out.keep (by simp; omega) fun p hp => Go.RowKit.Below.cell (B := w.heap.size) (w := w) (by repeat (first | with_reducible exact Below.refl _ _ | with_reducible assumption | ((with_reducible refine Below.setCell ?_ ?_ _); rotate_left; · (first | omega | exact Nat.le_refl _ | (simp <;> omega))) | (with_reducible refine Below.allocW ?_ _) | (with_reducible refine Below.drew ?_) | (with_reducible refine Below.extW ?_ _))) hp)).mono ?_
        rintro e w1 ⟨rfl, hb1⟩
        have B1 : Below w.heap.size w w1 := Below.then_ (by repeat (first | with_reducible exact Below.refl _ _ | with_reducible assumption | ((with_reducible refine Below.setCell ?_ ?_ _); rotate_left; · (first | omega | exact Nat.le_refl _ | (simp <;> omega))) | (with_reducible refine Below.allocW ?_ _) | (with_reducible refine Below.drew ?_) | (with_reducible refine Below.extW ?_ _))) hb1
        have s1 : w.heap.size ≤ w1.heap.size := B1.size
        have z1_0 : w.heap.size < w1.heap.size := by have := hb1.size; (try simp at this); omega
        have y1_0 : w.heap.size ≤ w1.heap.size := Nat.le_of_lt z1_0
        have c1_0 := fun o => hb1.cell (p := ⟨w.heap.size, o, none⟩) (by first | omega | (simp <;> omega))
        have f1_0 := fun o => hb1.frozen (p := ⟨w.heap.size, o, none⟩) (by first | omega | (simp <;> omega))
        have z1_1 : w.heap.size + 1 < w1.heap.size := by have := hb1.size; (try simp at this); omega
        have y1_1 : w.heap.size + 1 ≤ w1.heap.size := Nat.le_of_lt z1_1
        have c1_1 := fun o => hb1.cell (p := ⟨w.heap.size + 1, o, none⟩) (by first | omega | (simp <;> omega))
        have f1_1 := fun o => hb1.frozen (p := ⟨w.heap.size + 1, o, none⟩) (by first | omega | (simp <;> omega))
        go_wp2_with fail
        exact bodyPost_ret (v := .tuple #[.pointer none, .agg #[.int .i64 0, .int .i64 0, .slice none 0 0]]) (by simp only [results, Try.results6]; go_simp) rfl ⟨rfl, (by repeat (first | with_reducible exact Below.refl _ _ | with_reducible assumption | ((with_reducible refine Below.setCell ?_ ?_ _); rotate_left; · (first | omega | exact Nat.le_refl _ | (simp <;> omega))) | (with_reducible refine Below.allocW ?_ _) | (with_reducible refine Below.drew ?_) | (with_reducible refine Below.extW ?_ _)))⟩
/-- What Load hands back. -/
def LPost (K l : Nat) (k : Int) (r : List Nd) (d : Value) (w : World) (e : Ending) (w' : World) : Prop := ∃ g F, e = .returned (.tuple #[.pointer (some ⟨g, 0, none⟩), d]) ∧ DigAt w' g K l k r F ∧ (∀ b, F b → w.heap.size ≤ b) ∧ Below w.heap.size w w'
set_option maxHeartbeats 2000000 in
theorem law16_Load (w : World) (l K : Nat) (k : Int) (A : Option Addr) (cap : Nat) (r : List Nd) (h : goodL l k K r) (hS : Sl w w.heap.size encN A r) (hI : ints r) :
    Calls Try.prog 6 #[loadedV l k K A r.length cap] w (LPost K l k r (refDig k l A r.length cap) w) := by
  unfold loadedV refDig
  obtain ⟨h1, h2, h3⟩ := h
  have h1' : ¬ (150 : Int) < (r.length : Int) := by omega
  have HC := Lib.hid (digest_Load · l K k A cap r h3 · hI (by omega))
  have HS := Lib.hid hS
  have hp := goodL_parts h3
  have HR : Hid (∀ W, Sl W W.heap.size encN A r → Calls Try.prog 21 #[.agg #[.int .i64 l, .int .i64 k, .int .i64 K], .slice A r.length cap] W fun e w' => e = .returned (.tuple #[.agg #[.int .i64 k, .int .i64 l, .slice A r.length cap], .int .i64 0]) ∧ Below W.heap.size W w') := Lib.hid fun W hW => by
    have := ref13_Load_l W l k K A cap r (goodL_dig h3) hp.1 hp.2.1 hW hI (by omega)
    rw [hp.2.2] at this
    exact this
  clear hS hI h3 hp
  by_cases h3 : K = 1
  · subst h3
    have h4 : ¬ (10 : Int) < (l : Int) := fun h4 => h2 ⟨rfl, h4⟩
    clear h2
    go_enter Try.func6, Try.ntmps6
    go_wp2_with fail
    refine (HC.out _ (HS.out.keep (by simp; omega) fun p hp => Go.RowKit.Below.cell (B := w.heap.size) (w := w) (by repeat (first | with_reducible exact Below.refl _ _ | with_reducible assumption | ((with_reducible refine Below.setCell ?_ ?_ _); rotate_left; · (first | omega | exact Nat.le_refl _ | (simp <;> omega))) | (with_reducible refine Below.allocW ?_ _) | (with_reducible refine Below.drew ?_) | (with_reducible refine Below.extW ?_ _))) hp)).mono ?_
    rintro e w1 ⟨g, F, rfl, hD, hF, hb1⟩
    have B1 : Below w.heap.size w w1 := Below.then_ (by repeat (first | with_reducible exact Below.refl _ _ | with_reducible assumption | ((with_reducible refine Below.setCell ?_ ?_ _); rotate_left; · (first | omega | exact Nat.le_refl _ | (simp <;> omega))) | (with_reducible refine Below.allocW ?_ _) | (with_reducible refine Below.drew ?_) | (with_reducible refine Below.extW ?_ _))) hb1
    have s1 : w.heap.size ≤ w1.heap.size := B1.size
    have z1_0 : w.heap.size < w1.heap.size := by have := hb1.size; (try simp at this); omega
    have y1_0 : w.heap.size ≤ w1.heap.size := Nat.le_of_lt z1_0
    have c1_0 := fun o => hb1.cell (p := ⟨w.heap.size, o, none⟩) (by first | omega | (simp <;> omega))
    have f1_0 := fun o => hb1.frozen (p := ⟨w.heap.size, o, none⟩) (by first | omega | (simp <;> omega))
    have z1_1 : w.heap.size + 1 < w1.heap.size := by have := hb1.size; (try simp at this); omega
    have y1_1 : w.heap.size + 1 ≤ w1.heap.size := Nat.le_of_lt z1_1
    have c1_1 := fun o => hb1.cell (p := ⟨w.heap.size + 1, o, none⟩) (by first | omega | (simp <;> omega))
    have f1_1 := fun o => hb1.frozen (p := ⟨w.heap.size + 1, o, none⟩) (by first | omega | (simp <;> omega))
    have KD := Lib.hid hD
    simp only [World.size_alloc] at hF
    have KF := Lib.hid hF
    clear hD hF
    go_wp2_with fail
    refine (HR.out _ (HS.out.keep s1 fun p hp => B1.cell hp)).mono ?_
    rintro e w2 ⟨rfl, hb2⟩
    have B2 : Below w.heap.size w w2 := Below.then_ (by repeat (first | with_reducible exact Below.refl _ _ | with_reducible assumption | ((with_reducible refine Below.setCell ?_ ?_ _); rotate_left; · (first | omega | exact Nat.le_refl _ | (simp <;> omega))) | (with_reducible refine Below.allocW ?_ _) | (with_reducible refine Below.drew ?_) | (with_reducible refine Below.extW ?_ _))) hb2
    have s2 : w.heap.size ≤ w2.heap.size := B2.size
    have z2_0 : w.heap.size < w2.heap.size := by have := hb2.size; (try simp at this); omega
    have y2_0 : w.heap.size ≤ w2.heap.size := Nat.le_of_lt z2_0
    have c2_0 := fun o => hb2.cell (p := ⟨w.heap.size, o, none⟩) (by first | omega | (simp <;> omega))
    have f2_0 := fun o => hb2.frozen (p := ⟨w.heap.size, o, none⟩) (by first | omega | (simp <;> omega))
    have z2_1 : w.heap.size + 1 < w2.heap.size := by have := hb2.size; (try simp at this); omega
    have y2_1 : w.heap.size + 1 ≤ w2.heap.size := Nat.le_of_lt z2_1
    have c2_1 := fun o => hb2.cell (p := ⟨w.heap.size + 1, o, none⟩) (by first | omega | (simp <;> omega))
    have f2_1 := fun o => hb2.frozen (p := ⟨w.heap.size + 1, o, none⟩) (by first | omega | (simp <;> omega))
    have KD2 := Lib.hid (KD.out.below hb2)
    go_wp2_with fail
    go_region
    go_wp2_with fail
    refine bodyPost_ret (v := .tuple #[.pointer (some ⟨g, 0, none⟩), .agg #[.int .i64 k, .int .i64 l, .slice A r.length cap]]) (by simp only [results, Try.results6]; go_simp) rfl ⟨g, F, rfl, ?_, fun b hb => by have := KF.out b hb; omega, (by repeat (first | with_reducible exact Below.refl _ _ | with_reducible assumption | ((with_reducible refine Below.setCell ?_ ?_ _); rotate_left; · (first | omega | exact Nat.le_refl _ | (simp <;> omega))) | (with_reducible refine Below.allocW ?_ _) | (with_reducible refine Below.drew ?_) | (with_reducible refine Below.extW ?_ _)))⟩
    have hne : ∀ b, F b → b ≠ w.heap.size + 1 := fun b hb => by have := KF.out b hb; omega
    exact ((((KD2.out.set hne).set hne).set hne).alloc _).drew
  · have h4 : ((K : Int) == 1) = false := by simpa using (fun h => h3 (by omega))
    clear h2
    go_enter Try.func6, Try.ntmps6
    go_wp2_with fail
    refine (HC.out _ (HS.out.keep (by simp; omega) fun p hp => Go.RowKit.Below.cell (B := w.heap.size) (w := w) (by repeat (first | with_reducible exact Below.refl _ _ | with_reducible assumption | ((with_reducible refine Below.setCell ?_ ?_ _); rotate_left; · (first | omega | exact Nat.le_refl _ | (simp <;> omega))) | (with_reducible refine Below.allocW ?_ _) | (with_reducible refine Below.drew ?_) | (with_reducible refine Below.extW ?_ _))) hp)).mono ?_
    rintro e w1 ⟨g, F, rfl, hD, hF, hb1⟩
    have B1 : Below w.heap.size w w1 := Below.then_ (by repeat (first | with_reducible exact Below.refl _ _ | with_reducible assumption | ((with_reducible refine Below.setCell ?_ ?_ _); rotate_left; · (first | omega | exact Nat.le_refl _ | (simp <;> omega))) | (with_reducible refine Below.allocW ?_ _) | (with_reducible refine Below.drew ?_) | (with_reducible refine Below.extW ?_ _))) hb1
    have s1 : w.heap.size ≤ w1.heap.size := B1.size
    have z1_0 : w.heap.size < w1.heap.size := by have := hb1.size; (try simp at this); omega
    have y1_0 : w.heap.size ≤ w1.heap.size := Nat.le_of_lt z1_0
    have c1_0 := fun o => hb1.cell (p := ⟨w.heap.size, o, none⟩) (by first | omega | (simp <;> omega))
    have f1_0 := fun o => hb1.frozen (p := ⟨w.heap.size, o, none⟩) (by first | omega | (simp <;> omega))
    have z1_1 : w.heap.size + 1 < w1.heap.size := by have := hb1.size; (try simp at this); omega
    have y1_1 : w.heap.size + 1 ≤ w1.heap.size := Nat.le_of_lt z1_1
    have c1_1 := fun o => hb1.cell (p := ⟨w.heap.size + 1, o, none⟩) (by first | omega | (simp <;> omega))
    have f1_1 := fun o => hb1.frozen (p := ⟨w.heap.size + 1, o, none⟩) (by first | omega | (simp <;> omega))
    have KD := Lib.hid hD
    simp only [World.size_alloc] at hF
    have KF := Lib.hid hF
    clear hD hF
    go_wp2_with fail
    refine (HR.out _ (HS.out.keep s1 fun p hp => B1.cell hp)).mono ?_
    rintro e w2 ⟨rfl, hb2⟩
    have B2 : Below w.heap.size w w2 := Below.then_ (by repeat (first | with_reducible exact Below.refl _ _ | with_reducible assumption | ((with_reducible refine Below.setCell ?_ ?_ _); rotate_left; · (first | omega | exact Nat.le_refl _ | (simp <;> omega))) | (with_reducible refine Below.allocW ?_ _) | (with_reducible refine Below.drew ?_) | (with_reducible refine Below.extW ?_ _))) hb2
    have s2 : w.heap.size ≤ w2.heap.size := B2.size
    have z2_0 : w.heap.size < w2.heap.size := by have := hb2.size; (try simp at this); omega
    have y2_0 : w.heap.size ≤ w2.heap.size := Nat.le_of_lt z2_0
    have c2_0 := fun o => hb2.cell (p := ⟨w.heap.size, o, none⟩) (by first | omega | (simp <;> omega))
    have f2_0 := fun o => hb2.frozen (p := ⟨w.heap.size, o, none⟩) (by first | omega | (simp <;> omega))
    have z2_1 : w.heap.size + 1 < w2.heap.size := by have := hb2.size; (try simp at this); omega
    have y2_1 : w.heap.size + 1 ≤ w2.heap.size := Nat.le_of_lt z2_1
    have c2_1 := fun o => hb2.cell (p := ⟨w.heap.size + 1, o, none⟩) (by first | omega | (simp <;> omega))
    have f2_1 := fun o => hb2.frozen (p := ⟨w.heap.size + 1, o, none⟩) (by first | omega | (simp <;> omega))
    have KD2 := Lib.hid (KD.out.below hb2)
    go_wp2_with fail
    go_region
    go_wp2_with fail
    refine bodyPost_ret (v := .tuple #[.pointer (some ⟨g, 0, none⟩), .agg #[.int .i64 k, .int .i64 l, .slice A r.length cap]]) (by simp only [results, Try.results6]; go_simp) rfl ⟨g, F, rfl, ?_, fun b hb => by have := KF.out b hb; omega, (by repeat (first | with_reducible exact Below.refl _ _ | with_reducible assumption | ((with_reducible refine Below.setCell ?_ ?_ _); rotate_left; · (first | omega | exact Nat.le_refl _ | (simp <;> omega))) | (with_reducible refine Below.allocW ?_ _) | (with_reducible refine Below.drew ?_) | (with_reducible refine Below.extW ?_ _)))⟩
    have hne : ∀ b, F b → b ≠ w.heap.size + 1 := fun b hb => by have := KF.out b hb; omega
    exact ((((KD2.out.set hne).set hne).set hne).alloc _).drew

/-- The chapter's digest. -/
def nodes16 : List Nd := [(1, 1), (4, 2), (7, 3)]
theorem nodes16_ints : ints nodes16 := by
  intro x hx
  simp only [nodes16, List.mem_cons, List.not_mem_nil, or_false] at hx
  rcases hx with rfl | rfl | rfl <;> (unfold i64; simp)
theorem load16 : loadErr 2 4 2 nodes16 = 0 := by decide +kernel
theorem low16_0 : lowOf ((2 : Nat) : Int) nodes16 0 = 2 := by decide +kernel
theorem high16_0 : highOf ((2 : Nat) : Int) nodes16 0 = 3 := by decide +kernel
theorem low16_2 : lowOf ((2 : Nat) : Int) nodes16 2 = 2 := by decide +kernel
theorem low16_3 : lowOf ((2 : Nat) : Int) nodes16 3 = 6 := by decide +kernel
theorem alive16 (w : World) : Calls Try.prog 7 #[] w fun e w' => e = .returned (.bool true) ∧ Below w.heap.size w w' := by
  have HS := Lib.hid (sl_lit w encN nodes16 59 _ rfl)
  have HC := Lib.hid (digest_Load · 2 2 4 (some ⟨w.heap.size, 0, none⟩) 3 nodes16 load16 · nodes16_ints (by decide))
  go_enter Try.func7, Try.ntmps7
  go_wp2_with fail
  refine (HC.out _ (HS.out.keep (by simp) fun p hp => rfl)).mono ?_
  rintro e w1 ⟨g, F, rfl, hD, _, hb1⟩
  have B1 : Below w.heap.size w w1 := Below.then_ (by repeat (first | with_reducible exact Below.refl _ _ | with_reducible assumption | ((with_reducible refine Below.setCell ?_ ?_ _); rotate_left; · (first | omega | exact Nat.le_refl _ | (simp <;> omega))) | (with_reducible refine Below.allocW ?_ _) | (with_reducible refine Below.drew ?_) | (with_reducible refine Below.extW ?_ _))) hb1
  have s1 : w.heap.size ≤ w1.heap.size := B1.size
  have KD := Lib.hid hD
  clear hD
  go_wp2_with fail
  refine (rank_Low _ g 2 2 4 nodes16 F 0 KD.out (by decide)).mono ?_
  rintro e w2 ⟨rfl, hb2⟩
  have B2 : Below w.heap.size w w2 := Below.then_ (by repeat (first | with_reducible exact Below.refl _ _ | with_reducible assumption | ((with_reducible refine Below.setCell ?_ ?_ _); rotate_left; · (first | omega | exact Nat.le_refl _ | (simp <;> omega))) | (with_reducible refine Below.allocW ?_ _) | (with_reducible refine Below.drew ?_) | (with_reducible refine Below.extW ?_ _))) hb2
  have s2 : w.heap.size ≤ w2.heap.size := B2.size
  rw [low16_0]
  have KD2 := Lib.hid (KD.out.below hb2)
  go_wp2_with fail
  refine (rank_High _ g 2 2 4 nodes16 F 0 KD2.out (by decide)).mono ?_
  rintro e w3 ⟨rfl, hb3⟩
  have B3 : Below w.heap.size w w3 := Below.then_ (by repeat (first | with_reducible exact Below.refl _ _ | with_reducible assumption | ((with_reducible refine Below.setCell ?_ ?_ _); rotate_left; · (first | omega | exact Nat.le_refl _ | (simp <;> omega))) | (with_reducible refine Below.allocW ?_ _) | (with_reducible refine Below.drew ?_) | (with_reducible refine Below.extW ?_ _))) hb3
  have s3 : w.heap.size ≤ w3.heap.size := B3.size
  rw [high16_0]
  have KD3 := Lib.hid (KD2.out.below hb3)
  go_wp2_with fail
  refine (rank_Low _ g 2 2 4 nodes16 F 2 KD3.out (by decide)).mono ?_
  rintro e w4 ⟨rfl, hb4⟩
  have B4 : Below w.heap.size w w4 := Below.then_ (by repeat (first | with_reducible exact Below.refl _ _ | with_reducible assumption | ((with_reducible refine Below.setCell ?_ ?_ _); rotate_left; · (first | omega | exact Nat.le_refl _ | (simp <;> omega))) | (with_reducible refine Below.allocW ?_ _) | (with_reducible refine Below.drew ?_) | (with_reducible refine Below.extW ?_ _))) hb4
  have s4 : w.heap.size ≤ w4.heap.size := B4.size
  rw [low16_2]
  have KD4 := Lib.hid (KD3.out.below hb4)
  go_wp2_with fail
  refine (rank_Low _ g 2 2 4 nodes16 F 3 KD4.out (by decide)).mono ?_
  rintro e w5 ⟨rfl, hb5⟩
  have B5 : Below w.heap.size w w5 := Below.then_ (by repeat (first | with_reducible exact Below.refl _ _ | with_reducible assumption | ((with_reducible refine Below.setCell ?_ ?_ _); rotate_left; · (first | omega | exact Nat.le_refl _ | (simp <;> omega))) | (with_reducible refine Below.allocW ?_ _) | (with_reducible refine Below.drew ?_) | (with_reducible refine Below.extW ?_ _))) hb5
  have s5 : w.heap.size ≤ w5.heap.size := B5.size
  rw [low16_3]
  go_wp2_with fail
  go_ret
  exact ⟨rfl, (by repeat (first | with_reducible exact Below.refl _ _ | with_reducible assumption | ((with_reducible refine Below.setCell ?_ ?_ _); rotate_left; · (first | omega | exact Nat.le_refl _ | (simp <;> omega))) | (with_reducible refine Below.allocW ?_ _) | (with_reducible refine Below.drew ?_) | (with_reducible refine Below.extW ?_ _)))⟩
end Go.Proofs.Ytalnhdfgjjhhbaa
