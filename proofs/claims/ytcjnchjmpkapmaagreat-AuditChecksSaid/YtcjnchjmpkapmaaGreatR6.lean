/-
  Texts of this proof, one behind the other: Bag, BagPut, BagAdd, BagMake, Ref10, Ref10Put, Ref10Of, BagMade, RoomLaw, Alive16, RankRisesW, Tells.
-/
import Derived.Shelf.Spec.SlicesInsert
import Derived.Deep.RegionWith
import Derived.Test.YtcjnchjmpkapmaaGreatP1
import Derived.Test.YtcjnchjmpkapmaaGreatP2
import Derived.Test.YtcjnchjmpkapmaaGreatP3
import Derived.Test.YtcjnchjmpkapmaaGreatR4
import Derived.Test.YtcjnchjmpkapmaaGreatR5
/- Package bag: what is read of it. -/
set_option linter.unusedSimpArgs false namespace Go.Proofs.YtcjnchjmpkapmaaGreat
open Go.ChangeShapes Go.WideShapes Go.ChangeAt Go.RowKit
set_option linter.unusedVariables false
set_option linter.unusedSimpArgs false
set_option maxRecDepth 100000

theorem count_range {m : List Nd} {p : Int → Bool} : (List.range m.length).countP (fun i => !p (m.getD i (0, 0)).1) = m.countP fun z => !p z.1 := by
  have h : m = (List.range m.length).map fun i => m.getD i (0, 0) := by
    apply List.ext_getElem
    · simp
    · intro i h1 h2
      simp only [List.getElem_map, List.getElem_range]
      rw [getD_at h1]
  conv => rhs; rw [h, List.countP_map]
  rfl
theorem cut_count {p : Int → Bool} (hp : ∀ a b, a ≤ b → p a = true → p b = true) : ∀ {m : List Nd}, (m.Pairwise fun a b => a.1 < b.1) → CutAt m (fun v => p v = true) (m.countP fun z => !p z.1) := by
  intro m
  induction m with
  | nil => intro _; exact ⟨by simp, by simp, by simp⟩
  | cons z m ih =>
    intro hup
    obtain ⟨h1, h2⟩ := List.pairwise_cons.1 hup
    cases hz : p z.1
    · have k := ih h2
      rw [List.countP_cons_of_pos (by simp [hz])]
      refine ⟨by have := k.le; simp; omega, fun y hy => ?_, fun y hy => k.behind y (by simpa using hy)⟩
      rw [List.take_succ_cons] at hy
      rcases List.mem_cons.1 hy with rfl | hy
      · simp [hz]
      · exact k.ahead y hy
    · have e : (z :: m).countP (fun z => !p z.1) = 0 := by
        rw [List.countP_eq_zero]
        intro y hy
        rcases List.mem_cons.1 hy with rfl | hy
        · simp [hz]
        · simp [hp _ _ (Int.le_of_lt (h1 y hy)) hz]
      rw [e]
      refine ⟨by simp, by simp, fun y hy => ?_⟩
      rcases List.mem_cons.1 (by simpa using hy) with rfl | hy
      · exact hz
      · exact hp _ _ (Int.le_of_lt (h1 y hy)) hz
def BagS (w : World) (base g : Nat) (l s : Int) (m : List Nd) : Prop := ∃ v, w.heap[g]? = some (.cells #[.int .i64 l, .int .i64 s, v] 221 (0, 0)) ∧ base ≤ g ∧ Own w base 96 encN v m
abbrev BagAt (w : World) (base g : Nat) (l : Int) (m : List Nd) : Prop := BagS w base g l (sumR m) m
theorem BagS.below {w w' : World} {base g : Nat} {l s : Int} {m : List Nd} (h : BagS w base g l s m) (hb : Below w.heap.size w w') : BagS w' base g l s m := by
  obtain ⟨v, hh, hg, ho⟩ := h
  exact ⟨v, blk_below hh hb, hg, ho.below hb⟩
theorem BagS.mono {w : World} {base base' g : Nat} {l s : Int} {m : List Nd} (h : BagS w base g l s m) (hb : base' ≤ base) : BagS w base' g l s m := by
  obtain ⟨v, hh, hg, ho⟩ := h
  exact ⟨v, hh, Nat.le_trans hb hg, ho.imp id fun ⟨g, off, cap, cur, h1, h2, h3⟩ => ⟨g, off, cap, cur, h1, Nat.le_trans hb h2, h3⟩⟩
theorem bag_L (w : World) (base g : Nat) (l : Int) (m : List Nd) (h : BagAt w base g l m) : Calls Tryz.prog 229 #[.pointer (some ⟨g, 0, none⟩)] w fun e w' => e = .returned (.int .i64 l) ∧ Below w.heap.size w w' := by
  obtain ⟨v, hh, _⟩ := h
  have c := blk_cell hh
  have z := lt_of_block hh
  clear hh
  go_enter Tryz.func229, Tryz.ntmps229
  go_wp2_with fail
  go_ret
  exact ⟨rfl, (by repeat (first | with_reducible exact Below.refl _ _ | with_reducible assumption | ((with_reducible refine Below.setCell ?_ ?_ _); rotate_left; · (first | omega | exact Nat.le_refl _ | (simp <;> omega))) | (with_reducible refine Below.allocW ?_ _) | (with_reducible refine Below.drew ?_) | (with_reducible refine Below.extW ?_ _)))⟩
theorem bag_Total (w : World) (base g : Nat) (l : Int) (m : List Nd) (h : BagAt w base g l m) : Calls Tryz.prog 136 #[.pointer (some ⟨g, 0, none⟩)] w fun e w' => e = .returned (.int .i64 (sumR m)) ∧ Below w.heap.size w w' := by
  obtain ⟨v, hh, _⟩ := h
  have c := blk_cell hh
  have z := lt_of_block hh
  clear hh
  go_enter Tryz.func136, Tryz.ntmps136
  go_wp2_with fail
  go_ret
  exact ⟨rfl, (by repeat (first | with_reducible exact Below.refl _ _ | with_reducible assumption | ((with_reducible refine Below.setCell ?_ ?_ _); rotate_left; · (first | omega | exact Nat.le_refl _ | (simp <;> omega))) | (with_reducible refine Below.allocW ?_ _) | (with_reducible refine Below.drew ?_) | (with_reducible refine Below.extW ?_ _)))⟩
theorem bag_New (w : World) (l : Int) (h1 : 1 ≤ l) (h2 : l ≤ 48) : Calls Tryz.prog 149 #[.int .i64 l] w fun e w' => e = .returned (.tuple #[.pointer (some ⟨w.heap.size, 0, none⟩), .int .i64 0]) ∧ BagAt w' w.heap.size w.heap.size l [] ∧ Below w.heap.size w w' := by
  have k1 : decide (l < 1) = false := by simpa using h1
  have k2 : decide (48 < l) = false := by simpa using h2
  go_enter Tryz.func149, Tryz.ntmps149
  go_wp2_with fail
  go_ret2
  exact ⟨rfl, ⟨.slice none 0 0, heap_alloc_new w _, Nat.le_refl _, .nil _ _ _ _⟩, (by repeat (first | with_reducible exact Below.refl _ _ | with_reducible assumption | ((with_reducible refine Below.setCell ?_ ?_ _); rotate_left; · (first | omega | exact Nat.le_refl _ | (simp <;> omega))) | (with_reducible refine Below.allocW ?_ _) | (with_reducible refine Below.drew ?_) | (with_reducible refine Below.extW ?_ _)))⟩
theorem bag_place_closure (W : World) (b2 b3 i n c2 blk off g : Nat) (x y : Int) (hi : i < n) (hn : n ≤ 72057594037927935) (h2 : W.cell? ⟨b2, 0, none⟩ = some (.pointer (some ⟨g, 0, none⟩))) (h3 : W.cell? ⟨b3, 0, none⟩ = some (.int .i64 x)) (hg : W.cell? ⟨g, 2, none⟩ = some (.slice (some ⟨blk, off, none⟩) n c2)) (h4 : W.cell? ⟨blk, off + i * 2, none⟩ = some (.int .i64 y)) :
    Calls Tryz.prog 306 (#[.int .i64 i] ++ #[.pointer (some ⟨b2, 0, none⟩), .pointer (some ⟨b3, 0, none⟩)]) W fun e w' => e = .returned (.bool (decide (x ≤ y))) ∧ ∃ q os, w' = Go.Sort.grow (W.drewN q) os := by
  have hi1 : (i : Int) < (n : Int) := by omega
  go_enter Tryz.func306, Tryz.ntmps306
  go_wp2_with fail
  go_region
  all_goals go_wp2_with fail
  all_goals go_ret
  all_goals exact ⟨rfl, 1, #[], by rw [Go.Sort.grow_empty]; rfl⟩
theorem bag_above_closure (W : World) (b2 b3 i n c2 blk off g : Nat) (x y : Int) (hi : i < n) (hn : n ≤ 72057594037927935) (h2 : W.cell? ⟨b2, 0, none⟩ = some (.pointer (some ⟨g, 0, none⟩))) (h3 : W.cell? ⟨b3, 0, none⟩ = some (.int .i64 x)) (hg : W.cell? ⟨g, 2, none⟩ = some (.slice (some ⟨blk, off, none⟩) n c2)) (h4 : W.cell? ⟨blk, off + i * 2, none⟩ = some (.int .i64 y)) :
    Calls Tryz.prog 348 (#[.int .i64 i] ++ #[.pointer (some ⟨b2, 0, none⟩), .pointer (some ⟨b3, 0, none⟩)]) W fun e w' => e = .returned (.bool (decide (x < y))) ∧ ∃ q os, w' = Go.Sort.grow (W.drewN q) os := by
  have hi1 : (i : Int) < (n : Int) := by omega
  go_enter Tryz.func348, Tryz.ntmps348
  go_wp2_with fail
  go_region
  all_goals go_wp2_with fail
  all_goals go_ret
  all_goals exact ⟨rfl, 1, #[], by rw [Go.Sort.grow_empty]; rfl⟩
theorem enters_place : ∀ args W, (callFunc 306 args).run Tryz.prog W = .ok (.enter 306 args) W := enters_of Tryz.func306 (by kernel_rfl) rfl
theorem enters_above : ∀ args W, (callFunc 348 args).run Tryz.prog W = .ok (.enter 348 args) W := enters_of Tryz.func348 (by kernel_rfl) rfl
theorem bag_place (w : World) (base g : Nat) (l s : Int) (m : List Nd) (x : Int) (h : BagS w base g l s m) (hm : m.length ≤ 72057594037927935) (hup : m.Pairwise fun a b => a.1 < b.1) :
    Calls Tryz.prog 247 #[.pointer (some ⟨g, 0, none⟩), .int .i64 x] w fun e w' => ∃ i : Nat, e = .returned (.int .i64 i) ∧ CutAt m (fun v => x ≤ v) i ∧ Below w.heap.size w w' := by
  obtain ⟨v, hh, hg, ho⟩ := h
  obtain ⟨A, cap, rfl, hcap, hmx, hS, _⟩ := ho.form
  have z := lt_of_block hh
  obtain ⟨W0, hW0⟩ : ∃ W0, W0 = (w.alloc (.cells #[.pointer (some ⟨g, 0, none⟩)] 102)).alloc (.cells #[.int .i64 x] 3) := ⟨_, rfl⟩
  have hsz : W0.heap.size = w.heap.size + 1 + 1 := by rw [hW0]; simp
  have B0 : Below w.heap.size w W0 := by rw [hW0]; exact (by repeat (first | with_reducible exact Below.refl _ _ | with_reducible assumption | ((with_reducible refine Below.setCell ?_ ?_ _); rotate_left; · (first | omega | exact Nat.le_refl _ | (simp <;> omega))) | (with_reducible refine Below.allocW ?_ _) | (with_reducible refine Below.drew ?_) | (with_reducible refine Below.extW ?_ _)))
  have k0 : W0.cell? ⟨w.heap.size, 0, none⟩ = some (.pointer (some ⟨g, 0, none⟩)) := by rw [hW0]; go_simp
  have k2 : W0.cell? ⟨w.heap.size + 1, 0, none⟩ = some (.int .i64 x) := by rw [hW0]; go_simp
  have cg : w.cell? ⟨g, 2, none⟩ = some (.slice A m.length cap) := by rw [blk_cell hh]; rfl
  have kg : W0.cell? ⟨g, 2, none⟩ = some (.slice A m.length cap) := (B0.cell (p := ⟨g, 2, none⟩) z).trans cg
  have hmono : ∀ a b : Int, a ≤ b → decide (x ≤ a) = true → decide (x ≤ b) = true := fun a b h1 h2 => by simp only [decide_eq_true_eq] at h2 ⊢; omega
  have hS' := Go.Proofs.Any.sort_Search Tryz.search 306 #[.pointer (some ⟨w.heap.size, 0, none⟩), .pointer (some ⟨w.heap.size + 1, 0, none⟩)] m.length (fun i => decide (x ≤ (m.getD i (0, 0)).1)) W0 enters_place (by omega)
    (fun q os i hi => by
      rw [getD_at hi]
      rcases hS with h1 | ⟨blk, off, rfl, hb, hc⟩
      · subst h1; simp at hi
      · have hc' := hc i m[i] (List.getElem?_eq_getElem hi) 0 (.int .i64 m[i].1) rfl
        simp only [Nat.add_zero] at hc'
        exact bag_place_closure _ w.heap.size (w.heap.size + 1) i m.length cap blk off g x m[i].1 hi hm (Go.cell_grown (by simp only [hsz]; omega) k0 q os) (Go.cell_grown (by simp only [hsz]; omega) k2 q os) (Go.cell_grown (by simp only [hsz]; omega) kg q os) (Go.cell_grown (by simp only [hsz]; omega) ((B0.cell (p := ⟨blk, off + i * 2, none⟩) hb).trans hc') q os))
    (fun a b hab hb h => by
      rw [getD_at (by omega)] at h
      rw [getD_at hb]
      rcases Nat.lt_or_ge a b with hlt | hge
      · exact hmono _ _ (Int.le_of_lt (List.pairwise_iff_getElem.1 hup a b (by omega) hb hlt)) h
      · obtain rfl : a = b := by omega
        exact h)
  have hcut := cut_count (p := fun v => decide (x ≤ v)) hmono hup
  have ecnt := count_range (m := m) (p := fun v => decide (x ≤ v))
  rw [ecnt] at hS'
  obtain ⟨i, hi⟩ : ∃ i, i = m.countP fun z => !decide (x ≤ z.1) := ⟨_, rfl⟩
  rw [← hi] at hS' hcut
  have HS : Hid (Calls Tryz.prog 193 #[.int .i64 m.length, .func (.func 306) #[] #[.pointer (some ⟨w.heap.size, 0, none⟩), .pointer (some ⟨w.heap.size + 1, 0, none⟩)]] W0 fun e w' => e = .returned (.int .i64 i) ∧ ∃ q os, w' = Go.Sort.grow (W0.drewN q) os) := Lib.hid hS'
  have HC : Hid (CutAt m (fun v => x ≤ v) i) := Lib.hid ⟨hcut.le, fun y hy => by have := hcut.ahead y hy; simpa using this, fun y hy => by have := hcut.behind y hy; simpa using this⟩
  have HW := Lib.hid hW0
  have HB0 := Lib.hid B0
  have HZ := Lib.hid hsz
  have cg' : ((w.alloc (.cells #[.pointer (some ⟨g, 0, none⟩)] 102)).alloc (.cells #[.int .i64 x] 3)).cell? ⟨g, 2, none⟩ = some (.slice A m.length cap) := by rw [← hW0]; exact kg
  clear hS' hS hcut ecnt hi k0 k2 kg B0 hsz hW0 hh ho cg hup hmono hcap
  go_enter Tryz.func247, Tryz.ntmps247
  go_wp2_with fail
  rw [← HW.out]
  refine HS.out.mono ?_
  rintro e w1 ⟨rfl, q, os, rfl⟩
  go_wp2_with fail
  go_ret
  exact ⟨i, rfl, HC.out, HB0.out.trans (Go.Proofs.below_grown_sl w.heap.size W0 q os (by have := HZ.out; omega))⟩
theorem bag_above (w : World) (base g : Nat) (l s : Int) (m : List Nd) (x : Int) (h : BagS w base g l s m) (hm : m.length ≤ 72057594037927935) (hup : m.Pairwise fun a b => a.1 < b.1) :
    Calls Tryz.prog 294 #[.pointer (some ⟨g, 0, none⟩), .int .i64 x] w fun e w' => ∃ i : Nat, e = .returned (.int .i64 i) ∧ CutAt m (fun v => x < v) i ∧ Below w.heap.size w w' := by
  obtain ⟨v, hh, hg, ho⟩ := h
  obtain ⟨A, cap, rfl, hcap, hmx, hS, _⟩ := ho.form
  have z := lt_of_block hh
  obtain ⟨W0, hW0⟩ : ∃ W0, W0 = (w.alloc (.cells #[.pointer (some ⟨g, 0, none⟩)] 102)).alloc (.cells #[.int .i64 x] 3) := ⟨_, rfl⟩
  have hsz : W0.heap.size = w.heap.size + 1 + 1 := by rw [hW0]; simp
  have B0 : Below w.heap.size w W0 := by rw [hW0]; exact (by repeat (first | with_reducible exact Below.refl _ _ | with_reducible assumption | ((with_reducible refine Below.setCell ?_ ?_ _); rotate_left; · (first | omega | exact Nat.le_refl _ | (simp <;> omega))) | (with_reducible refine Below.allocW ?_ _) | (with_reducible refine Below.drew ?_) | (with_reducible refine Below.extW ?_ _)))
  have k0 : W0.cell? ⟨w.heap.size, 0, none⟩ = some (.pointer (some ⟨g, 0, none⟩)) := by rw [hW0]; go_simp
  have k2 : W0.cell? ⟨w.heap.size + 1, 0, none⟩ = some (.int .i64 x) := by rw [hW0]; go_simp
  have cg : w.cell? ⟨g, 2, none⟩ = some (.slice A m.length cap) := by rw [blk_cell hh]; rfl
  have kg : W0.cell? ⟨g, 2, none⟩ = some (.slice A m.length cap) := (B0.cell (p := ⟨g, 2, none⟩) z).trans cg
  have hmono : ∀ a b : Int, a ≤ b → decide (x < a) = true → decide (x < b) = true := fun a b h1 h2 => by simp only [decide_eq_true_eq] at h2 ⊢; omega
  have hS' := Go.Proofs.Any.sort_Search Tryz.search 348 #[.pointer (some ⟨w.heap.size, 0, none⟩), .pointer (some ⟨w.heap.size + 1, 0, none⟩)] m.length (fun i => decide (x < (m.getD i (0, 0)).1)) W0 enters_above (by omega)
    (fun q os i hi => by
      rw [getD_at hi]
      rcases hS with h1 | ⟨blk, off, rfl, hb, hc⟩
      · subst h1; simp at hi
      · have hc' := hc i m[i] (List.getElem?_eq_getElem hi) 0 (.int .i64 m[i].1) rfl
        simp only [Nat.add_zero] at hc'
        exact bag_above_closure _ w.heap.size (w.heap.size + 1) i m.length cap blk off g x m[i].1 hi hm (Go.cell_grown (by simp only [hsz]; omega) k0 q os) (Go.cell_grown (by simp only [hsz]; omega) k2 q os) (Go.cell_grown (by simp only [hsz]; omega) kg q os) (Go.cell_grown (by simp only [hsz]; omega) ((B0.cell (p := ⟨blk, off + i * 2, none⟩) hb).trans hc') q os))
    (fun a b hab hb h => by
      rw [getD_at (by omega)] at h
      rw [getD_at hb]
      rcases Nat.lt_or_ge a b with hlt | hge
      · exact hmono _ _ (Int.le_of_lt (List.pairwise_iff_getElem.1 hup a b (by omega) hb hlt)) h
      · obtain rfl : a = b := by omega
        exact h)
  have hcut := cut_count (p := fun v => decide (x < v)) hmono hup
  have ecnt := count_range (m := m) (p := fun v => decide (x < v))
  rw [ecnt] at hS'
  obtain ⟨i, hi⟩ : ∃ i, i = m.countP fun z => !decide (x < z.1) := ⟨_, rfl⟩
  rw [← hi] at hS' hcut
  have HS : Hid (Calls Tryz.prog 193 #[.int .i64 m.length, .func (.func 348) #[] #[.pointer (some ⟨w.heap.size, 0, none⟩), .pointer (some ⟨w.heap.size + 1, 0, none⟩)]] W0 fun e w' => e = .returned (.int .i64 i) ∧ ∃ q os, w' = Go.Sort.grow (W0.drewN q) os) := Lib.hid hS'
  have HC : Hid (CutAt m (fun v => x < v) i) := Lib.hid ⟨hcut.le, fun y hy => by have := hcut.ahead y hy; simpa using this, fun y hy => by have := hcut.behind y hy; simpa using this⟩
  have HW := Lib.hid hW0
  have HB0 := Lib.hid B0
  have HZ := Lib.hid hsz
  have cg' : ((w.alloc (.cells #[.pointer (some ⟨g, 0, none⟩)] 102)).alloc (.cells #[.int .i64 x] 3)).cell? ⟨g, 2, none⟩ = some (.slice A m.length cap) := by rw [← hW0]; exact kg
  clear hS' hS hcut ecnt hi k0 k2 kg B0 hsz hW0 hh ho cg hup hmono hcap
  go_enter Tryz.func294, Tryz.ntmps294
  go_wp2_with fail
  rw [← HW.out]
  refine HS.out.mono ?_
  rintro e w1 ⟨rfl, q, os, rfl⟩
  go_wp2_with fail
  go_ret
  exact ⟨i, rfl, HC.out, HB0.out.trans (Go.Proofs.below_grown_sl w.heap.size W0 q os (by have := HZ.out; omega))⟩
theorem bag_weigh (w : World) (base g : Nat) (l : Int) (m : List Nd) (i k : Nat) (h : BagAt w base g l m) (hv : ∀ x ∈ m, 1 ≤ x.2) (hs : sumR m ≤ 72057594037927935) (hk : k ≤ m.length) :
    Calls Tryz.prog 293 #[.pointer (some ⟨g, 0, none⟩), .int .i64 i, .int .i64 k] w fun e w' => e = .returned (.int .i64 (sumR ((m.take k).drop i))) ∧ Below w.heap.size w w' := by
  obtain ⟨v, hh, hg, ho⟩ := h
  obtain ⟨A, cap, rfl, hcap, hmx, hS, _⟩ := ho.form
  have z := lt_of_block hh
  have cg : w.cell? ⟨g, 2, none⟩ = some (.slice A m.length cap) := by rw [blk_cell hh]; rfl
  have hml : (m.length : Int) ≤ 72057594037927935 := by have := (sumR_pos hv).2; omega
  have HS := Lib.hid hS
  have HV := Lib.hid hv
  clear hS hh ho hv hcap
  go_enter Tryz.func293, Tryz.ntmps293
  go_wp2_with fail
  go_loopw [7, 8] (fun n j wr => ∃ q : Nat, i ≤ q ∧ (q ≤ k ∨ q = i) ∧ j = .int .i64 q ∧ n = .int .i64 (sumR ((m.take q).drop i)) ∧ Below w.heap.size w wr) (fun _ j _ => k - (intOf j).toNat)
  case atStart => exact ⟨i, Nat.le_refl _, .inr rfl, rfl, by rw [List.drop_eq_nil_of_le (by rw [List.length_take]; omega)]; rfl, Below.refl _ _⟩
  case round =>
    obtain ⟨q, hq1, hq2, rfl, rfl, hB⟩ := hrel
    by_cases hlt : q < k
    · have hql : q < m.length := by omega
      have hE := take_drop_succ (m := m) hq1 (Nat.lt_of_lt_of_le hlt hk |> fun _ => hlt) hk
      obtain ⟨b, off, rfl, hb, hc⟩ := HS.out.at_ hql
      have d0 := (hB.cell (p := ⟨b, off + q * 2 + 1, none⟩) hb).trans (hc 1 (.int .i64 m[q].2) rfl)
      have d1 := (hB.cell (p := ⟨g, 2, none⟩) z).trans cg
      have lb : b < wr.heap.size := Nat.lt_of_lt_of_le hb hB.size
      have v1 := HV.out _ (List.getElem_mem hql)
      have s0 : 0 ≤ sumR ((m.take q).drop i) := (sumR_pos fun y hy => HV.out y (List.mem_of_mem_take (List.mem_of_mem_drop hy))).1
      have s1 : sumR ((m.take (q + 1)).drop i) ≤ sumR m := by
        have e1 : sumR m = sumR (m.take (q + 1)) + sumR (m.drop (q + 1)) := by rw [← sumR_append, List.take_append_drop]
        have e2 : sumR (m.take (q + 1)) = sumR ((m.take (q + 1)).take i) + sumR ((m.take (q + 1)).drop i) := by rw [← sumR_append, List.take_append_drop]
        have e3 := (sumR_pos (m := m.drop (q + 1)) fun y hy => HV.out y (List.mem_of_mem_drop hy)).1
        have e4 := (sumR_pos (m := (m.take (q + 1)).take i) fun y hy => HV.out y (List.mem_of_mem_take (List.mem_of_mem_take hy))).1
        omega
      have HE := Lib.hid hE
      obtain ⟨c, hc1⟩ : ∃ c, c = m[q].2 := ⟨_, rfl⟩
      rw [← hc1] at d0 v1 hE
      obtain ⟨n, hn⟩ : ∃ n, n = sumR ((m.take q).drop i) := ⟨_, rfl⟩
      rw [← hn] at s0 hE ⊢
      have hsum : n + c ≤ 72057594037927935 := by omega
      have HE2 := Lib.hid hE
      clear hc hE s1 hn
      go_wp2_with fail
      go_roundw
      case rel => exact ⟨q + 1, by omega, by omega, by go_num, by rw [HE2.out]; go_num, hB⟩
      case measure => simp [intOf]; omega
    · have hnlt : decide ((q : Int) < (k : Int)) = false := by simp; omega
      have e1 : sumR ((m.take q).drop i) = sumR ((m.take k).drop i) := by
        rcases hq2 with h | rfl
        · obtain rfl : q = k := by omega
          rfl
        · rw [List.drop_eq_nil_of_le (by rw [List.length_take]; omega), List.drop_eq_nil_of_le (by rw [List.length_take]; omega)]
      rw [e1]
      clear e1
      go_wp2_with fail
      go_ret
      exact ⟨rfl, hB⟩
theorem bag_Rank (w : World) (base g l : Nat) (m : List Nd) (y : Int) (h : BagAt w base g l m) (hm : BagL l m) :
    Calls Tryz.prog 233 #[.pointer (some ⟨g, 0, none⟩), .int .i64 y] w fun e w' => e = .returned (.int .i64 (betwB m 0 y)) ∧ Below w.heap.size w w' := by
  have hlen : m.length ≤ 72057594037927935 := by have := hm.len; have := hm.sum; omega
  have H := Lib.hid h
  have HM := Lib.hid hm
  have c0 : Hid (CutAt m (fun v => 0 ≤ v) 0) := Lib.hid ⟨Nat.zero_le _, by simp, fun z hz => (hm.val z (by simpa using hz)).1⟩
  clear h hm
  go_enter Tryz.func233, Tryz.ntmps233
  go_wp2_with fail
  refine (bag_above w base g l _ m y H.out hlen HM.out.up).mono ?_
  rintro e w1 ⟨k, rfl, hk, hb1⟩
  have HW := Lib.hid (fun W h => bag_weigh W base g l m 0 k h (fun x hx => (HM.out.val x hx).2.2) HM.out.sum hk.le)
  rw [← betwB_cut c0.out hk] at HW
  clear hk
  go_wp2_with fail
  refine (HW.out _ (H.out.below hb1)).mono ?_
  rintro e w2 ⟨rfl, hb2⟩
  go_wp2_with fail
  go_ret
  exact ⟨rfl, Below.then_ hb1 hb2⟩
theorem bag_Between (w : World) (base g l : Nat) (m : List Nd) (x y : Int) (h : BagAt w base g l m) (hm : BagL l m) :
    Calls Tryz.prog 230 #[.pointer (some ⟨g, 0, none⟩), .int .i64 x, .int .i64 y] w fun e w' => e = .returned (.int .i64 (betwB m x y)) ∧ Below w.heap.size w w' := by
  have hlen : m.length ≤ 72057594037927935 := by have := hm.len; have := hm.sum; omega
  have H := Lib.hid h
  have HM := Lib.hid hm
  clear h hm
  go_enter Tryz.func230, Tryz.ntmps230
  go_wp2_with fail
  refine (bag_place w base g l _ m x H.out hlen HM.out.up).mono ?_
  rintro e w1 ⟨i, rfl, hi, hb1⟩
  have HI := Lib.hid hi
  clear hi
  go_wp2_with fail
  refine (bag_above w1 base g l _ m y (H.out.below hb1) hlen HM.out.up).mono ?_
  rintro e w2 ⟨k, rfl, hk, hb2⟩
  have HW := Lib.hid (fun W h => bag_weigh W base g l m i k h (fun x hx => (HM.out.val x hx).2.2) HM.out.sum hk.le)
  rw [← betwB_cut HI.out hk] at HW
  clear hk
  go_wp2_with fail
  refine (HW.out _ ((H.out.below hb1).below hb2)).mono ?_
  rintro e w3 ⟨rfl, hb3⟩
  go_wp2_with fail
  go_ret
  exact ⟨rfl, Below.then_ (Below.then_ hb1 hb2) hb3⟩
end Go.Proofs.YtcjnchjmpkapmaaGreat
/- Package bag: what is put into it. -/
namespace Go.Proofs.YtcjnchjmpkapmaaGreat
open Go.ChangeShapes Go.WideShapes Go.ChangeAt Go.RowKit
set_option linter.unusedVariables false
set_option linter.unusedSimpArgs false
set_option maxRecDepth 100000

theorem run_copy2 (w : World) (dT sT ty elem : TypeId) (g o dLen dCap : Nat) (a : Addr) (sLen sCap n : Nat) (cur : Array Value) (t : TypeId) (cs : List Value)
    (hu : (Tryz.prog).underlying dT = some (.slice elem)) (hs : ((Tryz.prog).info? elem).map (·.size) = some 2)
    (hg : w.heap[g]? = some (.cells cur t (0, 0))) (hn : n = Nat.min sLen dLen) (hl2 : cs.length = n * 2)
    (hsrc : ∀ j v, cs[j]? = some v → w.cell? (a.add j) = some v) (hfit : o + cs.length ≤ cur.size) (h1 : ∀ v ∈ cs, v.oneCell' = true) :
    (Builtin.copy_ #[dT, sT] ty #[.slice (some ⟨g, o, none⟩) dLen dCap, .slice (some a) sLen sCap]).run Tryz.prog w =
      .ok (goInt n) (w.setRow g (cur.toList.take o ++ cs ++ cur.toList.drop (o + cs.length)).toArray) := by
  have hl := run_loadCells_list (P := Tryz.prog) w a cs hsrc
  have hst := run_storeCells_at Tryz.prog g o t cs 0 cur w hg (by simpa using hfit) h1
  cases hq : (Tryz.prog).info? elem with
  | none => simp [hq] at hs
  | some i =>
    have hi : i.size = 2 := by simpa [hq] using hs
    simp [Builtin.copy_, run_underlying hu, Builtin.lenOf, Builtin.firstCells, sizeOf, typeInfo, hq, hi, ← hn, ← hl2, hl, hst]
theorem run_copy2_none (w : World) (dT sT ty elem : TypeId) (d : Option Addr) (a : Addr) (dLen dCap sLen sCap : Nat) (hu : (Tryz.prog).underlying dT = some (.slice elem)) (hs : ((Tryz.prog).info? elem).map (·.size) = some 2) (hn : Nat.min sLen dLen = 0) :
    (Builtin.copy_ #[dT, sT] ty #[.slice d dLen dCap, .slice (some a) sLen sCap]).run Tryz.prog w = .ok (goInt 0) w := by
  cases hq : (Tryz.prog).info? elem with
  | none => simp [hq] at hs
  | some i =>
    have hl : ∀ (x : Addr), (loadCells x 0).run Tryz.prog w = .ok #[] w := fun x => by simpa using run_loadCells_list (P := Tryz.prog) w x [] (by simp)
    cases d <;> simp [Builtin.copy_, run_underlying hu, Builtin.lenOf, Builtin.firstCells, sizeOf, typeInfo, hq, hn, storeCells, hl]
theorem encN_one (L : List Nd) : ∀ v ∈ L.flatMap encN.enc, v.oneCell' = true := by
  intro v hv
  obtain ⟨x, _, hx⟩ := List.mem_flatMap.1 hv
  simp [encN] at hx
  rcases hx with rfl | rfl <;> rfl
theorem own_copy {w : World} {base e g off cap : Nat} {L : List Nd} (h : Own w base e encN (.slice (some ⟨g, off, none⟩) L.length cap) L) (i : Nat) (hi : i + 1 ≤ L.length) (dT : TypeId) (hu : (Tryz.prog).underlying dT = some (.slice e)) (hs : ((Tryz.prog).info? e).map (·.size) = some 2) :
    ∃ w', (∀ ty dc sc (A : Option Addr), (i + 1 < L.length → A = some ⟨g, off + (i + 1) * 2, none⟩) → (Builtin.copy_ #[dT, dT] ty #[.slice A (L.length - (i + 1)) dc, .slice (some ⟨g, off + i * 2, none⟩) (L.length - i) sc]).run Tryz.prog w = .ok (goInt ((L.length - (i + 1) : Nat))) w') ∧
      Own w' base e encN (.slice (some ⟨g, off, none⟩) L.length cap) (L.take (i + 1) ++ (L.drop i).take (L.length - (i + 1))) ∧ (∀ b, b ≠ g → w'.heap[b]? = w.heap[b]?) ∧ Below base w w' ∧ w.heap.size ≤ w'.heap.size := by
  rcases h with ⟨hv, _⟩ | ⟨g', o', c', cur, hv, hg, hh, h1, h2, h3, h4⟩
  · cases hv
  cases hv
  obtain ⟨n, hn⟩ : ∃ n, n = L.length - (i + 1) := ⟨_, rfl⟩
  obtain ⟨D, hD⟩ : ∃ D, D = (L.drop i).take n := ⟨_, rfl⟩
  have hDl : D.length = n := by rw [hD]; simp; omega
  have hcl : (D.flatMap encN.enc).length = n * 2 := by rw [flat_len, hDl]
  have e0 : L.length * 2 ≤ cap * 2 := Nat.mul_le_mul_right _ h1
  have hDget : ∀ k x, D[k]? = some x → L[i + k]? = some x := fun k x hk => by
    rw [hD, List.getElem?_take] at hk
    split at hk
    · rwa [List.getElem?_drop] at hk
    · cases hk
  have hsrc : ∀ j v, (D.flatMap encN.enc)[j]? = some v → w.cell? ((⟨g, off + i * 2, none⟩ : Addr).add j) = some v := fun j v hj => by
    obtain ⟨k, x, q, hk, hq, rfl⟩ := flat_inv encN D j v hj
    rw [Addr.add_lit, cell_of_row _ _ _ _ _ _ hh]
    have := h4 _ v (flat_get encN L (i + k) q x v (hDget k x hk) hq)
    rw [← this]; congr 1; omega
  have hfit : off + (i + 1) * 2 + (D.flatMap encN.enc).length ≤ cur.size := by rw [hcl]; omega
  have hlen' : (L.take (i + 1) ++ D).length = L.length := by simp [hDl]; omega
  refine ⟨w.setRow g (cur.toList.take (off + (i + 1) * 2) ++ D.flatMap encN.enc ++ cur.toList.drop (off + (i + 1) * 2 + (D.flatMap encN.enc).length)).toArray, fun ty dc sc A hA => ?_, ?_, fun b hb => setRow_other w g b _ hb, ?_, by simp [World.setRow]⟩
  · by_cases h0 : i + 1 < L.length
    · rw [hA h0, ← hn]
      exact run_copy2 w dT dT ty e g _ n dc ⟨g, off + i * 2, none⟩ (L.length - i) sc n cur e _ hu hs hh (by show n = min (L.length - i) n; omega) hcl hsrc hfit (encN_one D)
    · have hn0 : n = 0 := by omega
      have hD0 : D = [] := List.eq_nil_of_length_eq_zero (by omega)
      rw [run_copy2_none w dT dT ty e A _ _ dc _ sc hu hs (by show min (L.length - i) (L.length - (i + 1)) = 0; omega), hD0]
      simp only [List.flatMap_nil, List.append_nil, List.length_nil, Nat.add_zero, List.take_append_drop, Array.toArray_toList]
      rw [setRow_self w g cur e (0, 0) hh, show L.length - (i + 1) = 0 by omega]
      rfl
  · rw [← hn, ← hD]
    refine .inr ⟨g, off, cap, _, by rw [hlen'], hg, setRow_heap w g _ _ e _ hh, by rw [hlen']; exact h1, h2, ?_, fun q v hq => ?_⟩
    · simp only [List.size_toArray, List.length_append, List.length_take, List.length_drop, Array.length_toList]
      omega
    · obtain ⟨k, x, q', hk, hq', rfl⟩ := flat_inv encN _ q v hq
      have hq2 : q' < 2 := by
        have := (List.getElem?_eq_some_iff.1 hq').1
        rwa [encN.len] at this
      rw [List.getElem?_toArray]
      by_cases hki : k < i + 1
      · rw [List.getElem?_append_left (by simp only [List.length_take]; omega), List.getElem?_take, if_pos hki] at hk
        rw [List.append_assoc, List.getElem?_append_left (by simp only [List.length_take, Array.length_toList]; omega), List.getElem?_take, if_pos (by omega), Array.getElem?_toList]
        exact h4 _ v (flat_get encN L k q' x v hk hq')
      · have hlt : (L.take (i + 1)).length = i + 1 := by simp; omega
        rw [List.getElem?_append_right (by omega), hlt] at hk
        have hkD : k - (i + 1) < D.length := (List.getElem?_eq_some_iff.1 hk).1
        have hct : (cur.toList.take (off + (i + 1) * 2)).length = off + (i + 1) * 2 := by simp; omega
        rw [List.append_assoc, List.getElem?_append_right (by omega), hct, List.getElem?_append_left (by rw [hcl]; omega)]
        rw [show off + (k * 2 + q') - (off + (i + 1) * 2) = (k - (i + 1)) * 2 + q' by omega]
        exact flat_get encN D _ q' x v hk hq'
  · exact (Below.refl base w).trans ⟨rfl, rfl, rfl, by simp [World.setRow], fun k hk => setRow_other w g k _ (by omega)⟩
theorem put_list {m : List Nd} {i : Nat} (hi : i ≤ m.length) (z x : Nd) : ((m ++ [z]).take (i + 1) ++ ((m ++ [z]).drop i).take ((m ++ [z]).length - (i + 1))).set i x = m.take i ++ x :: m.drop i := by
  obtain ⟨a, b, rfl, ha⟩ : ∃ a b, m = a ++ b ∧ a.length = i := ⟨m.take i, m.drop i, (List.take_append_drop i m).symm, by simp; omega⟩
  subst ha
  have e1 : (a ++ b ++ [z]).take (a.length + 1) = a ++ (b ++ [z]).take 1 := by rw [List.append_assoc, List.take_append, List.take_of_length_le (by omega)]; simp
  have e2 : (a ++ b ++ [z]).drop a.length = b ++ [z] := by rw [List.append_assoc, List.drop_left]
  have e3 : ((b ++ [z]).take ((a ++ b ++ [z]).length - (a.length + 1))) = b := by
    rw [show (a ++ b ++ [z]).length - (a.length + 1) = b.length by simp; omega]
    exact List.take_left
  obtain ⟨y, hy⟩ : ∃ y, (b ++ [z]).take 1 = [y] := by cases b <;> exact ⟨_, rfl⟩
  rw [e1, e2, e3, hy, List.take_left, List.drop_left]
  simp [List.set_append]
theorem addR_cut {x : Int} : ∀ {m : List Nd} {i : Nat}, CutAt m (fun v => x ≤ v) i → (m.Pairwise fun a b => a.1 < b.1) → ∀ c, (∀ h : i < m.length, m[i].1 = x → addR m x c = m.set i (x, m[i].2 + c)) ∧ ((i = m.length ∨ ∃ h : i < m.length, m[i].1 ≠ x) → addR m x c = m.take i ++ (x, c) :: m.drop i) := by
  intro m
  induction m with
  | nil =>
    intro i hc _ c
    obtain rfl : i = 0 := by have := hc.le; simpa using this
    exact ⟨fun h => by simp at h, fun _ => rfl⟩
  | cons z m ih =>
    intro i hc hup c
    obtain ⟨u1, u2⟩ := List.pairwise_cons.1 hup
    cases i with
    | zero =>
      have h0 := hc.behind z (by simp)
      refine ⟨fun h hx => ?_, fun h => ?_⟩
      · simp only [List.getElem_cons_zero] at hx
        simp only [addR, if_pos hx, List.getElem_cons_zero, List.set_cons_zero]
      · rcases h with h | ⟨h, hx⟩
        · simp at h
        · simp only [List.getElem_cons_zero] at hx
          simp only [addR, if_neg hx, if_pos (show x < z.1 by omega), List.take_zero, List.drop_zero, List.nil_append]
    | succ i =>
      have h0 := hc.ahead z (by simp)
      have hc' : CutAt m (fun v => x ≤ v) i := ⟨by have := hc.le; simpa using this, fun y hy => hc.ahead y (by rw [List.take_succ_cons]; exact List.mem_cons_of_mem _ hy), fun y hy => hc.behind y (by simpa using hy)⟩
      obtain ⟨k1, k2⟩ := ih hc' u2 c
      have ea : addR (z :: m) x c = z :: addR m x c := by simp only [addR]; rw [if_neg (by omega), if_neg (by omega)]
      refine ⟨fun h hx => ?_, fun h => ?_⟩
      · simp only [List.getElem_cons_succ] at hx
        rw [ea, k1 (by simpa using h) hx]
        simp
      · rw [ea, k2 (by
          rcases h with h | ⟨h, hx⟩
          · exact .inl (by simpa using h)
          · exact .inr ⟨by simpa using h, by simpa using hx⟩)]
        simp
end Go.Proofs.YtcjnchjmpkapmaaGreat
/- Package bag: put, Add. -/
namespace Go.Proofs.YtcjnchjmpkapmaaGreat
open Go.ChangeShapes Go.WideShapes Go.ChangeAt Go.RowKit
set_option linter.unusedVariables false
set_option linter.unusedSimpArgs false
set_option maxRecDepth 100000

theorem tyRd : SliceTy Tryz.prog 29 96 2 16 (.agg #[.int .i64 0, .int .i64 0]) := ⟨Tryz.underlying29, by kernel_rfl, rfl, by decide⟩
theorem szRd : ((Tryz.prog).info? 96).map (·.size) = some 2 := by kernel_rfl
theorem nq_of {i n cap : Nat} (h : n + 1 ≤ cap) : i + 1 < n + 1 → ¬ (cap = i + 1) := by omega
set_option maxHeartbeats 8000000 in
theorem bag_put (w : World) (base g l : Nat) (m : List Nd) (x c : Int) (h : BagAt w base g l m) (hm : BagL l m) (hc : 1 ≤ c) (hs : sumR m + c ≤ 72057594037927935) (hlen : m.length ≤ 65536) (hb : base ≤ w.heap.size) :
    Calls Tryz.prog 153 #[.pointer (some ⟨g, 0, none⟩), .int .i64 x, .int .i64 c] w fun e w' => e = .returned (.tuple #[]) ∧ BagAt w' base g l (addR m x c) ∧ Below base w w' := by
  obtain ⟨v, hh, hg, ho⟩ := h
  have z := lt_of_block hh
  have c0 := blk_cell hh
  have f0 := blk_frozen hh
  have s0 := hm.sum0
  have hne := ho.ne_block hh (by decide)
  have H1 : Hid (BagS (w.setCell ⟨g, 1, none⟩ (.int .i64 (sumR m + c))) base g l (sumR m + c) m) := Lib.hid ⟨v, heap_set_at (i := 1) hh _, hg, ho.setCell hne _⟩
  have BW := Lib.hid (Below.setCell (p := ⟨g, 1, none⟩) (Below.refl base w) hg (.int .i64 (sumR m + c)))
  have SZ := Lib.hid (show base ≤ (w.setCell ⟨g, 1, none⟩ (.int .i64 (sumR m + c))).heap.size by simp [World.setCell]; exact hb)
  have HUP := Lib.hid hm.up
  have HVAL := Lib.hid (fun y hy => (hm.val y hy).2.2)
  have HN := Lib.hid hs
  have HSUM := Lib.hid (sumR_add m x c)
  obtain ⟨n, hn⟩ : ∃ n, n = sumR m := ⟨_, rfl⟩
  rw [← hn] at s0 hs c0 H1 BW SZ HSUM
  clear hh ho hne hm hn
  go_enter Tryz.func153, Tryz.ntmps153
  go_upto_region 1 with fail
  generalize w.setCell ⟨g, 1, none⟩ (.int .i64 (n + c)) = w0 at H1 BW SZ ⊢
  clear c0 f0 z
  go_wp2_with fail
  refine (bag_place w0 base g l _ m x H1.out (by omega) HUP.out).mono ?_
  rintro e w1 ⟨i, rfl, hi, hb1⟩
  have hile := hi.le
  obtain ⟨hA1, hA2⟩ := addR_cut hi HUP.out c
  have BW1 := Lib.hid (BW.out.trans (hb1.mono SZ.out))
  have SZ1 := Lib.hid (Nat.le_trans SZ.out hb1.size)
  obtain ⟨v1, hh1, hg1, ho1⟩ := H1.out.below hb1
  have H2 := Lib.hid (And.intro hh1 ho1)
  have H3 := Lib.hid hg1
  clear hi hb1 H1 BW SZ hg1
  have z := lt_of_block hh1
  have c1 := blk_cell hh1
  have f1 := blk_frozen hh1
  have hne := ho1.ne_block hh1 (by decide)
  obtain ⟨A, cap, rfl, hcap, hmx, hS, _⟩ := ho1.form
  by_cases him : i < m.length
  · have hmi : (i : Int) < (m.length : Int) := by omega
    obtain ⟨blk1, off1, rfl, hbb, hc2⟩ := hS.at_ him
    have d0 := hc2 0 (.int .i64 m[i].1) rfl
    have d1 := hc2 1 (.int .i64 m[i].2) rfl
    simp only [Nat.add_zero] at d0
    have fr := ho1.frozen (off1 + i * 2 + 1)
    have bl1 := Lib.hid (ho1.lt blk1 rfl).1
    by_cases hx : m[i].1 = x
    · have hA := Lib.hid (hA1 him hx)
      have HS1 := Lib.hid (ho1.setElem i 1 him (by decide) (.int .i64 (m[i].2 + c)) (x, m[i].2 + c) (by simp [encN, hx]))
      have wsm : m[i].2 + c ≤ 72057594037927935 := by have := sum_part HVAL.out him; have := HN.out; omega
      have w0' : 1 ≤ m[i].2 := HVAL.out _ (List.getElem_mem him)
      obtain ⟨q, hq⟩ : ∃ q, q = m[i].2 := ⟨_, rfl⟩
      rw [← hq] at d1 hA HS1 wsm w0'
      rw [hx] at d0
      clear hA1 hA2 hS hc2 hh1 ho1 hq hcap
      go_wp2_with fail
      have HB : BagS (w1.setCell ⟨blk1, off1 + i * 2 + 1, none⟩ (.int .i64 (q + c))) base g l (sumR (addR m x c)) (addR m x c) := by
        rw [HSUM.out, hA.out]
        exact ⟨_, (Below.heap_setCell _ _ _ _ (fun e => hne (by rw [e]; rfl))).trans H2.out.1, H3.out, HS1.out⟩
      exact bodyPost_ret (v := .tuple #[]) (by simp only [results, Tryz.results153]; go_simp) rfl ⟨rfl, HB, Below.setCell (p := ⟨blk1, off1 + i * 2 + 1, none⟩) BW1.out bl1.out _⟩
    · have hx' : (m[i].1 == x) = false := by simpa using hx
      have HL2 := Lib.hid (hA2 (.inr ⟨him, hx⟩))
      clear hA1 hA2
      go_wp2_with ((at_builtin; refine wpList_push tyRd rfl _ _ rfl encN w1 base (.slice (some ⟨blk1, off1, none⟩) m.length cap) m rfl H2.out.2 (0, 0) (by go_simp) rfl ?c1 ?c2 ?c3 ?c4))
      case c1 => omega
      case c2 => simp only [maxLen]; omega
      case c3 => exact SZ1.out
      case c4 =>
        intro v5 w5 ho5 hgrow hsz5 _ hb5 _
        have hh5 := blk_grown_not H2.out.1 hgrow hne
        have hne5 := ho5.ne_block hh5 (by decide)
        have z5 := lt_of_block hh5
        have c5 := blk_cell hh5
        have f5 := blk_frozen hh5
        have BW5 := Lib.hid (BW1.out.trans hb5)
        obtain ⟨A5, cap5, rfl, hcap5, hmx5, hS5, _⟩ := ho5.form
        obtain ⟨blk, off, rfl, hbb, _⟩ := hS5.at_ (k := i) (by simp; omega)
        have hll : (m ++ [((0 : Int), (0 : Int))]).length = m.length + 1 := by simp
        rw [hll] at ho5 hcap5 hne5
        have H6 : Hid ((w5.setCell ⟨g, 2, none⟩ (.slice (some ⟨blk, off, none⟩) (m.length + 1) cap5)).heap[g]? = some (.cells #[.int .i64 l, .int .i64 (n + c), .slice (some ⟨blk, off, none⟩) (m.length + 1) cap5] 221 (0, 0)) ∧ Own (w5.setCell ⟨g, 2, none⟩ (.slice (some ⟨blk, off, none⟩) (m.length + 1) cap5)) base 96 encN (.slice (some ⟨blk, off, none⟩) (m.length + 1) cap5) (m ++ [(0, 0)])) := Lib.hid ⟨heap_set_at (i := 2) hh5 _, ho5.setCell hne5 _⟩
        have BW6 := Lib.hid (Below.setCell (p := ⟨g, 2, none⟩) BW5.out H3.out (.slice (some ⟨blk, off, none⟩) (m.length + 1) cap5))
        rw [hll]
        clear c1 f1 z hS5 ho5 hgrow hb5 hh5 hbb BW5
        go_upto_region 5 with fail
        generalize w5.setCell ⟨g, 2, none⟩ (.slice (some ⟨blk, off, none⟩) (m.length + 1) cap5) = w6 at H6 BW6 ⊢
        clear c5 f5 z5
        have hh6 := H6.out.1
        have ho6 := H6.out.2
        rw [← hll] at ho6
        obtain ⟨w7, hrun, ho7, hblk, hb7, hs7⟩ := own_copy (w := w6.drew) ho6 i (by rw [hll]; omega) 29 Tryz.underlying29 szRd
        rw [hll] at hrun ho7 ho6
        rw [show m.length + 1 - (i + 1) = m.length - i by omega] at hrun
        have HRUN := Lib.hid hrun
        have gne : g ≠ blk := by
          have := ho6.ne_block hh6 (by decide)
          rintro rfl
          exact this rfl
        have hh7 : w7.heap[g]? = _ := (hblk g gne).trans hh6
        have z6 := lt_of_block hh6
        have c6 := blk_cell hh6
        have q1 : i + 1 ≤ m.length + 1 := by omega
        have q2 : ¬ (cap5 = i) := by omega
        have q3 : (i : Int) ≤ (m.length : Int) + 1 := by omega
        have q4 : (0 : Int) ≤ (i : Int) + 1 := by omega
        have q5 : (i : Int) ≤ (m.length : Int) := by omega
        have q6 : ((i : Int) + 1).toNat = i + 1 := by omega
        have q7 : (i : Int) + 1 ≤ (m.length : Int) + 1 := by omega
        have q8 : IntKind.i64.wrap ((i : Int) + 1) = (i : Int) + 1 := by rw [IntKind.wrap_i64]; omega
        have nq : i + 1 < m.length + 1 → ¬ (cap5 = i + 1) := nq_of hcap5
        have hA : i + 1 < m.length + 1 → (if cap5 = i + 1 then some ⟨blk, off, none⟩ else some ⟨blk, off + (i + 1) * 2, none⟩ : Option Addr) = some ⟨blk, off + (i + 1) * 2, none⟩ := fun h => if_neg (nq h)
        have HA := Lib.hid hA
        have H7 := Lib.hid (And.intro hh7 ho7)
        have BW7 := Lib.hid ((Below.drew BW6.out).trans hb7)
        clear hrun hblk hb7 hA hh7 ho7 ho6 hh6 BW6

        go_region_law ((first | refine step_copy_runI rfl _ _ 29 29 rfl _ _ (by simp [Act.eval, Act.put]) (by simp [Act.eval, Act.put]) (HRUN.out _ (cap5 - (i + 1)) (cap5 - i) _ (fun _ => rfl)) ?_ | refine step_copy_runI rfl _ _ 29 29 rfl _ _ (by simp [Act.eval, Act.put]) (by simp [Act.eval, Act.put]) (HRUN.out _ (cap5 - (i + 1)) (cap5 - i) _ HA.out) ?_))
        all_goals
          clear HRUN HA c6 z6 H6 q1 q2 q3 q4 q5 q6 q7 q8 nq
          have i7 : i < (List.take (i + 1) (m ++ [((0 : Int), (0 : Int))]) ++ List.take (m.length + 1 - (i + 1)) (List.drop i (m ++ [(0, 0)]))).length := by simp; omega
          have hl7 : (List.take (i + 1) (m ++ [((0 : Int), (0 : Int))]) ++ List.take (m.length + 1 - (i + 1)) (List.drop i (m ++ [(0, 0)]))).length = m.length + 1 := by simp; omega
          have hpl := put_list (m := m) hile (0, 0) (x, c)
          rw [hll] at hpl
          have HL3 := Lib.hid (hpl.trans HL2.out.symm)
          generalize List.take (i + 1) (m ++ [((0 : Int), (0 : Int))]) ++ List.take (m.length + 1 - (i + 1)) (List.drop i (m ++ [(0, 0)])) = L7 at i7 hl7 H7 HL3
          have ho7 := H7.out.2
          have hS7 := ho7.sl
          obtain ⟨_, _, hv7, hb7, hc7⟩ := hS7.at_ i7
          cases hv7
          have d70 := hc7 0 (.int .i64 L7[i].1) rfl
          have d71 := hc7 1 (.int .i64 L7[i].2) rfl
          simp only [Nat.add_zero] at d70
          have f70 := ho7.frozen (off + i * 2)
          have f71 := ho7.frozen (off + i * 2 + 1)
          have c7 : w7.cell? ⟨g, 2, none⟩ = some (.slice (some ⟨blk, off, none⟩) (m.length + 1) cap5) := by rw [blk_cell H7.out.1]; rfl
          have z7 := lt_of_block H7.out.1
          have hi7 : (i : Int) < (m.length : Int) + 1 := by omega
          have ne7 : blk ≠ g := fun e => gne e.symm
          have HS7 := Lib.hid ((ho7.setElem i 0 i7 (by decide) (.int .i64 x) (x, L7[i].2) rfl).setElem i 1 (by rw [List.length_set]; exact i7) (by decide) (.int .i64 c) (x, c) (by simp [encN]))
          have bl7 := Lib.hid (ho7.lt blk rfl).1
          clear hS7 hc7 ho7 hpl
          go_wp2_with fail
          go_end0
          have HB : BagS ((w7.setCell ⟨blk, off + i * 2, none⟩ (.int .i64 x)).setCell ⟨blk, off + i * 2 + 1, none⟩ (.int .i64 c)) base g l (sumR (addR m x c)) (addR m x c) := by
            have h8 := HS7.out
            rw [List.set_set, HL3.out, Nat.add_zero] at h8
            rw [HSUM.out]
            exact ⟨_, (Below.heap_setCell _ _ _ _ gne).trans ((Below.heap_setCell _ _ _ _ gne).trans H7.out.1), H3.out, h8⟩
          exact ⟨rfl, HB, Below.setCell (p := ⟨blk, off + i * 2 + 1, none⟩) (Below.setCell (p := ⟨blk, off + i * 2, none⟩) BW7.out bl7.out _) bl7.out _⟩
  · have hmi : decide ((i : Int) < (m.length : Int)) = false := by simp; omega
    have HL2 := Lib.hid (hA2 (.inl (by omega)))
    clear hA1 hA2
    go_wp2_with ((at_builtin; refine wpList_push tyRd rfl _ _ rfl encN w1 base (.slice A m.length cap) m rfl H2.out.2 (0, 0) (by go_simp) rfl ?c1 ?c2 ?c3 ?c4))
    case c1 => omega
    case c2 => simp only [maxLen]; omega
    case c3 => exact SZ1.out
    case c4 =>
      intro v5 w5 ho5 hgrow hsz5 _ hb5 _
      have hh5 := blk_grown_not H2.out.1 hgrow hne
      have hne5 := ho5.ne_block hh5 (by decide)
      have z5 := lt_of_block hh5
      have c5 := blk_cell hh5
      have f5 := blk_frozen hh5
      have BW5 := Lib.hid (BW1.out.trans hb5)
      obtain ⟨A5, cap5, rfl, hcap5, hmx5, hS5, _⟩ := ho5.form
      obtain ⟨blk, off, rfl, hbb, _⟩ := hS5.at_ (k := i) (by simp; omega)
      have hll : (m ++ [((0 : Int), (0 : Int))]).length = m.length + 1 := by simp
      rw [hll] at ho5 hcap5 hne5
      have H6 : Hid ((w5.setCell ⟨g, 2, none⟩ (.slice (some ⟨blk, off, none⟩) (m.length + 1) cap5)).heap[g]? = some (.cells #[.int .i64 l, .int .i64 (n + c), .slice (some ⟨blk, off, none⟩) (m.length + 1) cap5] 221 (0, 0)) ∧ Own (w5.setCell ⟨g, 2, none⟩ (.slice (some ⟨blk, off, none⟩) (m.length + 1) cap5)) base 96 encN (.slice (some ⟨blk, off, none⟩) (m.length + 1) cap5) (m ++ [(0, 0)])) := Lib.hid ⟨heap_set_at (i := 2) hh5 _, ho5.setCell hne5 _⟩
      have BW6 := Lib.hid (Below.setCell (p := ⟨g, 2, none⟩) BW5.out H3.out (.slice (some ⟨blk, off, none⟩) (m.length + 1) cap5))
      rw [hll]
      clear c1 f1 z hS5 ho5 hgrow hb5 hh5 hbb BW5
      go_upto_region 5 with fail
      generalize w5.setCell ⟨g, 2, none⟩ (.slice (some ⟨blk, off, none⟩) (m.length + 1) cap5) = w6 at H6 BW6 ⊢
      clear c5 f5 z5
      have hh6 := H6.out.1
      have ho6 := H6.out.2
      rw [← hll] at ho6
      obtain ⟨w7, hrun, ho7, hblk, hb7, hs7⟩ := own_copy (w := w6.drew) ho6 i (by rw [hll]; omega) 29 Tryz.underlying29 szRd
      rw [hll] at hrun ho7 ho6
      rw [show m.length + 1 - (i + 1) = m.length - i by omega] at hrun
      have HRUN := Lib.hid hrun
      have gne : g ≠ blk := by
        have := ho6.ne_block hh6 (by decide)
        rintro rfl
        exact this rfl
      have hh7 : w7.heap[g]? = _ := (hblk g gne).trans hh6
      have z6 := lt_of_block hh6
      have c6 := blk_cell hh6
      have q1 : i + 1 ≤ m.length + 1 := by omega
      have q2 : ¬ (cap5 = i) := by omega
      have q3 : (i : Int) ≤ (m.length : Int) + 1 := by omega
      have q4 : (0 : Int) ≤ (i : Int) + 1 := by omega
      have q5 : (i : Int) ≤ (m.length : Int) := by omega
      have q6 : ((i : Int) + 1).toNat = i + 1 := by omega
      have q7 : (i : Int) + 1 ≤ (m.length : Int) + 1 := by omega
      have q8 : IntKind.i64.wrap ((i : Int) + 1) = (i : Int) + 1 := by rw [IntKind.wrap_i64]; omega
      have nq : i + 1 < m.length + 1 → ¬ (cap5 = i + 1) := nq_of hcap5
      have hA : i + 1 < m.length + 1 → (if cap5 = i + 1 then some ⟨blk, off, none⟩ else some ⟨blk, off + (i + 1) * 2, none⟩ : Option Addr) = some ⟨blk, off + (i + 1) * 2, none⟩ := fun h => if_neg (nq h)
      have HA := Lib.hid hA
      have H7 := Lib.hid (And.intro hh7 ho7)
      have BW7 := Lib.hid ((Below.drew BW6.out).trans hb7)
      clear hrun hblk hb7 hA hh7 ho7 ho6 hh6 BW6

      go_region_law ((refine step_copy_runI rfl _ _ 29 29 rfl _ _ (by first | rfl | simp [Act.eval, Act.put]) (by first | rfl | simp [Act.eval, Act.put]) (HRUN.out _ (cap5 - (i + 1)) (cap5 - i) _ HA.out) ?_))
      all_goals
        clear HRUN HA c6 z6 H6 q1 q2 q3 q4 q5 q6 q7 q8 nq
        have i7 : i < (List.take (i + 1) (m ++ [((0 : Int), (0 : Int))]) ++ List.take (m.length + 1 - (i + 1)) (List.drop i (m ++ [(0, 0)]))).length := by simp; omega
        have hl7 : (List.take (i + 1) (m ++ [((0 : Int), (0 : Int))]) ++ List.take (m.length + 1 - (i + 1)) (List.drop i (m ++ [(0, 0)]))).length = m.length + 1 := by simp; omega
        have hpl := put_list (m := m) hile (0, 0) (x, c)
        rw [hll] at hpl
        have HL3 := Lib.hid (hpl.trans HL2.out.symm)
        generalize List.take (i + 1) (m ++ [((0 : Int), (0 : Int))]) ++ List.take (m.length + 1 - (i + 1)) (List.drop i (m ++ [(0, 0)])) = L7 at i7 hl7 H7 HL3
        have ho7 := H7.out.2
        have hS7 := ho7.sl
        obtain ⟨_, _, hv7, hb7, hc7⟩ := hS7.at_ i7
        cases hv7
        have d70 := hc7 0 (.int .i64 L7[i].1) rfl
        have d71 := hc7 1 (.int .i64 L7[i].2) rfl
        simp only [Nat.add_zero] at d70
        have f70 := ho7.frozen (off + i * 2)
        have f71 := ho7.frozen (off + i * 2 + 1)
        have c7 : w7.cell? ⟨g, 2, none⟩ = some (.slice (some ⟨blk, off, none⟩) (m.length + 1) cap5) := by rw [blk_cell H7.out.1]; rfl
        have z7 := lt_of_block H7.out.1
        have hi7 : (i : Int) < (m.length : Int) + 1 := by omega
        have ne7 : blk ≠ g := fun e => gne e.symm
        have HS7 := Lib.hid ((ho7.setElem i 0 i7 (by decide) (.int .i64 x) (x, L7[i].2) rfl).setElem i 1 (by rw [List.length_set]; exact i7) (by decide) (.int .i64 c) (x, c) (by simp [encN]))
        have bl7 := Lib.hid (ho7.lt blk rfl).1
        clear hS7 hc7 ho7 hpl
        have HB : BagS ((w7.setCell ⟨blk, off + i * 2, none⟩ (.int .i64 x)).setCell ⟨blk, off + i * 2 + 1, none⟩ (.int .i64 c)) base g l (sumR (addR m x c)) (addR m x c) := by
          have h8 := HS7.out
          rw [List.set_set, HL3.out, Nat.add_zero] at h8
          rw [HSUM.out]
          exact ⟨_, (Below.heap_setCell _ _ _ _ gne).trans ((Below.heap_setCell _ _ _ _ gne).trans H7.out.1), H3.out, h8⟩
        go_wp2_with fail
        all_goals go_end0
        all_goals exact ⟨rfl, HB, Below.setCell (p := ⟨blk, off + i * 2 + 1, none⟩) (Below.setCell (p := ⟨blk, off + i * 2, none⟩) BW7.out bl7.out _) bl7.out _⟩
end Go.Proofs.YtcjnchjmpkapmaaGreat
/- Package bag: Add. -/
namespace Go.Proofs.YtcjnchjmpkapmaaGreat
open Go.ChangeShapes Go.WideShapes Go.ChangeAt Go.RowKit
set_option linter.unusedVariables false
set_option linter.unusedSimpArgs false
set_option maxRecDepth 100000

theorem bag_room (w : World) (base g : Nat) (l : Int) (m : List Nd) (c : Int) (h : BagAt w base g l m) (h0 : 0 ≤ sumR m) (h1 : sumR m ≤ 72057594037927935) (hc : 1 ≤ c) (hc2 : c ≤ 9223372036854775807) :
    Calls Tryz.prog 152 #[.pointer (some ⟨g, 0, none⟩), .int .i64 c] w fun e w' => e = .returned (.bool (decide (sumR m + c ≤ 72057594037927935))) ∧ Below w.heap.size w w' := by
  obtain ⟨v, hh, _⟩ := h
  have c0 := blk_cell hh
  have z := lt_of_block hh
  clear hh
  obtain ⟨n, hn⟩ : ∃ n, n = sumR m := ⟨_, rfl⟩
  rw [← hn] at h0 h1 c0 ⊢
  clear hn
  have HA := Lib.hid (fun W => reckon_Add W n c (by omega) hc2)
  by_cases ho : n + c ≤ 9223372036854775807
  · have e1 : addOf n c = (n + c, true) := by unfold addOf; rw [if_pos (by omega)]
    rw [e1] at HA
    unfold okV at HA
    go_enter Tryz.func152, Tryz.ntmps152
    go_wp2_with fail
    refine (HA.out _).mono ?_
    rintro e w1 ⟨rfl, hb1⟩
    go_wp2_with fail
    go_ret
    exact ⟨rfl, hb1⟩
  · have e1 : addOf n c = (0, false) := by unfold addOf; rw [if_neg (by omega)]
    rw [e1] at HA
    unfold okV at HA
    rw [decide_eq_false (by omega : ¬ n + c ≤ 72057594037927935)]
    clear ho e1 hc hc2 h0 h1
    go_enter Tryz.func152, Tryz.ntmps152
    go_wp2_with fail
    refine (HA.out _).mono ?_
    rintro e w1 ⟨rfl, hb1⟩
    go_wp2_with fail
    go_ret
    exact ⟨rfl, hb1⟩
theorem bag_Add (w : World) (base g l : Nat) (m : List Nd) (x c : Int) (hl : 1 ≤ l ∧ l ≤ 48) (h : BagAt w base g l m) (hm : BagL l m) (hc2 : c ≤ 9223372036854775807) (hlen : m.length ≤ 65536) (hb : base ≤ w.heap.size) :
    Calls Tryz.prog 69 #[.pointer (some ⟨g, 0, none⟩), .int .i64 x, .int .i64 c] w fun e w' => e = .returned (.int .i64 (addB l m x c).2) ∧ BagAt w' base g l (addB l m x c).1 ∧ Below base w w' := by
  have H := Lib.hid h
  have HM := Lib.hid hm
  have HR := Lib.hid (fun W h h3 => bag_room W base g l m c h hm.sum0 hm.sum h3 hc2)
  have HL := Lib.hid (fun W => twig_Leaf W l x hl.1 hl.2)
  obtain ⟨v, hh, _⟩ := h
  have c0 := blk_cell hh
  have z := lt_of_block hh
  clear hh hm
  cases hv : isVal l x
  · have e1 : addB l m x c = (m, 3) := by unfold addB; rw [if_pos hv]
    rw [leafV_no hv] at HL
    rw [e1]
    clear e1
    go_enter Tryz.func69, Tryz.ntmps69
    go_wp2_with fail
    refine (HL.out _).mono ?_
    rintro e w1 ⟨rfl, hb1⟩
    go_wp2_with fail
    go_ret
    exact ⟨rfl, H.out.below hb1, hb1.mono hb⟩
  · rw [leafV_yes hv] at HL
    by_cases hc : c < 1
    · have e1 : addB l m x c = (m, 4) := by unfold addB; rw [if_neg (by simp [hv]), if_pos hc]
      rw [e1]
      clear e1
      go_enter Tryz.func69, Tryz.ntmps69
      go_wp2_with fail
      refine (HL.out _).mono ?_
      rintro e w1 ⟨rfl, hb1⟩
      go_wp2_with fail
      go_ret
      exact ⟨rfl, H.out.below hb1, hb1.mono hb⟩
    · have hcd : decide (c < 1) = false := by simpa using hc
      by_cases hs : 72057594037927935 < sumR m + c
      · have e1 : addB l m x c = (m, 5) := by unfold addB; rw [if_neg (by simp [hv]), if_neg hc, if_pos hs]
        rw [e1]
        rw [decide_eq_false (by omega : ¬ sumR m + c ≤ 72057594037927935)] at HR
        clear e1
        go_enter Tryz.func69, Tryz.ntmps69
        go_wp2_with fail
        refine (HL.out _).mono ?_
        rintro e w1 ⟨rfl, hb1⟩
        go_wp2_with fail
        refine (HR.out _ (H.out.below hb1) (by omega)).mono ?_
        rintro e w2 ⟨rfl, hb2⟩
        go_wp2_with fail
        go_ret
        exact ⟨rfl, (H.out.below hb1).below hb2, (hb1.mono hb).trans (hb2.mono (Nat.le_trans hb hb1.size))⟩
      · have e1 : addB l m x c = (addR m x c, 0) := by unfold addB; rw [if_neg (by simp [hv]), if_neg hc, if_neg hs]
        rw [e1]
        rw [decide_eq_true (by omega : sumR m + c ≤ 72057594037927935)] at HR
        clear e1
        go_enter Tryz.func69, Tryz.ntmps69
        go_wp2_with fail
        refine (HL.out _).mono ?_
        rintro e w1 ⟨rfl, hb1⟩
        go_wp2_with fail
        refine (HR.out _ (H.out.below hb1) (by omega)).mono ?_
        rintro e w2 ⟨rfl, hb2⟩
        have sz2 : base ≤ w2.heap.size := Nat.le_trans (Nat.le_trans hb hb1.size) hb2.size
        go_wp2_with fail
        refine (bag_put _ base g l m x c ((H.out.below hb1).below hb2) HM.out (by omega) (by omega) hlen sz2).mono ?_
        rintro e w3 ⟨rfl, hB3, hb3⟩
        go_wp2_with fail
        go_ret
        exact ⟨rfl, hB3, ((hb1.mono hb).trans (hb2.mono (Nat.le_trans hb hb1.size))).trans hb3⟩
end Go.Proofs.YtcjnchjmpkapmaaGreat
/- Reference 10: bags. -/
namespace Go.Proofs.YtcjnchjmpkapmaaGreat
open Go.ChangeShapes Go.WideShapes Go.ChangeAt Go.RowKit
set_option linter.unusedVariables false
set_option linter.unusedSimpArgs false
set_option maxRecDepth 100000

def bagV (l : Int) (A : Option Addr) (n cap : Nat) : Value := .agg #[.int .i64 l, .slice A n cap]
theorem sumV_take {m : List Nd} {q : Nat} (h : q < m.length) : sumR (m.take (q + 1)) = sumR (m.take q) + m[q].2 := by
  rw [List.take_succ_eq_append_getElem h, sumR_append]; simp [sumR]
theorem sumV_take_le {m : List Nd} (h : ∀ x ∈ m, 1 ≤ x.2) (q : Nat) : 0 ≤ sumR (m.take q) ∧ sumR (m.take q) ≤ sumR m := by
  have e1 : sumR m = sumR (m.take q) + sumR (m.drop q) := by rw [← sumR_append, List.take_append_drop]
  have e3 := (sumR_pos (m := m.drop q) fun y hy => h y (List.mem_of_mem_drop hy)).1
  have e4 := (sumR_pos (m := m.take q) fun y hy => h y (List.mem_of_mem_take hy)).1
  omega
theorem ref10_Total (w : World) (l : Int) (A : Option Addr) (cap : Nat) (m : List Nd) (hS : Sl w w.heap.size encN A m) (hv : ∀ x ∈ m, 1 ≤ x.2) (hs : sumR m ≤ 72057594037927935) :
    Calls Tryz.prog 33 #[bagV l A m.length cap] w fun e w' => e = .returned (.int .i64 (sumR m)) ∧ Below w.heap.size w w' := by
  have hml : (m.length : Int) ≤ 72057594037927935 := by have := (sumR_pos hv).2; omega
  have HS := Lib.hid hS
  have HV := Lib.hid hv
  clear hS hv
  unfold bagV
  have X0 : Hid ((w.alloc (.cells #[.int .i64 l, .slice A m.length cap] 31)).heap[w.heap.size]? = some (.cells #[.int .i64 l, .slice A m.length cap] 31 (0, 0))) := Lib.hid (heap_alloc_new w _)
  go_enter Tryz.func33, Tryz.ntmps33
  go_wp2_with fail
  go_loopw [3, 4] (fun n j wr => ∃ q : Nat, q ≤ m.length ∧ j = .int .i64 q ∧ n = .int .i64 (sumR (m.take q)) ∧ wr.heap[w.heap.size]? = some (.cells #[.int .i64 l, .slice A m.length cap] 31 (0, 0)) ∧ Below w.heap.size w wr) (fun _ j _ => m.length - (intOf j).toNat)
  case atStart => exact ⟨0, Nat.zero_le _, rfl, rfl, X0.out, (by repeat (first | with_reducible exact Below.refl _ _ | with_reducible assumption | ((with_reducible refine Below.setCell ?_ ?_ _); rotate_left; · (first | omega | exact Nat.le_refl _ | (simp <;> omega))) | (with_reducible refine Below.allocW ?_ _) | (with_reducible refine Below.drew ?_) | (with_reducible refine Below.extW ?_ _)))⟩
  case round =>
    obtain ⟨q, hq, rfl, rfl, hX, hB⟩ := hrel
    have c0 : wr.cell? ⟨w.heap.size, 1, none⟩ = some (.slice A m.length cap) := by rw [blk_cell hX]; rfl
    have z0 := lt_of_block hX
    have HX := Lib.hid hX
    clear hX
    by_cases hlt : q < m.length
    · have hE := Lib.hid (sumV_take hlt)
      obtain ⟨b, off, rfl, hb, hc⟩ := HS.out.at_ hlt
      have d0 := (hB.cell (p := ⟨b, off + q * 2 + 1, none⟩) hb).trans (hc 1 (.int .i64 m[q].2) rfl)
      have lb : b < wr.heap.size := Nat.lt_of_lt_of_le hb hB.size
      have v1 := HV.out _ (List.getElem_mem hlt)
      have s0 := (sumV_take_le HV.out q).1
      have s1 := (sumV_take_le HV.out (q + 1)).2
      rw [hE.out] at s1
      obtain ⟨c, hc1⟩ : ∃ c, c = m[q].2 := ⟨_, rfl⟩
      rw [← hc1] at d0 v1 s1 hE
      obtain ⟨n, hn⟩ : ∃ n, n = sumR (m.take q) := ⟨_, rfl⟩
      rw [← hn] at s0 s1 hE ⊢
      have hsum : n + c ≤ 72057594037927935 := by omega
      clear hc s1 hn
      go_wp2_with fail
      go_roundw
      case rel => exact ⟨q + 1, by omega, by go_num, by (rw [hE.out]; try go_num), HX.out, hB⟩
      case measure => simp [intOf]; omega
    · obtain rfl : q = m.length := by omega
      rw [List.take_length]
      go_wp2_with fail
      go_ret
      exact ⟨rfl, hB⟩
theorem betwB_take {m : List Nd} {q : Nat} (h : q < m.length) (x y : Int) : betwB (m.take (q + 1)) x y = betwB (m.take q) x y + if x ≤ m[q].1 ∧ m[q].1 ≤ y then m[q].2 else 0 := by
  rw [List.take_succ_eq_append_getElem h, betwB_append, betwB_one]
theorem ref10_Between (w : World) (l : Int) (A : Option Addr) (cap : Nat) (m : List Nd) (x y : Int) (hS : Sl w w.heap.size encN A m) (hv : ∀ x ∈ m, 1 ≤ x.2) (hs : sumR m ≤ 72057594037927935) :
    Calls Tryz.prog 45 #[bagV l A m.length cap, .int .i64 x, .int .i64 y] w fun e w' => e = .returned (.int .i64 (betwB m x y)) ∧ Below w.heap.size w w' := by
  have hml : (m.length : Int) ≤ 72057594037927935 := by have := (sumR_pos hv).2; omega
  have HS := Lib.hid hS
  have HV := Lib.hid hv
  clear hS hv
  unfold bagV
  have X0 : Hid ((w.alloc (.cells #[.int .i64 l, .slice A m.length cap] 31)).heap[w.heap.size]? = some (.cells #[.int .i64 l, .slice A m.length cap] 31 (0, 0))) := Lib.hid (heap_alloc_new w _)
  go_enter Tryz.func45, Tryz.ntmps45
  go_wp2_with fail
  go_loopw [7, 8] (fun n j wr => ∃ q : Nat, q ≤ m.length ∧ j = .int .i64 q ∧ n = .int .i64 (betwB (m.take q) x y) ∧ wr.heap[w.heap.size]? = some (.cells #[.int .i64 l, .slice A m.length cap] 31 (0, 0)) ∧ Below w.heap.size w wr) (fun _ j _ => m.length - (intOf j).toNat)
  case atStart => exact ⟨0, Nat.zero_le _, rfl, rfl, X0.out, (by repeat (first | with_reducible exact Below.refl _ _ | with_reducible assumption | ((with_reducible refine Below.setCell ?_ ?_ _); rotate_left; · (first | omega | exact Nat.le_refl _ | (simp <;> omega))) | (with_reducible refine Below.allocW ?_ _) | (with_reducible refine Below.drew ?_) | (with_reducible refine Below.extW ?_ _)))⟩
  case round =>
    obtain ⟨q, hq, rfl, rfl, hX, hB⟩ := hrel
    have c0 : wr.cell? ⟨w.heap.size, 1, none⟩ = some (.slice A m.length cap) := by rw [blk_cell hX]; rfl
    have z0 := lt_of_block hX
    have HX := Lib.hid hX
    clear hX
    by_cases hlt : q < m.length
    · have hE := Lib.hid (betwB_take hlt x y)
      obtain ⟨b, off, rfl, hb, hc⟩ := HS.out.at_ hlt
      have d0 := (hB.cell (p := ⟨b, off + q * 2 + 1, none⟩) hb).trans (hc 1 (.int .i64 m[q].2) rfl)
      have d1 := (hB.cell (p := ⟨b, off + q * 2, none⟩) hb).trans (by have := hc 0 (.int .i64 m[q].1) rfl; simpa using this)
      have lb : b < wr.heap.size := Nat.lt_of_lt_of_le hb hB.size
      have v1 := HV.out _ (List.getElem_mem hlt)
      have s0 := (betwB_le (m := m.take q) (fun u hu => HV.out u (List.mem_of_mem_take hu)) x y)
      have s1 := (sumV_take_le HV.out (q + 1)).2
      rw [sumV_take hlt] at s1
      obtain ⟨c, hc1⟩ : ∃ c, c = m[q].2 := ⟨_, rfl⟩
      obtain ⟨v, hv1⟩ : ∃ v, v = m[q].1 := ⟨_, rfl⟩
      rw [← hc1] at d0 v1 s1 hE
      rw [← hv1] at d1 hE
      obtain ⟨n, hn⟩ : ∃ n, n = betwB (m.take q) x y := ⟨_, rfl⟩
      rw [← hn] at s0 hE ⊢
      have n0 := s0.1
      have hsum : n + c ≤ 72057594037927935 := by have := s0.2; omega
      clear hc s0 s1 hn hc1 hv1
      by_cases k1 : x ≤ v
      · by_cases k2 : v ≤ y
        · rw [if_pos ⟨k1, k2⟩] at hE
          go_wp2_with fail
          go_roundw
          case rel => exact ⟨q + 1, by omega, by go_num, by (rw [hE.out]; try go_num), HX.out, hB⟩
          case measure => simp [intOf]; omega
        · rw [if_neg (by omega)] at hE
          have k2' : decide (v ≤ y) = false := by simpa using k2
          go_wp2_with fail
          go_roundw
          case rel => exact ⟨q + 1, by omega, by go_num, by rw [hE.out, Int.add_zero], HX.out, hB⟩
          case measure => simp [intOf]; omega
      · rw [if_neg (by omega)] at hE
        have k1' : decide (x ≤ v) = false := by simpa using k1
        go_wp2_with fail
        go_roundw
        case rel => exact ⟨q + 1, by omega, by go_num, by rw [hE.out, Int.add_zero], HX.out, hB⟩
        case measure => simp [intOf]; omega
    · obtain rfl : q = m.length := by omega
      rw [List.take_length]
      go_wp2_with fail
      go_ret
      exact ⟨rfl, hB⟩
theorem ref10_Rank (w : World) (l : Int) (A : Option Addr) (cap : Nat) (m : List Nd) (y : Int) (hS : Sl w w.heap.size encN A m) (hv : ∀ x ∈ m, 1 ≤ x.2) (hs : sumR m ≤ 72057594037927935) :
    Calls Tryz.prog 37 #[bagV l A m.length cap, .int .i64 y] w fun e w' => e = .returned (.int .i64 (betwB m 0 y)) ∧ Below w.heap.size w w' := by
  have HC := Lib.hid (fun W h => ref10_Between W l A cap m 0 y h hv hs)
  have BA : Below w.heap.size w (w.alloc (.cells #[.int .i64 l, .slice A m.length cap] 31)) := (by repeat (first | with_reducible exact Below.refl _ _ | with_reducible assumption | ((with_reducible refine Below.setCell ?_ ?_ _); rotate_left; · (first | omega | exact Nat.le_refl _ | (simp <;> omega))) | (with_reducible refine Below.allocW ?_ _) | (with_reducible refine Below.drew ?_) | (with_reducible refine Below.extW ?_ _)))
  have S1 := Lib.hid (hS.keep (B' := (w.alloc (.cells #[.int .i64 l, .slice A m.length cap] 31)).heap.size) BA.size fun p hp => BA.cell hp)
  clear hS hv hs BA
  unfold bagV at HC ⊢
  go_enter Tryz.func37, Tryz.ntmps37
  go_wp2_with fail
  refine (HC.out _ S1.out).mono ?_
  rintro e w1 ⟨rfl, hb1⟩
  have B1 : Below w.heap.size w w1 := Below.then_ (by repeat (first | with_reducible exact Below.refl _ _ | with_reducible assumption | ((with_reducible refine Below.setCell ?_ ?_ _); rotate_left; · (first | omega | exact Nat.le_refl _ | (simp <;> omega))) | (with_reducible refine Below.allocW ?_ _) | (with_reducible refine Below.drew ?_) | (with_reducible refine Below.extW ?_ _))) hb1
  have s1 : w.heap.size ≤ w1.heap.size := B1.size
  have z1_0 : w.heap.size < w1.heap.size := by have := hb1.size; (try simp at this); omega
  have y1_0 : w.heap.size ≤ w1.heap.size := Nat.le_of_lt z1_0
  have c1_0 := fun o => hb1.cell (p := ⟨w.heap.size, o, none⟩) (by first | omega | (simp <;> omega))
  have f1_0 := fun o => hb1.frozen (p := ⟨w.heap.size, o, none⟩) (by first | omega | (simp <;> omega))
  go_wp2_with fail
  go_ret
  exact ⟨rfl, (by repeat (first | with_reducible exact Below.refl _ _ | with_reducible assumption | ((with_reducible refine Below.setCell ?_ ?_ _); rotate_left; · (first | omega | exact Nat.le_refl _ | (simp <;> omega))) | (with_reducible refine Below.allocW ?_ _) | (with_reducible refine Below.drew ?_) | (with_reducible refine Below.extW ?_ _)))⟩
end Go.Proofs.YtcjnchjmpkapmaaGreat
/- Reference 10: put. -/
namespace Go.Proofs.YtcjnchjmpkapmaaGreat
open Go.ChangeShapes Go.WideShapes Go.ChangeAt Go.RowKit
set_option linter.unusedVariables false
set_option linter.unusedSimpArgs false
set_option maxRecDepth 100000

def putL : List Nd → Int → Int → Bool → List Nd
  | [], x, c, d => if d = true then [] else [(x, c)]
  | z :: m, x, c, d => if z.1 = x then (z.1, z.2 + c) :: putL m x c true else if x < z.1 ∧ d = false then (x, c) :: z :: putL m x c true else z :: putL m x c d
theorem putL_done {m : List Nd} {x : Int} (h : ∀ z ∈ m, x < z.1) (c : Int) : putL m x c true = m := by
  induction m with
  | nil => rfl
  | cons z m ih =>
    have := h z (by simp)
    simp only [putL]
    rw [if_neg (by omega : ¬ z.1 = x), if_neg (by simp : ¬ (x < z.1 ∧ true = false)), ih fun y hy => h y (by simp [hy])]
theorem putL_addR {m : List Nd} (hup : m.Pairwise fun a b => a.1 < b.1) (x c : Int) : putL m x c false = addR m x c := by
  induction m with
  | nil => rfl
  | cons z m ih =>
    obtain ⟨u1, u2⟩ := List.pairwise_cons.1 hup
    simp only [putL, addR]
    by_cases h1 : z.1 = x
    · rw [if_pos h1, if_pos h1, putL_done (fun y hy => by have := u1 y hy; omega)]; rw [h1]
    · rw [if_neg h1, if_neg h1]
      by_cases h2 : x < z.1
      · rw [if_pos (show x < z.1 ∧ True from ⟨h2, trivial⟩), if_pos h2, putL_done fun y hy => by have := u1 y hy; omega]
      · rw [if_neg (by omega), if_neg h2, ih u2]
theorem putL_eq {z : Nd} {x c : Int} {d : Bool} {L m : List Nd} (h : z.1 = x) : L ++ putL (z :: m) x c d = (L ++ [(z.1, z.2 + c)]) ++ putL m x c true := by simp [putL, h]
theorem putL_new {z : Nd} {x c : Int} {L m : List Nd} (h : x < z.1) : L ++ putL (z :: m) x c false = ((L ++ [(x, c)]) ++ [z]) ++ putL m x c true := by
  simp only [putL]
  rw [if_neg (by omega : ¬ z.1 = x), if_pos (show x < z.1 ∧ True from ⟨h, trivial⟩)]; simp
theorem putL_old {z : Nd} {x c : Int} {d : Bool} {L m : List Nd} (h1 : z.1 ≠ x) (h2 : ¬ (x < z.1 ∧ d = false)) : L ++ putL (z :: m) x c d = (L ++ [z]) ++ putL m x c d := by
  simp only [putL]
  rw [if_neg h1, if_neg h2]; simp
set_option maxHeartbeats 8000000 in
theorem ref10_put (w : World) (l : Int) (A : Option Addr) (cap : Nat) (m : List Nd) (x c : Int) (hS : Sl w w.heap.size encN A m) (hup : m.Pairwise fun a b => a.1 < b.1) (hv : ∀ x ∈ m, 1 ≤ x.2) (hc : 1 ≤ c) (hs : sumR m + c ≤ 72057594037927935) (hlen : m.length ≤ 65536) :
    Calls Tryz.prog 94 #[bagV l A m.length cap, .int .i64 x, .int .i64 c] w fun e w' => ∃ A' cap', e = .returned (bagV l A' (addR m x c).length cap') ∧ SlT w' 96 encN A' (addR m x c) ∧ Below w.heap.size w w' := by
  have HS := Lib.hid hS
  have HV := Lib.hid hv
  have HA := Lib.hid (putL_addR hup x c)
  have HN := Lib.hid hs
  clear hS hv hup
  unfold bagV
  have X0 : Hid (((w.alloc (.cells #[.int .i64 l, .slice A m.length cap] 31)).alloc (.cells #[.int .i64 0, .slice none 0 0] 31)).heap[w.heap.size]? = some (.cells #[.int .i64 l, .slice A m.length cap] 31 (0, 0))) := Lib.hid ((heap_new_lt _ _ _ (by simp)).trans (heap_alloc_new w _))
  have X1 : Hid (((w.alloc (.cells #[.int .i64 l, .slice A m.length cap] 31)).alloc (.cells #[.int .i64 0, .slice none 0 0] 31)).heap[w.heap.size + 1]? = some (.cells #[.int .i64 0, .slice none 0 0] 31 (0, 0))) := Lib.hid (heap_new_at (w.alloc _) _ _ (by simp))
  have BW0 : Hid (Below w.heap.size w ((w.alloc (.cells #[.int .i64 l, .slice A m.length cap] 31)).alloc (.cells #[.int .i64 0, .slice none 0 0] 31))) := Lib.hid (by repeat (first | with_reducible exact Below.refl _ _ | with_reducible assumption | ((with_reducible refine Below.setCell ?_ ?_ _); rotate_left; · (first | omega | exact Nat.le_refl _ | (simp <;> omega))) | (with_reducible refine Below.allocW ?_ _) | (with_reducible refine Below.drew ?_) | (with_reducible refine Below.extW ?_ _)))
  have Z0 : Hid (((w.alloc (.cells #[.int .i64 l, .slice A m.length cap] 31)).alloc (.cells #[.int .i64 0, .slice none 0 0] 31)).heap.size = w.heap.size + 1 + 1) := Lib.hid (by simp)
  go_enter Tryz.func94, Tryz.ntmps94
  go_upto_region 1 with fail
  generalize (w.alloc (.cells #[.int .i64 l, .slice A m.length cap] 31)).alloc (.cells #[.int .i64 0, .slice none 0 0] 31) = W0 at X0 X1 BW0 Z0 ⊢
  have S0 := Lib.hid (HS.out.keep (B' := W0.heap.size) BW0.out.size fun p hp => BW0.out.cell hp)
  clear HS
  go_wp2_with fail
  go_loopw [7, 8, 9] (fun o d j wr => ∃ (q : Nat) (L : List Nd) (f : Bool), q ≤ m.length ∧ j = .int .i64 q ∧ d = .bool f ∧ Own wr W0.heap.size 96 encN o L ∧ L ++ putL (m.drop q) x c f = addR m x c ∧ L.length ≤ 2 * q ∧ Below W0.heap.size W0 wr) (fun _ _ j _ => m.length - (intOf j).toNat)
  case atStart => exact ⟨0, [], false, Nat.zero_le _, rfl, rfl, .nil _ _ _ _, HA.out, by simp, Below.refl _ _⟩
  case round =>
    obtain ⟨q, L, f, hq, rfl, rfl, ho, hL, hLl, hB⟩ := hrel
    obtain ⟨Ao, co, rfl, _⟩ := ho.form
    have hX := blk_below X0.out hB
    have c0 : wr.cell? ⟨w.heap.size, 1, none⟩ = some (.slice A m.length cap) := by rw [blk_cell hX]; rfl
    have c00 : wr.cell? ⟨w.heap.size, 0, none⟩ = some (.int .i64 l) := by rw [blk_cell hX]; rfl
    have z0 := lt_of_block hX
    have HO := Lib.hid ho
    have HL := Lib.hid hL
    have SZ := Lib.hid hB.size
    clear hX ho hL
    by_cases hlt : q < m.length
    · have hE := HL.out
      rw [List.drop_eq_getElem_cons hlt] at hE
      obtain ⟨b, off, rfl, hb, hc2⟩ := S0.out.at_ hlt
      have d0 := (hB.cell (p := ⟨b, off + q * 2 + 1, none⟩) hb).trans (hc2 1 (.int .i64 m[q].2) rfl)
      have d1 := (hB.cell (p := ⟨b, off + q * 2, none⟩) hb).trans (by have := hc2 0 (.int .i64 m[q].1) rfl; simpa using this)
      have lb : b < wr.heap.size := Nat.lt_of_lt_of_le hb hB.size
      have v1 := HV.out _ (List.getElem_mem hlt)
      have s1 : m[q].2 + c ≤ 72057594037927935 := by have := sum_part HV.out hlt; have := HN.out; omega
      obtain ⟨y, hy⟩ : ∃ y : Nd, y = m[q] := ⟨_, rfl⟩
      rw [← hy] at d0 d1 v1 s1 hE
      obtain ⟨u, v⟩ := y
      simp only at d0 d1 v1 s1
      clear hc2 hy
      by_cases k1 : u = x
      · subst k1
        rw [putL_eq rfl] at hE
        have HE := Lib.hid hE
        clear hE
        have sz := SZ.out
        have OA := Lib.hid (HO.out.alloc (.cells #[.int .i64 u, .int .i64 (v + c)] 96))
        have BM := Lib.hid (show Below W0.heap.size W0 (wr.alloc (.cells #[.int .i64 u, .int .i64 (v + c)] 96)) from (by repeat (first | with_reducible exact Below.refl _ _ | with_reducible assumption | ((with_reducible refine Below.setCell ?_ ?_ _); rotate_left; · (first | omega | exact Nat.le_refl _ | (simp <;> omega))) | (with_reducible refine Below.allocW ?_ _) | (with_reducible refine Below.drew ?_) | (with_reducible refine Below.extW ?_ _))))
        have wfu : (decide (u ≤ u)) = true := by simp
        go_wp2_with ((at_builtin; refine wpList_push tyRd rfl _ _ rfl encN (wr.alloc (.cells #[.int .i64 u, .int .i64 (v + c)] 96)) W0.heap.size (.slice Ao L.length co) L rfl OA.out (u, v + c) (by go_simp) rfl ?c1 ?c2 ?c3 ?c4))
        case c1 => (try simp only [List.length_append, List.length_cons, List.length_nil]); omega
        case c2 => (try simp only [maxLen, List.length_append, List.length_cons, List.length_nil]); omega
        case c3 => (try simp [World.setCell]); omega
        case c4 =>
          intro v5 w5 ho5 _ _ _ hb5 _
          have H5 := Lib.hid (And.intro ho5 hb5)
          clear ho5 hb5
          go_wp2_with fail
          go_roundw
          case rel => exact ⟨q + 1, L ++ [(u, v + c)], true, by omega, by go_num, rfl, H5.out.1, HE.out, by simp; omega, BM.out.trans H5.out.2⟩
          case measure => simp [intOf]; omega
      · have k1' : (u == x) = false := by simpa using k1
        have sz := SZ.out
        have OA := Lib.hid (HO.out.alloc (.cells #[.int .i64 u, .int .i64 v] 96))
        have BM := Lib.hid (show Below W0.heap.size W0 (wr.alloc (.cells #[.int .i64 u, .int .i64 v] 96)) from (by repeat (first | with_reducible exact Below.refl _ _ | with_reducible assumption | ((with_reducible refine Below.setCell ?_ ?_ _); rotate_left; · (first | omega | exact Nat.le_refl _ | (simp <;> omega))) | (with_reducible refine Below.allocW ?_ _) | (with_reducible refine Below.drew ?_) | (with_reducible refine Below.extW ?_ _))))
        by_cases k2 : x < u
        · cases f
          · rw [putL_new k2] at hE
            have HE := Lib.hid hE
            clear hE
            go_wp2_with ((at_builtin; refine wpList_push tyRd rfl _ _ rfl encN (wr.alloc (.cells #[.int .i64 u, .int .i64 v] 96)) W0.heap.size (.slice Ao L.length co) L rfl OA.out (x, c) (by go_simp) rfl ?c1 ?c2 ?c3 ?c4))
            case c1 => (try simp only [List.length_append, List.length_cons, List.length_nil]); omega
            case c2 => (try simp only [maxLen, List.length_append, List.length_cons, List.length_nil]); omega
            case c3 => (try simp [World.setCell]); omega
            case c4 =>
              intro v5 w5 ho5 hg5 hs5 _ hb5 _
              obtain ⟨A5, c5, rfl, _⟩ := ho5.form
              have hy5 := blk_grown_not (heap_alloc_new wr (.cells #[.int .i64 u, .int .i64 v] 96)) hg5 (HO.out.not_at _ (Nat.le_refl _))
              have cy5 := blk_cell hy5
              have zy5 := lt_of_block hy5
              have O5 := Lib.hid ho5
              have B5 := Lib.hid (BM.out.trans hb5)
              have s5 := B5.out.size
              clear ho5 hg5 hb5
              go_wp2_with ((at_builtin; refine wpList_push tyRd rfl _ _ rfl encN w5 W0.heap.size (.slice A5 (L ++ [(x, c)]).length c5) (L ++ [(x, c)]) rfl O5.out (u, v) (by go_simp) rfl ?c1 ?c2 ?c3 ?c4))
              case c1 => (try simp only [List.length_append, List.length_cons, List.length_nil]); omega
              case c2 => (try simp only [maxLen, List.length_append, List.length_cons, List.length_nil]); omega
              case c3 => (try simp [World.setCell]); omega
              case c4 =>
                intro v6 w6 ho6 _ _ _ hb6 _
                have H6 := Lib.hid (And.intro ho6 hb6)
                clear ho6 hb6
                go_wp2_with fail
                go_roundw
                case rel => exact ⟨q + 1, L ++ [(x, c), (u, v)], true, by omega, by go_num, rfl, H6.out.1, by have := HE.out; simpa using this, by simp; omega, B5.out.trans H6.out.2⟩
                case measure => simp [intOf]; omega
          · rw [putL_old k1 (by simp)] at hE
            have HE := Lib.hid hE
            clear hE
            go_wp2_with ((at_builtin; refine wpList_push tyRd rfl _ _ rfl encN (wr.alloc (.cells #[.int .i64 u, .int .i64 v] 96)) W0.heap.size (.slice Ao L.length co) L rfl OA.out (u, v) (by go_simp) rfl ?c1 ?c2 ?c3 ?c4))
            case c1 => (try simp only [List.length_append, List.length_cons, List.length_nil]); omega
            case c2 => (try simp only [maxLen, List.length_append, List.length_cons, List.length_nil]); omega
            case c3 => (try simp [World.setCell]); omega
            case c4 =>
              intro v5 w5 ho5 _ _ _ hb5 _
              have H5 := Lib.hid (And.intro ho5 hb5)
              clear ho5 hb5
              go_wp2_with fail
              go_roundw
              case rel => exact ⟨q + 1, L ++ [(u, v)], true, by omega, by go_num, rfl, H5.out.1, HE.out, by simp; omega, BM.out.trans H5.out.2⟩
              case measure => simp [intOf]; omega
        · rw [putL_old k1 (by omega)] at hE
          have k2' : decide (x < u) = false := by simpa using k2
          have HE := Lib.hid hE
          clear hE
          go_wp2_with ((at_builtin; refine wpList_push tyRd rfl _ _ rfl encN (wr.alloc (.cells #[.int .i64 u, .int .i64 v] 96)) W0.heap.size (.slice Ao L.length co) L rfl OA.out (u, v) (by go_simp) rfl ?c1 ?c2 ?c3 ?c4))
          case c1 => (try simp only [List.length_append, List.length_cons, List.length_nil]); omega
          case c2 => (try simp only [maxLen, List.length_append, List.length_cons, List.length_nil]); omega
          case c3 => (try simp [World.setCell]); omega
          case c4 =>
            intro v5 w5 ho5 _ _ _ hb5 _
            have H5 := Lib.hid (And.intro ho5 hb5)
            clear ho5 hb5
            go_wp2_with fail
            go_roundw
            case rel => exact ⟨q + 1, L ++ [(u, v)], f, by omega, by go_num, rfl, H5.out.1, HE.out, by simp; omega, BM.out.trans H5.out.2⟩
            case measure => simp [intOf]; omega
    · obtain rfl : q = m.length := by omega
      have hE := HL.out
      rw [List.drop_length] at hE
      have sz := SZ.out
      have hX1 := blk_below X1.out hB
      have c3 := blk_cell hX1
      have f3 := blk_frozen hX1
      have z3 := lt_of_block hX1
      have X1c := Lib.hid hX1
      have XC := Lib.hid (blk_below X0.out hB)
      have HB := Lib.hid (BW0.out.trans (hB.mono BW0.out.size))
      cases f
      · simp only [putL, Bool.false_eq_true, if_false] at hE
        have HE := Lib.hid hE
        clear hE hX1
        go_wp2_with ((at_builtin; refine wpList_push tyRd rfl _ _ rfl encN wr W0.heap.size (.slice Ao L.length co) L rfl HO.out (x, c) (by go_simp) rfl ?c1 ?c2 ?c3 ?c4))
        case c1 => (try simp only [List.length_append, List.length_cons, List.length_nil]); omega
        case c2 => (try simp only [maxLen, List.length_append, List.length_cons, List.length_nil]); omega
        case c3 => (try simp [World.setCell]); omega
        case c4 =>
          intro v5 w5 ho5 hg5 hs5 _ hb5 _
          obtain ⟨A5, cc5, rfl, _⟩ := ho5.form
          rw [HE.out] at ho5 ⊢
          have O5 := Lib.hid ho5
          have hX5 : w5.heap[w.heap.size + 1]? = _ := (hb5.block _ (by have := Z0.out; omega)).trans X1c.out
          have hX0 : w5.heap[w.heap.size]? = _ := (hb5.block _ (by have := Z0.out; omega)).trans XC.out
          have c5 := blk_cell hX5
          have f5 := blk_frozen hX5
          have z5 := lt_of_block hX5
          have c50 : w5.cell? ⟨w.heap.size, 0, none⟩ = some (.int .i64 l) := by rw [blk_cell hX0]; rfl
          have B5 := Lib.hid (HB.out.trans (hb5.mono (by have := Z0.out; omega)))
          clear c0 c00 c3 f3 z3 z0 ho5 hg5 hs5 hb5 hX5 hX0
          go_wp2_with fail
          exact bodyPost_ret (v := .agg #[.int .i64 l, .slice A5 (addR m x c).length cc5]) (by simp only [results, Tryz.results94]; go_simp) rfl ⟨_, _, rfl, (((O5.out.setCellB (p := ⟨w.heap.size + 1, 0, none⟩) (by have := Z0.out; simp only; omega)).setCellB (p := ⟨w.heap.size + 1, 1, none⟩) (by have := Z0.out; simp only; omega)).slT), Below.setCell (p := ⟨w.heap.size + 1, 1, none⟩) (Below.setCell (p := ⟨w.heap.size + 1, 0, none⟩) B5.out (by simp) _) (by simp) _⟩
      · simp only [putL, if_true, List.append_nil] at hE
        subst hE
        go_wp2_with fail
        exact bodyPost_ret (v := .agg #[.int .i64 l, .slice Ao (addR m x c).length co]) (by simp only [results, Tryz.results94]; go_simp) rfl ⟨_, _, rfl, (((HO.out.setCellB (p := ⟨w.heap.size + 1, 0, none⟩) (by have := Z0.out; simp only; omega)).setCellB (p := ⟨w.heap.size + 1, 1, none⟩) (by have := Z0.out; simp only; omega)).slT), Below.setCell (p := ⟨w.heap.size + 1, 1, none⟩) (Below.setCell (p := ⟨w.heap.size + 1, 0, none⟩) HB.out (by simp) _) (by simp) _⟩
end Go.Proofs.YtcjnchjmpkapmaaGreat
/- Reference 10: Add. -/
namespace Go.Proofs.YtcjnchjmpkapmaaGreat
open Go.ChangeShapes Go.WideShapes Go.ChangeAt Go.RowKit
set_option linter.unusedVariables false
set_option linter.unusedSimpArgs false
set_option maxRecDepth 100000

set_option maxHeartbeats 4000000 in
theorem ref10_Add (w : World) (l : Nat) (A : Option Addr) (cap : Nat) (m : List Nd) (x c : Int) (hl : 1 ≤ l ∧ l ≤ 48) (hS : SlT w 96 encN A m) (hm : BagL l m) (hlen : m.length ≤ 65536) (hc2 : c ≤ 9223372036854775807) :
    Calls Tryz.prog 89 #[bagV l A m.length cap, .int .i64 x, .int .i64 c] w fun e w' => ∃ A' cap', e = .returned (.tuple #[bagV l A' (addB l m x c).1.length cap', .int .i64 (addB l m x c).2]) ∧ SlT w' 96 encN A' (addB l m x c).1 ∧ Below w.heap.size w w' := by
  have HS := Lib.hid hS
  have HP := Lib.hid (fun W => ref2_Power W l (by omega))
  have hval : ∀ x ∈ m, 1 ≤ x.2 := fun y hy => (hm.val y hy).2.2
  have HT := Lib.hid (fun W h => ref10_Total W l A cap m h hval hm.sum)
  have hsum := hm.sum
  have hsum0 := hm.sum0
  have HU := Lib.hid hm.up
  have HVAL := Lib.hid hval
  unfold bagV at HT ⊢
  clear hS hval hm
  have X0 : Hid (((w.alloc (.cells #[.int .i64 l, .slice A m.length cap] 31)).alloc (.cells #[.int .i64 0, .slice none 0 0] 31)).heap[w.heap.size]? = some (.cells #[.int .i64 l, .slice A m.length cap] 31 (0, 0))) := Lib.hid ((heap_new_lt _ _ _ (by simp)).trans (heap_alloc_new w _))
  have X1 : Hid (((w.alloc (.cells #[.int .i64 l, .slice A m.length cap] 31)).alloc (.cells #[.int .i64 0, .slice none 0 0] 31)).heap[w.heap.size + 1]? = some (.cells #[.int .i64 0, .slice none 0 0] 31 (0, 0))) := Lib.hid (heap_new_at (w.alloc _) _ _ (by simp))
  have BW0 : Hid (Below w.heap.size w ((w.alloc (.cells #[.int .i64 l, .slice A m.length cap] 31)).alloc (.cells #[.int .i64 0, .slice none 0 0] 31))) := Lib.hid (by repeat (first | with_reducible exact Below.refl _ _ | with_reducible assumption | ((with_reducible refine Below.setCell ?_ ?_ _); rotate_left; · (first | omega | exact Nat.le_refl _ | (simp <;> omega))) | (with_reducible refine Below.allocW ?_ _) | (with_reducible refine Below.drew ?_) | (with_reducible refine Below.extW ?_ _)))
  have Z0 : Hid (((w.alloc (.cells #[.int .i64 l, .slice A m.length cap] 31)).alloc (.cells #[.int .i64 0, .slice none 0 0] 31)).heap.size = w.heap.size + 1 + 1) := Lib.hid (by simp)
  obtain ⟨p, hp⟩ : ∃ p : Int, p = 2 ^ l := ⟨_, rfl⟩
  have hv : isVal l x = (decide (0 ≤ x) && decide (x < p)) := by unfold isVal; rw [hp]
  rw [← hp] at HP
  have KS : Hid (∀ W', Below w.heap.size w W' → SlT W' 96 encN A m) := Lib.hid fun W' hb => HS.out.below hb
  have cd : c < 1 ∨ decide (c < 1) = false := by
    by_cases h : c < 1
    · exact .inl h
    · exact .inr (decide_eq_false h)
  by_cases h1 : x < 0
  · have e1 : addB l m x c = (m, 3) := by unfold addB; rw [if_pos (by rw [hv]; simp; omega)]
    rw [e1]
    clear e1 hv hp
    go_enter Tryz.func89, Tryz.ntmps89
    go_wp2_with fail
    exact bodyPost_ret (v := .tuple #[.agg #[.int .i64 l, .slice A m.length cap], .int .i64 3]) (by simp only [results, Tryz.results89]; go_simp) rfl ⟨A, cap, rfl, KS.out _ (by repeat (first | with_reducible exact Below.refl _ _ | with_reducible assumption | ((with_reducible refine Below.setCell ?_ ?_ _); rotate_left; · (first | omega | exact Nat.le_refl _ | (simp <;> omega))) | (with_reducible refine Below.allocW ?_ _) | (with_reducible refine Below.drew ?_) | (with_reducible refine Below.extW ?_ _))), (by repeat (first | with_reducible exact Below.refl _ _ | with_reducible assumption | ((with_reducible refine Below.setCell ?_ ?_ _); rotate_left; · (first | omega | exact Nat.le_refl _ | (simp <;> omega))) | (with_reducible refine Below.allocW ?_ _) | (with_reducible refine Below.drew ?_) | (with_reducible refine Below.extW ?_ _)))⟩
  · have h1' : decide (x < 0) = false := by simpa using h1
    by_cases h2 : p ≤ x
    · have e1 : addB l m x c = (m, 3) := by unfold addB; rw [if_pos (by rw [hv]; simp; omega)]
      rw [e1]
      clear e1 hv hp
      go_enter Tryz.func89, Tryz.ntmps89
      go_upto_region 1 with fail
      generalize (w.alloc (.cells #[.int .i64 l, .slice A m.length cap] 31)).alloc (.cells #[.int .i64 0, .slice none 0 0] 31) = W0 at X0 X1 BW0 Z0 ⊢
      have c0 := blk_cell X0.out
      have z0 := lt_of_block X0.out
      go_wp2_with fail
      refine (HP.out _).mono ?_
      rintro e w1 ⟨rfl, hb1⟩
      have Y0 := blk_below X0.out hb1
      have Y1 := blk_below X1.out hb1
      have B1 := Lib.hid (BW0.out.trans (hb1.mono BW0.out.size))
      have hz1 : w.heap.size + 1 + 1 ≤ w1.heap.size := by have := hb1.size; have := Z0.out; omega
      clear c0 z0 X0 X1 hb1
      have c1 : w1.cell? ⟨w.heap.size, 0, none⟩ = some (.int .i64 l) := by rw [blk_cell Y0]; rfl
      have c2 : w1.cell? ⟨w.heap.size, 1, none⟩ = some (.slice A m.length cap) := by rw [blk_cell Y0]; rfl
      have z1 := lt_of_block Y0
      have d1 := blk_cell Y1
      have f1 := blk_frozen Y1
      have z2 := lt_of_block Y1
      go_wp2_with fail
      exact bodyPost_ret (v := .tuple #[.agg #[.int .i64 l, .slice A m.length cap], .int .i64 3]) (by simp only [results, Tryz.results89]; go_simp) rfl ⟨A, cap, rfl, KS.out _ (Below.setCell (p := ⟨w.heap.size + 1, 1, none⟩) (Below.setCell (p := ⟨w.heap.size + 1, 0, none⟩) B1.out (by simp) _) (by simp) _), (Below.setCell (p := ⟨w.heap.size + 1, 1, none⟩) (Below.setCell (p := ⟨w.heap.size + 1, 0, none⟩) B1.out (by simp) _) (by simp) _)⟩
    · have h2' : decide (p ≤ x) = false := by simpa using h2
      have hv1 : isVal l x = true := by rw [hv]; simp; omega
      have HV1 := Lib.hid (show ¬ (isVal l x = false) by simp [hv1])
      clear hv hp hv1
      rcases cd with h3 | h3
      · have e1 : addB l m x c = (m, 4) := by unfold addB; rw [if_neg HV1.out, if_pos h3]
        rw [e1]
        clear e1
        go_enter Tryz.func89, Tryz.ntmps89
        go_upto_region 1 with fail
        generalize (w.alloc (.cells #[.int .i64 l, .slice A m.length cap] 31)).alloc (.cells #[.int .i64 0, .slice none 0 0] 31) = W0 at X0 X1 BW0 Z0 ⊢
        have c0 := blk_cell X0.out
        have z0 := lt_of_block X0.out
        go_wp2_with fail
        refine (HP.out _).mono ?_
        rintro e w1 ⟨rfl, hb1⟩
        have Y0 := blk_below X0.out hb1
        have Y1 := blk_below X1.out hb1
        have B1 := Lib.hid (BW0.out.trans (hb1.mono BW0.out.size))
        have hz1 : w.heap.size + 1 + 1 ≤ w1.heap.size := by have := hb1.size; have := Z0.out; omega
        clear c0 z0 X0 X1 hb1
        have c1 : w1.cell? ⟨w.heap.size, 0, none⟩ = some (.int .i64 l) := by rw [blk_cell Y0]; rfl
        have c2 : w1.cell? ⟨w.heap.size, 1, none⟩ = some (.slice A m.length cap) := by rw [blk_cell Y0]; rfl
        have z1 := lt_of_block Y0
        have d1 := blk_cell Y1
        have f1 := blk_frozen Y1
        have z2 := lt_of_block Y1
        go_wp2_with fail
        exact bodyPost_ret (v := .tuple #[.agg #[.int .i64 l, .slice A m.length cap], .int .i64 4]) (by simp only [results, Tryz.results89]; go_simp) rfl ⟨A, cap, rfl, KS.out _ (Below.setCell (p := ⟨w.heap.size + 1, 1, none⟩) (Below.setCell (p := ⟨w.heap.size + 1, 0, none⟩) B1.out (by simp) _) (by simp) _), (Below.setCell (p := ⟨w.heap.size + 1, 1, none⟩) (Below.setCell (p := ⟨w.heap.size + 1, 0, none⟩) B1.out (by simp) _) (by simp) _)⟩
      · have h3' : ¬ c < 1 := by simpa using h3
        by_cases h4 : 72057594037927935 < sumR m + c
        · have e1 : addB l m x c = (m, 5) := by unfold addB; rw [if_neg HV1.out, if_neg h3', if_pos h4]
          rw [e1]
          clear e1
          obtain ⟨n, hn⟩ : ∃ n, n = sumR m := ⟨_, rfl⟩
          rw [← hn] at HT hsum hsum0 h4
          have h4' : 72057594037927935 - n < c := by omega
          clear hn h4
          go_enter Tryz.func89, Tryz.ntmps89
          go_upto_region 1 with fail
          generalize (w.alloc (.cells #[.int .i64 l, .slice A m.length cap] 31)).alloc (.cells #[.int .i64 0, .slice none 0 0] 31) = W0 at X0 X1 BW0 Z0 ⊢
          have c0 := blk_cell X0.out
          have z0 := lt_of_block X0.out
          go_wp2_with fail
          refine (HP.out _).mono ?_
          rintro e w1 ⟨rfl, hb1⟩
          have Y0 := blk_below X0.out hb1
          have Y1 := blk_below X1.out hb1
          have B1 := Lib.hid (BW0.out.trans (hb1.mono BW0.out.size))
          have hz1 : w.heap.size + 1 + 1 ≤ w1.heap.size := by have := hb1.size; have := Z0.out; omega
          clear c0 z0 X0 X1 hb1
          have c1 : w1.cell? ⟨w.heap.size, 0, none⟩ = some (.int .i64 l) := by rw [blk_cell Y0]; rfl
          have c2 : w1.cell? ⟨w.heap.size, 1, none⟩ = some (.slice A m.length cap) := by rw [blk_cell Y0]; rfl
          have z1 := lt_of_block Y0
          have d1 := blk_cell Y1
          have f1 := blk_frozen Y1
          have z2 := lt_of_block Y1
          go_wp2_with fail
          refine (HT.out _ (KS.out _ B1.out).sl).mono ?_
          rintro e w2 ⟨rfl, hb2⟩
          have Y0' := blk_below Y0 hb2
          have Y1' := blk_below Y1 hb2
          have B2 := Lib.hid (B1.out.trans (hb2.mono B1.out.size))
          have hz2 : w.heap.size + 1 + 1 ≤ w2.heap.size := by have := hb2.size; omega
          clear c1 c2 z1 d1 f1 z2 Y0 Y1
          have c1 : w2.cell? ⟨w.heap.size, 0, none⟩ = some (.int .i64 l) := by rw [blk_cell Y0']; rfl
          have c2 : w2.cell? ⟨w.heap.size, 1, none⟩ = some (.slice A m.length cap) := by rw [blk_cell Y0']; rfl
          have z1 := lt_of_block Y0'
          have d1 := blk_cell Y1'
          have f1 := blk_frozen Y1'
          have z2 := lt_of_block Y1'
          go_wp2_with fail
          exact bodyPost_ret (v := .tuple #[.agg #[.int .i64 l, .slice A m.length cap], .int .i64 5]) (by simp only [results, Tryz.results89]; go_simp) rfl ⟨A, cap, rfl, KS.out _ (Below.setCell (p := ⟨w.heap.size + 1, 1, none⟩) (Below.setCell (p := ⟨w.heap.size + 1, 0, none⟩) B2.out (by simp) _) (by simp) _), (Below.setCell (p := ⟨w.heap.size + 1, 1, none⟩) (Below.setCell (p := ⟨w.heap.size + 1, 0, none⟩) B2.out (by simp) _) (by simp) _)⟩
        · have e1 : addB l m x c = (addR m x c, 0) := by unfold addB; rw [if_neg HV1.out, if_neg h3', if_neg h4]
          rw [e1]
          clear e1
          have HPut := Lib.hid (fun W h => ref10_put W l A cap m x c h HU.out HVAL.out (by omega) (by omega) hlen)
          unfold bagV at HPut
          obtain ⟨n, hn⟩ : ∃ n, n = sumR m := ⟨_, rfl⟩
          rw [← hn] at HT hsum hsum0 h4
          have h4' : decide (72057594037927935 - n < c) = false := by simp; omega
          clear hn h4
          go_enter Tryz.func89, Tryz.ntmps89
          go_upto_region 1 with fail
          generalize (w.alloc (.cells #[.int .i64 l, .slice A m.length cap] 31)).alloc (.cells #[.int .i64 0, .slice none 0 0] 31) = W0 at X0 X1 BW0 Z0 ⊢
          have c0 := blk_cell X0.out
          have z0 := lt_of_block X0.out
          go_wp2_with fail
          refine (HP.out _).mono ?_
          rintro e w1 ⟨rfl, hb1⟩
          have Y0 := blk_below X0.out hb1
          have Y1 := blk_below X1.out hb1
          have B1 := Lib.hid (BW0.out.trans (hb1.mono BW0.out.size))
          have hz1 : w.heap.size + 1 + 1 ≤ w1.heap.size := by have := hb1.size; have := Z0.out; omega
          clear c0 z0 X0 X1 hb1
          have c1 : w1.cell? ⟨w.heap.size, 0, none⟩ = some (.int .i64 l) := by rw [blk_cell Y0]; rfl
          have c2 : w1.cell? ⟨w.heap.size, 1, none⟩ = some (.slice A m.length cap) := by rw [blk_cell Y0]; rfl
          have z1 := lt_of_block Y0
          have d1 := blk_cell Y1
          have f1 := blk_frozen Y1
          have z2 := lt_of_block Y1
          go_wp2_with fail
          refine (HT.out _ (KS.out _ B1.out).sl).mono ?_
          rintro e w2 ⟨rfl, hb2⟩
          have Y0' := blk_below Y0 hb2
          have Y1' := blk_below Y1 hb2
          have B2 := Lib.hid (B1.out.trans (hb2.mono B1.out.size))
          have hz2 : w.heap.size + 1 + 1 ≤ w2.heap.size := by have := hb2.size; omega
          clear c1 c2 z1 d1 f1 z2 Y0 Y1
          have c1 : w2.cell? ⟨w.heap.size, 0, none⟩ = some (.int .i64 l) := by rw [blk_cell Y0']; rfl
          have c2 : w2.cell? ⟨w.heap.size, 1, none⟩ = some (.slice A m.length cap) := by rw [blk_cell Y0']; rfl
          have z1 := lt_of_block Y0'
          have d1 := blk_cell Y1'
          have f1 := blk_frozen Y1'
          have z2 := lt_of_block Y1'
          go_wp2_with fail
          refine (HPut.out _ (KS.out _ B2.out).sl).mono ?_
          rintro e w3 ⟨A3, cap3, rfl, hS3, hb3⟩
          have B3 := Lib.hid (B2.out.trans (hb3.mono B2.out.size))
          have Y3 := blk_below Y1' hb3
          have hz3 : w.heap.size + 1 + 1 ≤ w3.heap.size := by have := hb3.size; omega
          have d3 := blk_cell Y3
          have f3 := blk_frozen Y3
          have z3 := lt_of_block Y3
          have S3 := Lib.hid hS3
          clear c1 c2 z1 d1 f1 z2 Y0' Y1' hS3 hb3
          go_wp2_with fail
          have T3 : TypeAt w3 (w.heap.size + 1) 31 := TypeAt.of Y3
          exact bodyPost_ret (v := .tuple #[.agg #[.int .i64 l, .slice A3 (addR m x c).length cap3], .int .i64 0]) (by simp only [results, Tryz.results89]; go_simp) rfl ⟨A3, cap3, rfl, (S3.out.setCellT (p := ⟨w.heap.size + 1, 0, none⟩) (u := .int .i64 l) T3 (by decide)).setCellT (p := ⟨w.heap.size + 1, 1, none⟩) T3.setCell (by decide), Below.setCell (p := ⟨w.heap.size + 1, 1, none⟩) (Below.setCell (p := ⟨w.heap.size + 1, 0, none⟩) B3.out (by simp) _) (by simp) _⟩
end Go.Proofs.YtcjnchjmpkapmaaGreat
/- Chapter 10: bags that are made of readings. -/
namespace Go.Proofs.YtcjnchjmpkapmaaGreat
open Go.ChangeShapes Go.WideShapes Go.ChangeAt Go.RowKit
set_option linter.unusedVariables false
set_option linter.unusedSimpArgs false
set_option maxRecDepth 100000

def madeB (l : Nat) (r : List Nd) : List Nd := r.foldl (fun m z => (addB l m z.1 z.2).1) []
theorem madeB_snoc {l : Nat} {r : List Nd} {q : Nat} (h : q < r.length) : madeB l (r.take (q + 1)) = (addB l (madeB l (r.take q)) r[q].1 r[q].2).1 := by
  unfold madeB
  rw [List.take_succ_eq_append_getElem h, List.foldl_append]; rfl
theorem foldB_bag {l : Nat} (r m : List Nd) (h : BagL l m) : BagL l (r.foldl (fun m z => (addB l m z.1 z.2).1) m) := by
  induction r generalizing m with
  | nil => exact h
  | cons z r ih => exact ih _ (h.addB _ _)
theorem madeB_bag (l : Nat) (r : List Nd) : BagL l (madeB l r) := foldB_bag r [] (.nil l)
theorem foldB_len {l : Nat} (r m : List Nd) : (r.foldl (fun m z => (addB l m z.1 z.2).1) m).length ≤ m.length + r.length := by
  induction r generalizing m with
  | nil => simp
  | cons z r ih =>
    have := ih (addB l m z.1 z.2).1
    have := addB_len l m z.1 z.2
    simp only [List.foldl_cons, List.length_cons]; omega
theorem madeB_len (l : Nat) (r : List Nd) : (madeB l r).length ≤ r.length := by have := foldB_len (l := l) r []; simpa [madeB] using this
set_option maxHeartbeats 4000000 in
theorem ref10_Of (w : World) (l : Nat) (A : Option Addr) (cap : Nat) (r : List Nd) (hl : 1 ≤ l ∧ l ≤ 48) (hS : Sl w w.heap.size encN A r) (hI : ints r) (hlen : r.length ≤ 65536) :
    Calls Tryz.prog 150 #[.int .i64 l, .slice A r.length cap] w fun e w' => ∃ A' cap', e = .returned (bagV l A' (madeB l r).length cap') ∧ SlT w' 96 encN A' (madeB l r) ∧ Below w.heap.size w w' := by
  have HS := Lib.hid hS
  have HI := Lib.hid hI
  unfold bagV
  clear hS hI
  have X0 : Hid (((w.alloc (.cells #[.int .i64 0, .slice none 0 0] 31)).alloc (.cells #[.int .i64 l, .slice none 0 0] 31)).heap[w.heap.size]? = some (.cells #[.int .i64 0, .slice none 0 0] 31 (0, 0))) := Lib.hid ((heap_new_lt _ _ _ (by simp)).trans (heap_alloc_new w _))
  have X1 : Hid (((w.alloc (.cells #[.int .i64 0, .slice none 0 0] 31)).alloc (.cells #[.int .i64 l, .slice none 0 0] 31)).heap[w.heap.size + 1]? = some (.cells #[.int .i64 l, .slice none 0 0] 31 (0, 0))) := Lib.hid (heap_new_at (w.alloc _) _ _ (by simp))
  have BW0 : Hid (Below w.heap.size w ((w.alloc (.cells #[.int .i64 0, .slice none 0 0] 31)).alloc (.cells #[.int .i64 l, .slice none 0 0] 31))) := Lib.hid (by repeat (first | with_reducible exact Below.refl _ _ | with_reducible assumption | ((with_reducible refine Below.setCell ?_ ?_ _); rotate_left; · (first | omega | exact Nat.le_refl _ | (simp <;> omega))) | (with_reducible refine Below.allocW ?_ _) | (with_reducible refine Below.drew ?_) | (with_reducible refine Below.extW ?_ _)))
  have Z0 : Hid (((w.alloc (.cells #[.int .i64 0, .slice none 0 0] 31)).alloc (.cells #[.int .i64 l, .slice none 0 0] 31)).heap.size = w.heap.size + 1 + 1) := Lib.hid (by simp)
  go_enter Tryz.func150, Tryz.ntmps150
  go_upto_region 2 with fail
  generalize (w.alloc (.cells #[.int .i64 0, .slice none 0 0] 31)).alloc (.cells #[.int .i64 l, .slice none 0 0] 31) = W0 at X0 X1 BW0 Z0 ⊢
  go_wp2_with fail
  go_loopw [6] (fun j wr => ∃ (q : Nat) (A1 : Option Addr) (c1 : Nat), q ≤ r.length ∧ j = .int .i64 q ∧ wr.heap[w.heap.size]? = some (.cells #[.int .i64 0, .slice none 0 0] 31 (0, 0)) ∧ wr.heap[w.heap.size + 1]? = some (.cells #[.int .i64 l, .slice A1 (madeB l (r.take q)).length c1] 31 (0, 0)) ∧ SlT wr 96 encN A1 (madeB l (r.take q)) ∧ w.heap.size + 1 + 1 ≤ wr.heap.size ∧ Below w.heap.size w wr) (fun j _ => r.length - (intOf j).toNat)
  case atStart => exact ⟨0, none, 0, Nat.zero_le _, rfl, X0.out, X1.out, .nil, by rw [Z0.out]; exact Nat.le_refl _, BW0.out⟩
  case round =>
    obtain ⟨q, A1, c1, hq, rfl, hX, hY, hS1, hz, hB⟩ := hrel
    have S1 := Lib.hid hS1
    have HX := Lib.hid hX
    have HY := Lib.hid hY
    have HB := Lib.hid hB
    have k1 := blk_cell hY
    have z1 := lt_of_block hY
    clear X0 X1 BW0 Z0 hS1
    by_cases hlt : q < r.length
    · have hqi : (q : Int) < (r.length : Int) := by omega
      have HE := Lib.hid (madeB_snoc (l := l) hlt)
      obtain ⟨b, off, rfl, hb, hc2⟩ := HS.out.at_ hlt
      have d0 := (hB.cell (p := ⟨b, off + q * 2 + 1, none⟩) hb).trans (hc2 1 (.int .i64 r[q].2) rfl)
      have d1 := (hB.cell (p := ⟨b, off + q * 2, none⟩) hb).trans (by have := hc2 0 (.int .i64 r[q].1) rfl; simpa using this)
      have lb : b < wr.heap.size := Nat.lt_of_lt_of_le hb hB.size
      have hi := HI.out _ (List.getElem_mem hlt)
      have hml : (madeB l (r.take q)).length ≤ 65536 := by have := madeB_len l (r.take q); simp at this; omega
      have HAdd := Lib.hid (fun W (h : SlT W 96 encN A1 (madeB l (r.take q))) => ref10_Add W l A1 c1 (madeB l (r.take q)) r[q].1 r[q].2 hl h (madeB_bag l _) hml hi.2.2)
      unfold bagV at HAdd
      generalize r[q].1 = u at d1 HE HAdd
      generalize r[q].2 = v at d0 HE HAdd
      generalize madeB l (r.take q) = M at S1 HY k1 HE HAdd hml hY
      clear hc2 hX hY hi
      go_upto_region 5 with fail
      go_region_with (first
        | (go_at_call 89; refine (HAdd.out _ S1.out.drew).mono ?_; rintro e w2 ⟨A2, c2, rfl, hS2, hb2⟩; have hY2 := blk_below (w := wr.drew) HY.out hb2; have k2 := blk_cell hY2; have f2 := blk_frozen hY2; have z2 := lt_of_block hY2))
      all_goals
        have hX2 := blk_below (w := wr.drew) HX.out hb2
        have T2 : TypeAt w2 (w.heap.size + 1) 31 := TypeAt.of hY2
        have B2 : Below w.heap.size w w2 := Below.then_ (Below.drew HB.out) hb2
        have hz2 : w.heap.size + 1 + 1 ≤ w2.heap.size := Nat.le_trans hz hb2.size
        have nX := (heap_set_at (i := 0) hY2 (.int .i64 l))
        have nX2 := (heap_set_at (i := 1) nX (.slice A2 (addB l M u v).1.length c2))
        have nZ := (Below.heap_setCell (w2.setCell ⟨w.heap.size + 1, 0, none⟩ (.int .i64 l)) ⟨w.heap.size + 1, 1, none⟩ (.slice A2 (addB l M u v).1.length c2) w.heap.size (by simp)).trans ((Below.heap_setCell w2 ⟨w.heap.size + 1, 0, none⟩ (.int .i64 l) w.heap.size (by simp)).trans hX2)
        have nS := (hS2.setCellT (p := ⟨w.heap.size + 1, 0, none⟩) (u := .int .i64 l) T2 (by decide)).setCellT (p := ⟨w.heap.size + 1, 1, none⟩) (u := .slice A2 (addB l M u v).1.length c2) T2.setCell (by decide)
        have nB := Below.setCell (p := ⟨w.heap.size + 1, 1, none⟩) (Below.setCell (p := ⟨w.heap.size + 1, 0, none⟩) B2 (by simp) (.int .i64 l)) (by simp) (.slice A2 (addB l M u v).1.length c2)
        have N := Lib.hid (And.intro nZ (And.intro nX2 nS))
        have NB := Lib.hid nB
        clear hX2 T2 B2 nX nX2 nZ nS nB hS2
        go_wp2_with fail
        go_roundw
        case rel => exact ⟨q + 1, A2, c2, by omega, by go_num, N.out.1, by rw [HE.out]; exact N.out.2.1, by rw [HE.out]; exact N.out.2.2, by simp [World.setCell]; exact hz2, NB.out⟩
        case measure => simp [intOf]; omega
    · obtain rfl : q = r.length := by omega
      have hqi : decide ((r.length : Int) < (r.length : Int)) = false := by simp
      rw [List.take_length] at HY S1
      have S1 := S1
      have cX := blk_cell HX.out
      have fX := blk_frozen HX.out
      have zX := lt_of_block HX.out
      have kY := blk_cell HY.out
      have TX : TypeAt wr w.heap.size 31 := TypeAt.of HX.out
      clear k1 hX hY
      go_wp2_with fail
      exact bodyPost_ret (v := .agg #[.int .i64 l, .slice A1 (madeB l r).length c1]) (by simp only [results, Tryz.results150]; go_simp) rfl ⟨A1, c1, rfl, (S1.out.setCellT (p := ⟨w.heap.size, 0, none⟩) (u := .int .i64 l) TX (by decide)).setCellT (p := ⟨w.heap.size, 1, none⟩) TX.setCell (by decide), Below.setCell (p := ⟨w.heap.size, 1, none⟩) (Below.setCell (p := ⟨w.heap.size, 0, none⟩) HB.out (by simp) _) (by simp) _⟩
end Go.Proofs.YtcjnchjmpkapmaaGreat
/- How many nodes there are: once nothing can be folded, and ever. Plain laws. -/
namespace Go.Proofs.YtcjnchjmpkapmaaGreat
open Go.ChangeShapes Go.WideShapes Go.ChangeAt Go.RowKit
set_option linter.unusedVariables false

def sumP (P : List Int) (g : Int → Int) : Int := (P.map g).sum
def onesR (r : List Nd) : List Nd := r.map fun x => (x.1, 1)
theorem total_ok {n : Int} {r : List Nd} (h1 : ∀ x ∈ r, 1 ≤ x.2) (hn : 0 ≤ n) (hs : n + sumR r ≤ 72057594037927935) : totalFrom n r = (n + sumR r, true) := by
  induction r generalizing n with
  | nil => simp [totalFrom, sumR]
  | cons x r ih =>
    have h2 := h1 x (by simp)
    have h3 := (sumR_pos fun y hy => h1 y (List.mem_cons_of_mem _ hy)).1
    simp only [sumR] at hs ⊢
    have e : addOf n x.2 = (n + x.2, true) := by unfold addOf; rw [if_pos (by omega)]
    simp only [totalFrom, e]
    rw [if_pos ⟨trivial, by unfold most; omega⟩, ih (fun y hy => h1 y (List.mem_cons_of_mem _ hy)) (by omega) (by omega)]
    congr 1; omega
theorem rises_ok {l last : Int} {r : List Nd} (h : ∀ x ∈ r, last < x.1 ∧ isNode l x.1 = true ∧ 1 ≤ x.2) (hp : r.Pairwise fun a b => a.1 < b.1) : risesFrom l last r = true := by
  induction r generalizing last with
  | nil => rfl
  | cons x r ih =>
    obtain ⟨h1, h2, h3⟩ := h x (by simp)
    obtain ⟨p1, p2⟩ := List.pairwise_cons.1 hp
    simp only [risesFrom, Bool.and_eq_true, decide_eq_true_eq]
    exact ⟨⟨⟨h1, h2⟩, h3⟩, ih (fun y hy => ⟨p1 y hy, (h y (List.mem_cons_of_mem _ hy)).2⟩) p2⟩
theorem fits_right {l : Nat} {r : List Nd} (hf : Fits l r) (hl : 1 ≤ l ∧ l ≤ 48) : rightOf l r = true := by
  have hp := pow_pos' l
  unfold rightOf totalOf
  rw [total_ok (fun x hx => (hf.roll.2 x hx).2) (Int.le_refl _) (by have := hf.sum; omega), rises_ok (fun x hx => ⟨by have := (hf.roll.2 x hx).1; omega, hf.nodes hl x hx, (hf.roll.2 x hx).2⟩) hf.roll.1]
  simp only [Bool.true_and, isNode, decide_eq_true_eq, Int.toNat_natCast]
  omega
end Go.Proofs.YtcjnchjmpkapmaaGreat
/- Chapter 16's example. -/
namespace Go.Proofs.YtcjnchjmpkapmaaGreat
open Go.ChangeShapes Go.WideShapes Go.ChangeAt Go.RowKit
set_option linter.unusedVariables false
set_option maxRecDepth 100000

end Go.Proofs.YtcjnchjmpkapmaaGreat
/- Chapter 16: what is told never falls. -/
namespace Go.Proofs.YtcjnchjmpkapmaaGreat
open Go.ChangeShapes Go.WideShapes Go.ChangeAt Go.RowKit
set_option linter.unusedVariables false
set_option maxRecDepth 100000

end Go.Proofs.YtcjnchjmpkapmaaGreat
/- Chapter 16: what a digest tells is what the document says. -/
namespace Go.Proofs.YtcjnchjmpkapmaaGreat
open Go.ChangeShapes Go.WideShapes Go.ChangeAt Go.RowKit
set_option linter.unusedVariables false
set_option maxRecDepth 100000
theorem reckon_Mul (w : World) (a b : Nat) (ha : a ≤ 9223372036854775807) (hb : b ≤ 9223372036854775807) (hab : a * b ≤ 9223372036854775807) : Calls Tryz.prog 128 #[.int .i64 a, .int .i64 b] w fun e w' => e = .returned (.tuple #[.int .i64 (a * b : Nat), .bool true]) ∧ Below w.heap.size w w' := by
  have HC := Lib.hid (show decide (0 ≤ (a : Int) ∧ 0 ≤ (b : Int)) = true by simp)
  have e1 : a * b / 18446744073709551616 = 0 := by omega
  have e2 : a * b % 18446744073709551616 = a * b := by omega
  have HM : Hid (∀ W, Calls Tryz.prog 223 #[.int .u64 a, .int .u64 b] W fun e w' => e = .returned (.tuple #[.int .u64 0, .int .u64 (a * b : Nat)]) ∧ w' = W) := Lib.hid fun W => by
    have := Tryz.bits_Mul64 a b (by omega) (by omega) W
    rw [e1, e2] at this
    exact this
  have HK := Lib.hid (reckon_count · (a * b) hab)
  clear e1 e2
  generalize a * b = p at hab HM HK ⊢
  go_enter Tryz.func128, Tryz.ntmps128
  go_wp2_with fail
  refine (reckon_counts _ a b).mono ?_
  rintro e w1 ⟨rfl, hb1⟩
  have B1 : Below w.heap.size w w1 := Below.then_ (by repeat (first | with_reducible exact Below.refl _ _ | with_reducible assumption | ((with_reducible refine Below.setCell ?_ ?_ _); rotate_left; · (first | omega | exact Nat.le_refl _ | (simp <;> omega))) | (with_reducible refine Below.allocW ?_ _) | (with_reducible refine Below.drew ?_) | (with_reducible refine Below.extW ?_ _))) hb1
  have s1 : w.heap.size ≤ w1.heap.size := B1.size
  rw [HC.out]
  go_wp2_with fail
  refine (HM.out _).mono ?_
  rintro e w2 ⟨rfl, rfl⟩
  go_wp2_with fail
  refine (HK.out _).mono ?_
  rintro e w3 ⟨rfl, hb3⟩
  have B3 : Below w.heap.size w w3 := Below.then_ (by repeat (first | with_reducible exact Below.refl _ _ | with_reducible assumption | ((with_reducible refine Below.setCell ?_ ?_ _); rotate_left; · (first | omega | exact Nat.le_refl _ | (simp <;> omega))) | (with_reducible refine Below.allocW ?_ _) | (with_reducible refine Below.drew ?_) | (with_reducible refine Below.extW ?_ _))) hb3
  have s3 : w.heap.size ≤ w3.heap.size := B3.size
  go_wp2_with fail
  go_ret2
  exact ⟨rfl, (by repeat (first | with_reducible exact Below.refl _ _ | with_reducible assumption | ((with_reducible refine Below.setCell ?_ ?_ _); rotate_left; · (first | omega | exact Nat.le_refl _ | (simp <;> omega))) | (with_reducible refine Below.allocW ?_ _) | (with_reducible refine Below.drew ?_) | (with_reducible refine Below.extW ?_ _)))⟩
theorem digest_Cap (w : World) (g K l : Nat) (k : Int) (r : List Nd) (F : Nat → Prop) (h : DigAt w g K l k r F) : Calls Tryz.prog 129 #[.pointer (some ⟨g, 0, none⟩)] w fun e w' => e = .returned (.int .i64 (sumR r / k)) ∧ Below w.heap.size w w' := by
  have hs0 := sumR_nonneg h.fits.roll
  have hs1 := h.fits.sum
  obtain ⟨h1, h2, p, F0, rfl, hh, hP⟩ := h
  have c := blk_cell hh
  have z := lt_of_block hh
  have HP := Lib.hid hP
  clear hh hP
  go_enter Tryz.func129, Tryz.ntmps129
  go_wp2_with fail
  refine wp_region_ext (by kernel_rfl) (by kernel_rfl) ?_
  repeat (go_big_quiet_step (first | (go_at_call 100; exact quiet_ext (pool_Total _ p K l r F0 (HP.out.below (ext_below _ _)))) | (go_at_call 224; exact quiet_ext (fold_Cap _ (sumR r) k hs0 (by omega) h1 (by omega)))))
  refine wpQuiet_nil ?_
  intro w1 hb1
  replace hb1 := below_of_ext hb1
  have B1 : Below w.heap.size w w1 := Below.then_ (by repeat (first | with_reducible exact Below.refl _ _ | with_reducible assumption | ((with_reducible refine Below.setCell ?_ ?_ _); rotate_left; · (first | omega | exact Nat.le_refl _ | (simp <;> omega))) | (with_reducible refine Below.allocW ?_ _) | (with_reducible refine Below.drew ?_) | (with_reducible refine Below.extW ?_ _))) hb1
  have s1 : w.heap.size ≤ w1.heap.size := B1.size
  go_wp2_with fail
  go_ret
  exact ⟨rfl, (by repeat (first | with_reducible exact Below.refl _ _ | with_reducible assumption | ((with_reducible refine Below.setCell ?_ ?_ _); rotate_left; · (first | omega | exact Nat.le_refl _ | (simp <;> omega))) | (with_reducible refine Below.allocW ?_ _) | (with_reducible refine Below.drew ?_) | (with_reducible refine Below.extW ?_ _)))⟩
theorem rank_Slack (w : World) (g K l : Nat) (k : Int) (r : List Nd) (F : Nat → Prop) (h : DigAt w g K l k r F) : Calls Tryz.prog 52 #[.pointer (some ⟨g, 0, none⟩)] w fun e w' => e = .returned (.int .i64 ((l : Int) * (sumR r / k))) ∧ Below w.heap.size w w' := by
  have hs0 := sumR_nonneg h.fits.roll
  have hs1 := h.fits.sum
  have hl := h.l_le
  have hk := h.1
  obtain ⟨c, hc⟩ := Int.eq_ofNat_of_zero_le (Int.ediv_nonneg hs0 (show 0 ≤ k by omega))
  have hc2 : c ≤ 72057594037927935 := by have := Int.ediv_le_self k hs0; omega
  have hm : l * c ≤ 48 * 72057594037927935 := Nat.mul_le_mul hl.2 hc2
  have HM := Lib.hid (reckon_Mul · l c (by omega) (by omega) (by omega))
  have HC := Lib.hid hc
  have HD := Lib.hid h
  rw [hc]
  clear hc h
  go_enter Tryz.func52, Tryz.ntmps52
  go_wp2_with fail
  refine (digest_Conf _ g K l k r F HD.out).mono ?_
  rintro e w1 ⟨rfl, hb1⟩
  have B1 : Below w.heap.size w w1 := Below.then_ (by repeat (first | with_reducible exact Below.refl _ _ | with_reducible assumption | ((with_reducible refine Below.setCell ?_ ?_ _); rotate_left; · (first | omega | exact Nat.le_refl _ | (simp <;> omega))) | (with_reducible refine Below.allocW ?_ _) | (with_reducible refine Below.drew ?_) | (with_reducible refine Below.extW ?_ _))) hb1
  have s1 : w.heap.size ≤ w1.heap.size := B1.size
  go_wp2_with fail
  refine (digest_Cap _ g K l k r F (HD.out.below B1)).mono ?_
  rintro e w2 ⟨rfl, hb2⟩
  have B2 : Below w.heap.size w w2 := Below.then_ (by repeat (first | with_reducible exact Below.refl _ _ | with_reducible assumption | ((with_reducible refine Below.setCell ?_ ?_ _); rotate_left; · (first | omega | exact Nat.le_refl _ | (simp <;> omega))) | (with_reducible refine Below.allocW ?_ _) | (with_reducible refine Below.drew ?_) | (with_reducible refine Below.extW ?_ _))) hb2
  have s2 : w.heap.size ≤ w2.heap.size := B2.size
  rw [HC.out]
  go_wp2_with fail
  refine (HM.out _).mono ?_
  rintro e w3 ⟨rfl, hb3⟩
  have B3 : Below w.heap.size w w3 := Below.then_ (by repeat (first | with_reducible exact Below.refl _ _ | with_reducible assumption | ((with_reducible refine Below.setCell ?_ ?_ _); rotate_left; · (first | omega | exact Nat.le_refl _ | (simp <;> omega))) | (with_reducible refine Below.allocW ?_ _) | (with_reducible refine Below.drew ?_) | (with_reducible refine Below.extW ?_ _))) hb3
  have s3 : w.heap.size ≤ w3.heap.size := B3.size
  go_wp2_with fail
  go_ret
  exact ⟨ret_int (by push_cast; rfl), (by repeat (first | with_reducible exact Below.refl _ _ | with_reducible assumption | ((with_reducible refine Below.setCell ?_ ?_ _); rotate_left; · (first | omega | exact Nat.le_refl _ | (simp <;> omega))) | (with_reducible refine Below.allocW ?_ _) | (with_reducible refine Below.drew ?_) | (with_reducible refine Below.extW ?_ _)))⟩
theorem ref13_Cap (w : World) (k u : Int) (A : Option Addr) (cap : Nat) (l : List Nd) (hS : Sl w w.heap.size encN A l) (hI : ints l) (hm : l.length ≤ maxLen) (h0 : 0 ≤ (totalOf l).1) (h1 : (totalOf l).1 ≤ 72057594037927935) (hk : 1 ≤ k) (hk2 : k ≤ 1048576) :
    Calls Tryz.prog 148 #[.agg #[.int .i64 k, .int .i64 u, .slice A l.length cap]] w fun e w' => e = .returned (.int .i64 ((totalOf l).1 / k)) ∧ Below w.heap.size w w' := by
  have HC := Lib.hid (ref13_Weight · k u A cap l · hI hm)
  have HS := Lib.hid (hS.keep (B' := (w.alloc (.cells #[.int .i64 k, .int .i64 u, .slice A l.length cap] 63)).heap.size) (by simp) fun p hp => ((Below.refl w.heap.size w).alloc (Nat.le_refl _) (.cells #[.int .i64 k, .int .i64 u, .slice A l.length cap] 63)).cell hp)
  clear hS hI hm
  generalize (totalOf l).1 = t at HC h0 h1 ⊢
  have q1 : 0 ≤ t / k := Int.ediv_nonneg (by omega) (by omega)
  have q2 : t / k ≤ t := Int.ediv_le_self _ (by omega)
  go_enter Tryz.func148, Tryz.ntmps148
  go_wp2_with fail
  refine wp_region_ext (by kernel_rfl) (by kernel_rfl) ?_
  repeat (go_big_quiet_step ((go_at_call 63; exact quiet_ext (HC.out _ (HS.out.keep (ext_below _ _).size fun p hp => (ext_below _ _).cell hp)))))
  refine wpQuiet_nil ?_
  intro w1 hb1
  replace hb1 := below_of_ext hb1
  have B1 : Below w.heap.size w w1 := Below.then_ (by repeat (first | with_reducible exact Below.refl _ _ | with_reducible assumption | ((with_reducible refine Below.setCell ?_ ?_ _); rotate_left; · (first | omega | exact Nat.le_refl _ | (simp <;> omega))) | (with_reducible refine Below.allocW ?_ _) | (with_reducible refine Below.drew ?_) | (with_reducible refine Below.extW ?_ _))) hb1
  have s1 : w.heap.size ≤ w1.heap.size := B1.size
  have z1_0 : w.heap.size < w1.heap.size := by have := hb1.size; (try simp at this); omega
  have y1_0 : w.heap.size ≤ w1.heap.size := Nat.le_of_lt z1_0
  have c1_0 := fun o => hb1.cell (p := ⟨w.heap.size, o, none⟩) (by first | omega | (simp <;> omega))
  have f1_0 := fun o => hb1.frozen (p := ⟨w.heap.size, o, none⟩) (by first | omega | (simp <;> omega))
  go_wp2_with fail
  go_ret
  exact ⟨rfl, (by repeat (first | with_reducible exact Below.refl _ _ | with_reducible assumption | ((with_reducible refine Below.setCell ?_ ?_ _); rotate_left; · (first | omega | exact Nat.le_refl _ | (simp <;> omega))) | (with_reducible refine Below.allocW ?_ _) | (with_reducible refine Below.drew ?_) | (with_reducible refine Below.extW ?_ _)))⟩
theorem ref16_Slack (w : World) (k : Int) (u : Nat) (A : Option Addr) (cap : Nat) (l : List Nd) (hS : Sl w w.heap.size encN A l) (hI : ints l) (hm : l.length ≤ maxLen) (h0 : 0 ≤ (totalOf l).1) (h1 : (totalOf l).1 ≤ 72057594037927935) (hk : 1 ≤ k) (hk2 : k ≤ 1048576) (hu : u ≤ 48) :
    Calls Tryz.prog 67 #[.agg #[.int .i64 k, .int .i64 u, .slice A l.length cap]] w fun e w' => e = .returned (.int .i64 ((u : Int) * ((totalOf l).1 / k))) ∧ Below w.heap.size w w' := by
  have HC := Lib.hid (ref13_Cap · k u A cap l · hI hm h0 h1 hk hk2)
  have HS := Lib.hid (hS.keep (B' := (w.alloc (.cells #[.int .i64 k, .int .i64 u, .slice A l.length cap] 63)).heap.size) (by simp) fun p hp => ((Below.refl w.heap.size w).alloc (Nat.le_refl _) (.cells #[.int .i64 k, .int .i64 u, .slice A l.length cap] 63)).cell hp)
  have q1 : 0 ≤ (totalOf l).1 / k := Int.ediv_nonneg (by omega) (by omega)
  have q2 : (totalOf l).1 / k ≤ (totalOf l).1 := Int.ediv_le_self _ (by omega)
  clear hS hI hm
  generalize (totalOf l).1 / k = t at HC q1 q2 ⊢
  obtain ⟨c, rfl⟩ := Int.eq_ofNat_of_zero_le q1
  have hm : u * c ≤ 48 * 72057594037927935 := Nat.mul_le_mul hu (by omega)
  have q3 : (u : Int) * (c : Int) ≤ 3458764513820540880 := by rw [← Int.natCast_mul]; omega
  have q4 : 0 ≤ (u : Int) * (c : Int) := Int.mul_nonneg (by omega) (by omega)
  clear hm
  go_enter Tryz.func67, Tryz.ntmps67
  go_wp2_with fail
  refine wp_region_ext (by kernel_rfl) (by kernel_rfl) ?_
  repeat (go_big_quiet_step ((go_at_call 148; exact quiet_ext (HC.out _ (HS.out.keep (ext_below _ _).size fun p hp => (ext_below _ _).cell hp)))))
  refine wpQuiet_nil ?_
  intro w1 hb1
  replace hb1 := below_of_ext hb1
  have B1 : Below w.heap.size w w1 := Below.then_ (by repeat (first | with_reducible exact Below.refl _ _ | with_reducible assumption | ((with_reducible refine Below.setCell ?_ ?_ _); rotate_left; · (first | omega | exact Nat.le_refl _ | (simp <;> omega))) | (with_reducible refine Below.allocW ?_ _) | (with_reducible refine Below.drew ?_) | (with_reducible refine Below.extW ?_ _))) hb1
  have s1 : w.heap.size ≤ w1.heap.size := B1.size
  have z1_0 : w.heap.size < w1.heap.size := by have := hb1.size; (try simp at this); omega
  have y1_0 : w.heap.size ≤ w1.heap.size := Nat.le_of_lt z1_0
  have c1_0 := fun o => hb1.cell (p := ⟨w.heap.size, o, none⟩) (by first | omega | (simp <;> omega))
  have f1_0 := fun o => hb1.frozen (p := ⟨w.heap.size, o, none⟩) (by first | omega | (simp <;> omega))
  go_wp2_with fail
  go_ret
  exact ⟨rfl, (by repeat (first | with_reducible exact Below.refl _ _ | with_reducible assumption | ((with_reducible refine Below.setCell ?_ ?_ _); rotate_left; · (first | omega | exact Nat.le_refl _ | (simp <;> omega))) | (with_reducible refine Below.allocW ?_ _) | (with_reducible refine Below.drew ?_) | (with_reducible refine Below.extW ?_ _)))⟩
end Go.Proofs.YtcjnchjmpkapmaaGreat
