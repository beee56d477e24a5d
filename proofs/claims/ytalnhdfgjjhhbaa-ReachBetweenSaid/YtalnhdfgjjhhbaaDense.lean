/- Package dense: nodes in an array. -/
import Derived.Test.YtalnhdfgjjhhbaaRoll
import Derived.Test.YtalnhdfgjjhhbaaMake
import Derived.Deep.RegionHeld3
import Derived.Deep.DrawnRows
namespace Go.Proofs.Ytalnhdfgjjhhbaa
open Go.ChangeShapes Go.WideShapes Go.ChangeAt Go.RowKit
set_option linter.unusedVariables false
attribute [local go_sem ↓] Go.wp_at_zero Go.wp_at_succ

def encZ : Enc Int 1 := ⟨fun x => [.int .i64 x], fun _ => rfl, by intro x u hu; simp at hu; subst hu; rfl⟩
theorem tyZ : SliceTy Try.prog 105 3 1 8 (.int .i64 0) := ⟨Try.underlying105, by kernel_rfl, rfl, by decide⟩
/-- A slice's block. -/
def foot2 (g : Nat) (v : Value) : Nat → Prop := fun b => b = g ∨ v.ownBlock = some b
/-- The array in block g holds the roll r; F: its blocks. -/
def DenseAt (w : World) (g l : Nat) (r : List Nd) (F : Nat → Prop) : Prop :=
  ∃ (v : Value) (C : List Int), w.heap[g]? = some (.cells #[.int .i64 l, .int .i64 r.length, .int .i64 (sumR r), v] 117 (0, 0)) ∧ Own w 0 3 encZ v C ∧ C.length = 2 * 2 ^ l ∧ (∀ i : Nat, i < C.length → C[i]? = some (getR r i)) ∧
    F = foot2 g v
/-- What a store's content has to be. -/
structure Fits (l : Nat) (r : List Nd) : Prop where
  roll : Roll r
  lt : ∀ x ∈ r, x.1 < 2 * 2 ^ l
  sum : sumR r ≤ 72057594037927935
theorem DenseAt.keep {w w' : World} {g l : Nat} {r : List Nd} {F : Nat → Prop} (h : DenseAt w g l r F) (hk : ∀ b, F b → w'.heap[b]? = w.heap[b]?) : DenseAt w' g l r F := by
  obtain ⟨v, C, hh, ho, hl, hc, rfl⟩ := h
  exact ⟨v, C, (hk g (.inl rfl)).trans hh, ho.of_block fun b hb => hk b (.inr hb), hl, hc, rfl⟩
theorem DenseAt.lt {w : World} {g l : Nat} {r : List Nd} {F : Nat → Prop} (h : DenseAt w g l r F) : ∀ b, F b → b < w.heap.size := by
  obtain ⟨v, C, hh, ho, hl, hc, rfl⟩ := h
  rintro b (rfl | hb)
  · exact lt_of_block hh
  · exact (ho.lt b hb).2
theorem DenseAt.below {w w' : World} {g l : Nat} {r : List Nd} {F : Nat → Prop} (h : DenseAt w g l r F) (hb : Below w.heap.size w w') : DenseAt w' g l r F := h.keep fun b hf => hb.block b (h.lt b hf)

theorem dense_L (w : World) (g l : Nat) (r : List Nd) (F : Nat → Prop) (h : DenseAt w g l r F) : Calls Try.prog 82 #[.pointer (some ⟨g, 0, none⟩)] w fun e w' => e = .returned (.int .i64 l) ∧ Below w.heap.size w w' := by
  obtain ⟨v, C, hh, _⟩ := h
  have c := blk_cell hh
  have z := lt_of_block hh
  clear hh
  go_enter Try.func82, Try.ntmps82
  go_wp2_with fail
  go_ret
  exact ⟨rfl, (by repeat (first | with_reducible exact Below.refl _ _ | with_reducible assumption | ((with_reducible refine Below.setCell ?_ ?_ _); rotate_left; · (first | omega | exact Nat.le_refl _ | (simp <;> omega))) | (with_reducible refine Below.allocW ?_ _) | (with_reducible refine Below.drew ?_) | (with_reducible refine Below.extW ?_ _)))⟩
theorem dense_Total (w : World) (g l : Nat) (r : List Nd) (F : Nat → Prop) (h : DenseAt w g l r F) : Calls Try.prog 49 #[.pointer (some ⟨g, 0, none⟩)] w fun e w' => e = .returned (.int .i64 (sumR r)) ∧ Below w.heap.size w w' := by
  obtain ⟨v, C, hh, _⟩ := h
  have c := blk_cell hh
  have z := lt_of_block hh
  clear hh
  go_enter Try.func49, Try.ntmps49
  go_wp2_with fail
  go_ret
  exact ⟨rfl, (by repeat (first | with_reducible exact Below.refl _ _ | with_reducible assumption | ((with_reducible refine Below.setCell ?_ ?_ _); rotate_left; · (first | omega | exact Nat.le_refl _ | (simp <;> omega))) | (with_reducible refine Below.allocW ?_ _) | (with_reducible refine Below.drew ?_) | (with_reducible refine Below.extW ?_ _)))⟩

theorem infoZ : ((Try.prog).info? 3).map (fun i => (i.zero, i.size, i.bytes)) = some (some (.int .i64 0), 1, 8) := by kernel_rfl
theorem dense_New_no (w : World) (l : Int) (h : l < 1 ∨ 16 < l) : Calls Try.prog 91 #[.int .i64 l] w fun e w' => e = .returned (.tuple #[.pointer none, .int .i64 2]) ∧ Below w.heap.size w w' := by
  by_cases h1 : l < 1
  · go_enter Try.func91, Try.ntmps91
    go_wp2_with fail
    go_ret2
    exact ⟨rfl, (by repeat (first | with_reducible exact Below.refl _ _ | with_reducible assumption | ((with_reducible refine Below.setCell ?_ ?_ _); rotate_left; · (first | omega | exact Nat.le_refl _ | (simp <;> omega))) | (with_reducible refine Below.allocW ?_ _) | (with_reducible refine Below.drew ?_) | (with_reducible refine Below.extW ?_ _)))⟩
  · have h2 : 16 < l := by omega
    go_enter Try.func91, Try.ntmps91
    go_wp2_with fail
    go_ret2
    exact ⟨rfl, (by repeat (first | with_reducible exact Below.refl _ _ | with_reducible assumption | ((with_reducible refine Below.setCell ?_ ?_ _); rotate_left; · (first | omega | exact Nat.le_refl _ | (simp <;> omega))) | (with_reducible refine Below.allocW ?_ _) | (with_reducible refine Below.drew ?_) | (with_reducible refine Below.extW ?_ _)))⟩
set_option maxRecDepth 100000 in
theorem dense_New (w : World) (n : Nat) (h1 : 1 ≤ n) (h2 : n ≤ 16) : Calls Try.prog 91 #[.int .i64 n] w fun e w' =>
    ∃ g F, e = .returned (.tuple #[.pointer (some ⟨g, 0, none⟩), .int .i64 0]) ∧ DenseAt w' g n [] F ∧ (∀ b, F b → w.heap.size ≤ b) ∧ Below w.heap.size w w' := by
  obtain ⟨i, hi, hz0, hz1, hz2⟩ := info_parts infoZ
  have q1 : (1 : Int) ≤ (n : Int) := by omega
  have q2 : (n : Int) ≤ 16 := by omega
  have q3 : (2 : Int) ^ n ≤ 65536 := by have := pow_le' h2; simpa using this
  have q4 := pow_pos' n
  have q5 : 2 ^ n ≤ 65536 := by have := Nat.pow_le_pow_right (n := 2) (by decide) h2; simpa using this
  have Q5 := Lib.hid q5
  clear q5
  go_enter Try.func91, Try.ntmps91
  go_wp2_with ((at_make; refine wpList_make_full _ rfl _ _ 105 rfl w.heap.size 3 i (.int .i64 0) 1 Try.underlying105 hi hz0 hz1 _ _ _ _ (2 * 2 ^ n) rfl rfl ?hL ?hC ?b2 ?b3 ?b4 ?hK))
  case hL => simp
  case hC => simp
  case b2 => rw [hz2]; have := Q5.out; omega
  case b3 => have := Q5.out; simp only [maxLen]; omega
  case b4 => exact Nat.le_refl _
  case hK =>
    intro w1 hr hg
    have hmf := made_flat encZ 0 #[.int .i64 0] (2 * 2 ^ n) rfl (by decide)
    rw [Nat.mul_one] at hmf
    rw [hmf] at hr
    have ho := Own.of_row hr (by simp) (by decide)
    have HO := Lib.hid ho
    have b1 : Below w.heap.size w w1 := (Below.refl _ _).grown hg (Nat.le_refl _) (fun k hk => by cases hk)
    have z1 := b1.size
    clear hr ho hg hmf
    go_wp2_with fail
    go_ret2
    have hC : ∀ i : Nat, i < (List.replicate (2 * 2 ^ n) (0 : Int)).length → (List.replicate (2 * 2 ^ n) (0 : Int))[i]? = some (getR [] i) := fun i hi => by simp at hi; simp [hi, getR]
    exact ⟨w1.heap.size, _, rfl, ⟨_, _, heap_new_at w1 _ _ rfl, (HO.out.base_le (Nat.zero_le _)).alloc _, by simp, hC, rfl⟩, fun b hb => by
      rcases hb with rfl | hb
      · exact z1
      · cases hb; exact Nat.le_refl _, (by repeat (first | with_reducible exact Below.refl _ _ | with_reducible assumption | ((with_reducible refine Below.setCell ?_ ?_ _); rotate_left; · (first | omega | exact Nat.le_refl _ | (simp <;> omega))) | (with_reducible refine Below.allocW ?_ _) | (with_reducible refine Below.drew ?_) | (with_reducible refine Below.extW ?_ _)))⟩

theorem isNode_of {l k : Nat} (h1 : 1 ≤ l) (h2 : l ≤ 48) (h3 : 1 ≤ k) (h4 : k < 2 * 2 ^ l) : isNode l k = true := by
  simp only [isNode, decide_eq_true_eq, Int.toNat_natCast]
  refine ⟨⟨by omega, by omega⟩, by omega, ?_⟩
  exact_mod_cast h4
theorem own_at0 {α : Type} {size : Nat} {w : World} {base e : Nat} {E : Enc α size} {v : Value} {l : List α} (h : Own w base e E v l) (hl : 0 < l.length) : ∃ b off cap, v = .slice (some ⟨b, off, none⟩) l.length cap ∧ l.length ≤ cap := by
  rcases h with ⟨_, rfl⟩ | ⟨g, off, cap, cur, hv, _, _, hc, _⟩
  · simp at hl
  · exact ⟨g, off, cap, hv, hc⟩
theorem heap_set_at {w : World} {g i : Nat} {cs : Array Value} {t : TypeId} (h : w.heap[g]? = some (.cells cs t (0, 0))) (u : Value) : (w.setCell ⟨g, i, none⟩ u).heap[g]? = some (.cells (cs.setIfInBounds i u) t (0, 0)) := by
  simp [World.setCell, Array.getElem?_modify, h]
/-- The stores of Add. -/
theorem dense_stored {w : World} {g l b off cap k : Nat} {r r' : List Nd} {C : List Int} {a u m : Int} {v0 v1 v2 : Value} (hh : w.heap[g]? = some (.cells #[v0, v1, v2, .slice (some ⟨b, off, none⟩) C.length cap] 117 (0, 0)))
    (ho : Own w 0 3 encZ (.slice (some ⟨b, off, none⟩) C.length cap) C) (hl : C.length = 2 * 2 ^ l) (hc : ∀ i : Nat, i < C.length → C[i]? = some (getR r i)) (hk : k < C.length)
    (hr : ∀ j : Int, getR r' j = if j = k then a else getR r j) (hu : (r'.length : Int) = u) (hm : sumR r' = m) (hv0 : v0 = .int .i64 l := by rfl) :
    DenseAt (((w.setCell ⟨g, 1, none⟩ (.int .i64 u)).setCell ⟨b, off + k, none⟩ (.int .i64 a)).setCell ⟨g, 2, none⟩ (.int .i64 m)) g l r' (foot2 g (.slice (some ⟨b, off, none⟩) C.length cap)) := by
  have hne := ho.ne_block hh (by decide)
  have hgb : g ≠ b := fun he => hne (by rw [he]; rfl)
  have o1 := ho.setCell (p := ⟨g, 1, none⟩) hne (.int .i64 u)
  have o2 := o1.setElem k 0 hk (by decide) (.int .i64 a) a rfl
  rw [Nat.mul_one, Nat.add_zero] at o2
  subst hv0
  have k1 := heap_set_at (i := 1) hh (.int .i64 u)
  have k2 : ((w.setCell ⟨g, 1, none⟩ (.int .i64 u)).setCell ⟨b, off + k, none⟩ (.int .i64 a)).heap[g]? = _ := (Below.heap_setCell _ _ _ _ hgb).trans k1
  have k3 := heap_set_at (i := 2) k2 (.int .i64 m)
  have hne2 := o2.ne_block k2 (by decide)
  have o3 := o2.setCell (p := ⟨g, 2, none⟩) hne2 (.int .i64 m)
  subst hu hm
  refine ⟨_, C.set k a, by rw [k3]; rfl, o3, by simpa using hl, fun i hi => ?_, rfl⟩
  rw [List.length_set] at hi
  rw [List.getElem?_set]
  by_cases hik : k = i
  · subst hik
    rw [if_pos rfl, if_pos hi, hr, if_pos rfl]
  · rw [if_neg hik, hc i hi, hr, if_neg (by omega)]
/-- The stores of Add. -/
theorem dense_stored2 {w : World} {g l b off cap k : Nat} {r r' : List Nd} {C : List Int} {a m : Int} {v0 v2 : Value} (hh : w.heap[g]? = some (.cells #[v0, .int .i64 r.length, v2, .slice (some ⟨b, off, none⟩) C.length cap] 117 (0, 0)))
    (ho : Own w 0 3 encZ (.slice (some ⟨b, off, none⟩) C.length cap) C) (hl : C.length = 2 * 2 ^ l) (hc : ∀ i : Nat, i < C.length → C[i]? = some (getR r i)) (hk : k < C.length)
    (hr : ∀ j : Int, getR r' j = if j = k then a else getR r j) (hu : r'.length = r.length) (hm : sumR r' = m) (hv0 : v0 = .int .i64 l := by rfl) :
    DenseAt ((w.setCell ⟨b, off + k, none⟩ (.int .i64 a)).setCell ⟨g, 2, none⟩ (.int .i64 m)) g l r' (foot2 g (.slice (some ⟨b, off, none⟩) C.length cap)) := by
  have hne := ho.ne_block hh (by decide)
  have hgb : g ≠ b := fun he => hne (by rw [he]; rfl)
  have o2 := ho.setElem k 0 hk (by decide) (.int .i64 a) a rfl
  rw [Nat.mul_one, Nat.add_zero] at o2
  subst hv0
  have k2 : (w.setCell ⟨b, off + k, none⟩ (.int .i64 a)).heap[g]? = _ := (Below.heap_setCell _ _ _ _ hgb).trans hh
  have k3 := heap_set_at (i := 2) k2 (.int .i64 m)
  have hne2 := o2.ne_block k2 (by decide)
  have o3 := o2.setCell (p := ⟨g, 2, none⟩) hne2 (.int .i64 m)
  subst hm
  refine ⟨_, C.set k a, by rw [k3, hu]; rfl, o3, by simpa using hl, fun i hi => ?_, rfl⟩
  rw [List.length_set] at hi
  rw [List.getElem?_set]
  by_cases hik : k = i
  · subst hik
    rw [if_pos rfl, if_pos hi, hr, if_pos rfl]
  · rw [if_neg hik, hc i hi, hr, if_neg (by omega)]
set_option maxRecDepth 100000 in
theorem dense_Add_new (w : World) (g l : Nat) (r : List Nd) (F : Nat → Prop) (h : DenseAt w g l r F) (hf : Fits l r) (h1 : 1 ≤ l) (h2 : l ≤ 16) (k : Nat) (hk1 : 1 ≤ k) (hk2 : k < 2 * 2 ^ l) (c : Int) (hc : 0 < c) (hsum : sumR r + c ≤ 72057594037927935) (h0 : getR r k = 0) :
    Calls Try.prog 102 #[.pointer (some ⟨g, 0, none⟩), .int .i64 k, .int .i64 c] w fun e w' => e = .returned (.int .i64 0) ∧ DenseAt w' g l (addR r k c) F ∧ Turn F w w' := by
  have HN := Lib.hid (isNode_of h1 (by omega) hk1 hk2)
  have hs0 := sumR_nonneg hf.roll
  have hlen := len_le_sum hf.roll
  have HA := Lib.hid (show addOf (sumR r) c = (sumR r + c, true) by simp only [addOf]; rw [if_pos (by omega)])
  obtain ⟨v, C, hh, ho, hl, hcc, rfl⟩ := h
  obtain ⟨b, off, cap, rfl, hcap⟩ := own_at0 ho (by omega)
  have d := ho.slT.cell_at (k := k) (by omega) 0 (.int .i64 C[k]) rfl
  have hck := hcc k (by omega)
  rw [List.getElem?_eq_getElem (by omega)] at hck
  injection hck with hck
  rw [hck, h0] at d
  simp only [Nat.mul_one, Nat.add_zero] at d
  have hnb : g ≠ b := fun he => ho.ne_block hh (by decide) (by rw [he]; rfl)
  have hnb' : b ≠ g := fun he => hnb he.symm
  have cc := blk_cell hh
  have cf := blk_frozen hh
  have fb := ho.frozen (off + k)
  have zg := lt_of_block hh
  have zb := (ho.lt b rfl).2
  have H := Lib.hid hh
  have HO := Lib.hid ho
  have i0 : (0 : Int) ≤ (k : Int) := by omega
  have i1 : (k : Int) < (C.length : Int) := by omega
  clear hh ho hck
  go_enter Try.func102, Try.ntmps102
  go_wp2_with fail
  refine (twig_Right _ l k).mono ?_
  rintro e w1 ⟨rfl, hb1⟩
  have B1 : Below w.heap.size w w1 := Below.then_ (by repeat (first | with_reducible exact Below.refl _ _ | with_reducible assumption | ((with_reducible refine Below.setCell ?_ ?_ _); rotate_left; · (first | omega | exact Nat.le_refl _ | (simp <;> omega))) | (with_reducible refine Below.allocW ?_ _) | (with_reducible refine Below.drew ?_) | (with_reducible refine Below.extW ?_ _))) hb1
  have s1 : w.heap.size ≤ w1.heap.size := B1.size
  rw [HN.out]
  have k1 := blk_below H.out hb1
  have o1 := HO.out.below hb1
  have cc1 := blk_cell k1
  have cf1 := blk_frozen k1
  have d1 := (hb1.cell (p := ⟨b, off + k, none⟩) zb).trans d
  have f1 := o1.frozen (off + k)
  have zg1 := lt_of_block k1
  have zb1 := (o1.lt b rfl).2
  have K1 := Lib.hid k1
  have O1 := Lib.hid o1
  clear cc cf d fb k1 o1
  go_wp2_with fail
  refine (reckon_Add _ (sumR r) c (by omega) (by omega)).mono ?_
  rintro e w2 ⟨rfl, hb2⟩
  have B2 : Below w.heap.size w w2 := Below.then_ (by repeat (first | with_reducible exact Below.refl _ _ | with_reducible assumption | ((with_reducible refine Below.setCell ?_ ?_ _); rotate_left; · (first | omega | exact Nat.le_refl _ | (simp <;> omega))) | (with_reducible refine Below.allocW ?_ _) | (with_reducible refine Below.drew ?_) | (with_reducible refine Below.extW ?_ _))) hb2
  have s2 : w.heap.size ≤ w2.heap.size := B2.size
  rw [HA.out]
  unfold okV
  have k2 := blk_below K1.out hb2
  have o2 := O1.out.below hb2
  have cc2 := blk_cell k2
  have cf2 := blk_frozen k2
  have d2 := (hb2.cell (p := ⟨b, off + k, none⟩) zb1).trans d1
  have f2 := o2.frozen (off + k)
  have zg2 := lt_of_block k2
  have zb2 := (o2.lt b rfl).2
  have K2 := Lib.hid k2
  have O2 := Lib.hid o2
  have T2 : Turn (foot2 g (.slice (some ⟨b, off, none⟩) C.length cap)) w w2 := .of_below B2
  clear cc1 cf1 d1 f1 k2 o2
  go_wp2_with fail
  go_ret
  refine ⟨rfl, ?_, ?_⟩
  · exact dense_stored (r' := addR r k c) K2.out O2.out hl hcc (by omega) (fun j => by rw [getR_add hf.roll, h0]; simp) (by rw [len_add hf.roll, if_pos h0]; push_cast; rfl) (sumR_add r k c)
  · refine Turn.setCell (Turn.setCell (Turn.setCell T2 ?_ _) ?_ _) ?_ _
    · exact .inl (.inl rfl)
    · exact .inl (.inr rfl)
    · exact .inl (.inl rfl)
set_option maxRecDepth 100000 in
theorem dense_Add_old (w : World) (g l : Nat) (r : List Nd) (F : Nat → Prop) (h : DenseAt w g l r F) (hf : Fits l r) (h1 : 1 ≤ l) (h2 : l ≤ 16) (k : Nat) (hk1 : 1 ≤ k) (hk2 : k < 2 * 2 ^ l) (c : Int) (hc : 0 ≤ c) (hsum : sumR r + c ≤ 72057594037927935) (h0 : 0 < getR r k) :
    Calls Try.prog 102 #[.pointer (some ⟨g, 0, none⟩), .int .i64 k, .int .i64 c] w fun e w' => e = .returned (.int .i64 0) ∧ DenseAt w' g l (addR r k c) F ∧ Turn F w w' := by
  have HN := Lib.hid (isNode_of h1 (by omega) hk1 hk2)
  have hs0 := sumR_nonneg hf.roll
  have hlen := len_le_sum hf.roll
  have HA := Lib.hid (show addOf (sumR r) c = (sumR r + c, true) by simp only [addOf]; rw [if_pos (by omega)])
  obtain ⟨v, C, hh, ho, hl, hcc, rfl⟩ := h
  obtain ⟨b, off, cap, rfl, hcap⟩ := own_at0 ho (by omega)
  have d := ho.slT.cell_at (k := k) (by omega) 0 (.int .i64 C[k]) rfl
  have hck := hcc k (by omega)
  rw [List.getElem?_eq_getElem (by omega)] at hck
  injection hck with hck
  rw [hck] at d
  simp only [Nat.mul_one, Nat.add_zero] at d
  have hnb : g ≠ b := fun he => ho.ne_block hh (by decide) (by rw [he]; rfl)
  have hnb' : b ≠ g := fun he => hnb he.symm
  have cc := blk_cell hh
  have cf := blk_frozen hh
  have fb := ho.frozen (off + k)
  have zg := lt_of_block hh
  have zb := (ho.lt b rfl).2
  have H := Lib.hid hh
  have HO := Lib.hid ho
  have hgs := getR_le_sum hf.roll k
  have i0 : (0 : Int) ≤ (k : Int) := by omega
  have i1 : (k : Int) < (C.length : Int) := by omega
  clear hh ho hck
  go_enter Try.func102, Try.ntmps102
  go_wp2_with fail
  refine (twig_Right _ l k).mono ?_
  rintro e w1 ⟨rfl, hb1⟩
  have B1 : Below w.heap.size w w1 := Below.then_ (by repeat (first | with_reducible exact Below.refl _ _ | with_reducible assumption | ((with_reducible refine Below.setCell ?_ ?_ _); rotate_left; · (first | omega | exact Nat.le_refl _ | (simp <;> omega))) | (with_reducible refine Below.allocW ?_ _) | (with_reducible refine Below.drew ?_) | (with_reducible refine Below.extW ?_ _))) hb1
  have s1 : w.heap.size ≤ w1.heap.size := B1.size
  rw [HN.out]
  have k1 := blk_below H.out hb1
  have o1 := HO.out.below hb1
  have cc1 := blk_cell k1
  have cf1 := blk_frozen k1
  have d1 := (hb1.cell (p := ⟨b, off + k, none⟩) zb).trans d
  have f1 := o1.frozen (off + k)
  have zg1 := lt_of_block k1
  have zb1 := (o1.lt b rfl).2
  have K1 := Lib.hid k1
  have O1 := Lib.hid o1
  clear cc cf d fb k1 o1
  go_wp2_with fail
  refine (reckon_Add _ (sumR r) c (by omega) (by omega)).mono ?_
  rintro e w2 ⟨rfl, hb2⟩
  have B2 : Below w.heap.size w w2 := Below.then_ (by repeat (first | with_reducible exact Below.refl _ _ | with_reducible assumption | ((with_reducible refine Below.setCell ?_ ?_ _); rotate_left; · (first | omega | exact Nat.le_refl _ | (simp <;> omega))) | (with_reducible refine Below.allocW ?_ _) | (with_reducible refine Below.drew ?_) | (with_reducible refine Below.extW ?_ _))) hb2
  have s2 : w.heap.size ≤ w2.heap.size := B2.size
  rw [HA.out]
  unfold okV
  have k2 := blk_below K1.out hb2
  have o2 := O1.out.below hb2
  have cc2 := blk_cell k2
  have cf2 := blk_frozen k2
  have d2 := (hb2.cell (p := ⟨b, off + k, none⟩) zb1).trans d1
  have f2 := o2.frozen (off + k)
  have zg2 := lt_of_block k2
  have zb2 := (o2.lt b rfl).2
  have K2 := Lib.hid k2
  have O2 := Lib.hid o2
  have T2 : Turn (foot2 g (.slice (some ⟨b, off, none⟩) C.length cap)) w w2 := .of_below B2
  clear cc1 cf1 d1 f1 k2 o2
  go_wp2_with fail
  go_ret
  refine ⟨rfl, ?_, ?_⟩
  · exact dense_stored2 (r' := addR r k c) K2.out O2.out hl hcc (by omega) (fun j => getR_add hf.roll k c j) (by rw [len_add hf.roll, if_neg (by omega)]) (sumR_add r k c)
  · refine Turn.setCell (Turn.setCell T2 ?_ _) ?_ _
    · exact .inl (.inr rfl)
    · exact .inl (.inl rfl)
end Go.Proofs.Ytalnhdfgjjhhbaa
