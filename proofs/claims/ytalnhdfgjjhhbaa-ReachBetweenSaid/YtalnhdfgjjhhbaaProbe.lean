/- Package probe: a table that is looked through. -/
import Derived.Test.YtalnhdfgjjhhbaaDense2
import Derived.Test.YtalnhdfgjjhhbaaProbeLaw
import Derived.Test.YtalnhdfgjjhhbaaMake
import Derived.OwnWalk
namespace Go.Proofs.Ytalnhdfgjjhhbaa
open Go.ChangeShapes Go.WideShapes Go.ChangeAt Go.RowKit
set_option linter.unusedVariables false

theorem wraps_i64 (n : Int) (h₀ : 0 ≤ n) (h₁ : n < 2 ^ 63) : IntKind.i64.wrap n = n := by rw [IntKind.wrap_i64]; omega
theorem and_mask (i n b : Nat) (hn : n = 2 ^ b) (hb : b ≤ 40) (hi : i < 2 ^ 62) : bits .and .i64 ((i : Int) + 1) ((n : Int) - 1) = ((i + 1) % n : Nat) := by
  subst hn
  have := bits_mask .i64 63 (by decide) wraps_i64 b (by omega) ((i : Int) + 1) (by omega) (by omega)
  push_cast
  exact this
theorem home_eq (b : Nat) (id : Int) (h2 : b ≤ 62) (h1 : 1 ≤ b) (h3 : 0 ≤ id) : wrap64 (IntKind.u64.wrap (id * 11400714819323198485) / 2 ^ (64 - b)) = (homeOf b id : Int) := by
  obtain ⟨x, rfl⟩ := Int.eq_ofNat_of_zero_le h3
  have e1 : IntKind.u64.wrap ((x : Int) * 11400714819323198485) = ((x * 11400714819323198485 % 18446744073709551616 : Nat) : Int) := by rw [IntKind.wrap_u64]; omega
  rw [e1]
  have e2 : ((x * 11400714819323198485 % 18446744073709551616 : Nat) : Int) / 2 ^ (64 - b) = (homeOf b x : Int) := by
    unfold homeOf; rw [Int.natCast_ediv, Int.natCast_pow]; rfl
  rw [e2]
  have h4 := homeOf_lt (b := b) (by omega) (x : Int)
  have h5 : 2 ^ b ≤ 2 ^ 62 := Nat.pow_le_pow_right (by decide) h2
  unfold wrap64
  omega

theorem probe_Home (w : World) (b : Nat) (id : Int) (h1 : 1 ≤ b) (h2 : b ≤ 62) (h3 : 1 ≤ id) (h4 : id ≤ 562949953421312) : Calls Try.prog 110 #[.int .i64 b, .int .i64 id] w fun e w' => e = .returned (.int .i64 (homeOf b id)) ∧ Below w.heap.size w w' := by
  have q1 : (1 : Int) ≤ (b : Int) := by omega
  have q2 : (b : Int) ≤ 62 := by omega
  go_enter Try.func110, Try.ntmps110
  go_wp2_with fail
  go_ret
  exact ⟨ret_int (home_eq b id h2 h1 (by omega)), (by repeat (first | with_reducible exact Below.refl _ _ | with_reducible assumption | ((with_reducible refine Below.setCell ?_ ?_ _); rotate_left; · (first | omega | exact Nat.le_refl _ | (simp <;> omega))) | (with_reducible refine Below.allocW ?_ _) | (with_reducible refine Below.drew ?_) | (with_reducible refine Below.extW ?_ _)))⟩
/-- The store is a table in block g, with the roll r; F: its blocks. -/
def ProbeAt (w : World) (g l : Nat) (r : List Nd) (F : Nat → Prop) : Prop :=
  ∃ (v : Value) (S : List Nd) (b : Nat), w.heap[g]? = some (.cells #[.int .i64 l, .int .i64 b, .int .i64 r.length, .int .i64 (sumR r), v] 119 (0, 0)) ∧ Own w 0 59 encN v S ∧ PInv b S r ∧ 3 ≤ b ∧ b ≤ 34 ∧ 2 * r.length ≤ 2 ^ b ∧ F = foot2 g v

theorem probe_next (w : World) (g n b i : Nat) (cs : Array Value) (A : Option Addr) (cap : Nat) (hh : w.heap[g]? = some (.cells cs 119 (0, 0))) (hv : cs[4]? = some (.slice A n cap)) (hn : n = 2 ^ b) (hb : b ≤ 35) (hi : i < n) :
    Calls Try.prog 111 #[.pointer (some ⟨g, 0, none⟩), .int .i64 i] w fun e w' => e = .returned (.int .i64 ((i + 1) % n : Nat)) ∧ Below w.heap.size w w' := by
  have c := (blk_cell hh 4).trans hv
  have hN : n ≤ 34359738368 := by rw [hn]; have := Nat.pow_le_pow_right (n := 2) (by decide) hb; simpa using this
  have hp : 0 < n := by rw [hn]; exact Nat.two_pow_pos b
  have HN := Lib.hid hn
  clear hh hv hn
  go_enter Try.func111, Try.ntmps111
  go_wp2_with fail
  go_ret
  exact ⟨ret_int (and_mask i n b HN.out (by omega) (by omega)), (by repeat (first | with_reducible exact Below.refl _ _ | with_reducible assumption | ((with_reducible refine Below.setCell ?_ ?_ _); rotate_left; · (first | omega | exact Nat.le_refl _ | (simp <;> omega))) | (with_reducible refine Below.allocW ?_ _) | (with_reducible refine Below.drew ?_) | (with_reducible refine Below.extW ?_ _)))⟩
theorem step_succ {n h d : Nat} (hn : 0 < n) : (step n h d + 1) % n = step n h (d + 1) := by
  unfold step
  rw [Nat.mod_add_mod]
  congr 1
theorem step_next {n h d : Nat} (hn : 0 < n) : ((step n h d : Nat) + 1 : Int) % (n : Nat) = (step n h (d + 1) : Nat) := by
  have := step_succ (h := h) (d := d) hn
  exact_mod_cast this
theorem val_int {a b : Int} (h : a = b) : Value.int .i64 a = .int .i64 b := by rw [h]
/-- Where looking for a number ends. -/
def LookPost (S : List Nd) (b : Nat) (id : Int) (w : World) (e : Ending) (w' : World) : Prop := ∃ i d : Nat, e = .returned (.tuple #[.int .i64 i, .int .i64 (d + 1 : Nat)]) ∧ LookAt S b id i d ∧ Below w.heap.size w w'
set_option maxRecDepth 100000 in
theorem probe_look (w : World) (g b sb off n cap : Nat) (v0 v2 v3 : Value) (S m : List Nd) (id : Int) (hh : w.heap[g]? = some (.cells #[v0, .int .i64 b, v2, v3, .slice (some ⟨sb, off, none⟩) n cap] 119 (0, 0)))
    (ho : Own w 0 59 encN (.slice (some ⟨sb, off, none⟩) n cap) S) (hI : PInv b S m) (hm : m.length < 2 ^ b) (h3 : 3 ≤ b) (h35 : b ≤ 35) (hi1 : 1 ≤ id) (hi2 : id ≤ 562949953421312) :
    Calls Try.prog 106 #[.pointer (some ⟨g, 0, none⟩), .int .i64 id] w (LookPost S b id w) := by
  obtain rfl : n = S.length := ho.len_le.1
  obtain ⟨D, hD, hstop⟩ := hI.ends hm (by omega) id
  have hl := hI.len
  have hN : 2 ^ b ≤ 34359738368 := by have := Nat.pow_le_pow_right (n := 2) (by decide) h35; simpa using this
  have hp : 0 < 2 ^ b := Nat.two_pow_pos b
  have hS := ho.slT
  have cc := blk_cell hh
  have zg := lt_of_block hh
  have zb := (ho.lt sb rfl).2
  have hC : S.length ≤ 34359738368 := by omega
  have hDN : D < 34359738368 := by omega
  have HS := Lib.hid hS
  have HH := Lib.hid hh
  have HL := Lib.hid hl
  have HD := Lib.hid hstop
  have HP := Lib.hid (And.intro hN hp)
  clear hh ho hS hl hI hm hN hp hstop
  go_enter Try.func106, Try.ntmps106
  go_wp2_with fail
  go_step3
  go_wp2_with fail
  refine (probe_Home _ b id (by omega) (by omega) hi1 hi2).mono ?_
  rintro e w1 ⟨rfl, hb1⟩
  have B1 : Below w.heap.size w w1 := Below.then_ (by repeat (first | with_reducible exact Below.refl _ _ | with_reducible assumption | ((with_reducible refine Below.setCell ?_ ?_ _); rotate_left; · (first | omega | exact Nat.le_refl _ | (simp <;> omega))) | (with_reducible refine Below.allocW ?_ _) | (with_reducible refine Below.drew ?_) | (with_reducible refine Below.extW ?_ _))) hb1
  have s1 : w.heap.size ≤ w1.heap.size := B1.size
  have k1 := blk_below HH.out hb1
  have cc1 := blk_cell k1
  have K1 := Lib.hid k1
  have HB := Lib.hid (HS.out.below hb1)
  clear cc k1
  go_wp2_with fail
  go_step3
  go_wp2_with fail
  go_loopw [6, 7] (fun i n wr => ∃ d : Nat, d ≤ D ∧ i = .int .i64 (step (2 ^ b) (homeOf b id) d) ∧ n = .int .i64 (d + 1 : Nat) ∧ (∀ d' < d, ¬ stopAt S id (step (2 ^ b) (homeOf b id) d')) ∧ Below w.heap.size w wr) (fun _ n _ => D + 1 - (intOf n).toNat)
  case atStart => exact ⟨0, Nat.zero_le _, by simp [step, Nat.mod_eq_of_lt (homeOf_lt (b := b) (by omega) id)], rfl, by omega, B1⟩
  case round =>
    obtain ⟨d, hd, rfl, rfl, hway, hB⟩ := hrel
    have HW := Lib.hid hway
    clear hway
    obtain ⟨i, hi⟩ : ∃ i, i = step (2 ^ b) (homeOf b id) d := ⟨_, rfl⟩
    have hlt : i < S.length := by rw [HL.out, hi]; exact step_lt HP.out.2
    have HI := Lib.hid hi
    rw [← hi]
    have k2 := blk_below HH.out (hB.mono (Nat.le_refl _))
    have cc2 := blk_cell k2
    have hs := hB.size
    have d0 := (hB.cell (p := ⟨sb, off + i * 2 + 0, none⟩) zb).trans (HS.out.cell_at hlt 0 (.int .i64 S[i].1) rfl)
    have d1 := (hB.cell (p := ⟨sb, off + i * 2 + 1, none⟩) zb).trans (HS.out.cell_at hlt 1 (.int .i64 S[i].2) rfl)
    simp only [Nat.add_zero] at d0
    obtain ⟨x, hx⟩ : ∃ x, x = S[i] := ⟨_, rfl⟩
    rw [← hx] at d0 d1
    have HX := Lib.hid (show S[i]? = some x by rw [hx]; exact List.getElem?_eq_getElem hlt)
    have K2 := Lib.hid k2
    clear hi hx k2 cc1
    go_wp2_with fail
    · have ht : (x.2 == 0) = true := by assumption
      rw [Exit.noGoto_ret]
      go_ret2
      exact ⟨i, d, rfl, ⟨HI.out, by omega, fun y hy => by rw [HX.out] at hy; cases hy; exact .inl (by simpa using ht), HW.out⟩, (by repeat (first | with_reducible exact Below.refl _ _ | with_reducible assumption | ((with_reducible refine Below.setCell ?_ ?_ _); rotate_left; · (first | omega | exact Nat.le_refl _ | (simp <;> omega))) | (with_reducible refine Below.allocW ?_ _) | (with_reducible refine Below.drew ?_) | (with_reducible refine Below.extW ?_ _)))⟩
    · have ht : (x.1 == id) = true := by assumption
      rw [Exit.noGoto_ret]
      go_ret2
      exact ⟨i, d, rfl, ⟨HI.out, by omega, fun y hy => by rw [HX.out] at hy; cases hy; exact .inr (by simpa using ht), HW.out⟩, (by repeat (first | with_reducible exact Below.refl _ _ | with_reducible assumption | ((with_reducible refine Below.setCell ?_ ?_ _); rotate_left; · (first | omega | exact Nat.le_refl _ | (simp <;> omega))) | (with_reducible refine Below.allocW ?_ _) | (with_reducible refine Below.drew ?_) | (with_reducible refine Below.extW ?_ _)))⟩
    · have ht1 : (x.2 == 0) = false := by assumption
      have ht2 : (x.1 == id) = false := by assumption
      have HG := Lib.hid (show ¬ stopAt S id (step (2 ^ b) (homeOf b id) d) from fun h => by
        rw [← HI.out] at h
        rcases h x HX.out with h | h
        · simp [h] at ht1
        · simp [h] at ht2)
      have k3 := blk_below K2.out ((Below.refl wr.heap.size wr).alloc (Nat.le_refl _) (.cells #[.int .i64 x.1, .int .i64 x.2] 59))
      have hdD : d < D := by
        rcases Nat.lt_or_eq_of_le hd with h | h
        · exact h
        · subst h; exact absurd HD.out HG.out
      refine (probe_next _ g S.length b i _ _ cap k3 rfl HL.out h35 hlt).mono ?_
      rintro e w4 ⟨rfl, hb4⟩
      have B4 : Below w.heap.size w w4 := Below.then_ (by repeat (first | with_reducible exact Below.refl _ _ | with_reducible assumption | ((with_reducible refine Below.setCell ?_ ?_ _); rotate_left; · (first | omega | exact Nat.le_refl _ | (simp <;> omega))) | (with_reducible refine Below.allocW ?_ _) | (with_reducible refine Below.drew ?_) | (with_reducible refine Below.extW ?_ _))) hb4
      have s4 : w.heap.size ≤ w4.heap.size := B4.size
      have z4_0 : wr.heap.size < w4.heap.size := by have := hb4.size; (try simp at this); omega
      have y4_0 : wr.heap.size ≤ w4.heap.size := Nat.le_of_lt z4_0
      have c4_0 := fun o => hb4.cell (p := ⟨wr.heap.size, o, none⟩) (by first | omega | (simp <;> omega))
      have f4_0 := fun o => hb4.frozen (p := ⟨wr.heap.size, o, none⟩) (by first | omega | (simp <;> omega))
      go_wp2_with fail
      go_roundw
      case rel => exact ⟨d + 1, by omega, by rw [HI.out, HL.out]; exact val_int (by push_cast; exact_mod_cast step_next HP.out.2), by push_cast; rfl, fun d' hd' => by
        rcases Nat.lt_or_eq_of_le (Nat.le_of_lt_succ hd') with h | h
        · exact HW.out d' h
        · subst h; exact HG.out, (by repeat (first | with_reducible exact Below.refl _ _ | with_reducible assumption | ((with_reducible refine Below.setCell ?_ ?_ _); rotate_left; · (first | omega | exact Nat.le_refl _ | (simp <;> omega))) | (with_reducible refine Below.allocW ?_ _) | (with_reducible refine Below.drew ?_) | (with_reducible refine Below.extW ?_ _)))⟩
      case measure => simp [intOf]; omega
/-- A number of the store's universe. -/
theorem probe_right (w : World) (g l : Nat) (cs : Array Value) (id : Int) (hh : w.heap[g]? = some (.cells cs 119 (0, 0))) (hv : cs[0]? = some (.int .i64 l)) :
    Calls Try.prog 105 #[.pointer (some ⟨g, 0, none⟩), .int .i64 id] w fun e w' => e = .returned (.bool (isNode l id)) ∧ Below w.heap.size w w' := by
  have c := (blk_cell hh 0).trans hv
  have z := lt_of_block hh
  clear hh hv
  go_enter Try.func105, Try.ntmps105
  go_wp2_with fail
  refine (twig_Right _ l id).mono ?_
  rintro e w1 ⟨rfl, hb1⟩
  have B1 : Below w.heap.size w w1 := Below.then_ (by repeat (first | with_reducible exact Below.refl _ _ | with_reducible assumption | ((with_reducible refine Below.setCell ?_ ?_ _); rotate_left; · (first | omega | exact Nat.le_refl _ | (simp <;> omega))) | (with_reducible refine Below.allocW ?_ _) | (with_reducible refine Below.drew ?_) | (with_reducible refine Below.extW ?_ _))) hb1
  have s1 : w.heap.size ≤ w1.heap.size := B1.size
  go_wp2_with fail
  go_ret
  exact ⟨rfl, (by repeat (first | with_reducible exact Below.refl _ _ | with_reducible assumption | ((with_reducible refine Below.setCell ?_ ?_ _); rotate_left; · (first | omega | exact Nat.le_refl _ | (simp <;> omega))) | (with_reducible refine Below.allocW ?_ _) | (with_reducible refine Below.drew ?_) | (with_reducible refine Below.extW ?_ _)))⟩
theorem probe_L (w : World) (g l : Nat) (r : List Nd) (F : Nat → Prop) (h : ProbeAt w g l r F) : Calls Try.prog 83 #[.pointer (some ⟨g, 0, none⟩)] w fun e w' => e = .returned (.int .i64 l) ∧ Below w.heap.size w w' := by
  obtain ⟨v, S, b, hh, _⟩ := h
  have c := blk_cell hh
  have z := lt_of_block hh
  clear hh
  go_enter Try.func83, Try.ntmps83
  go_wp2_with fail
  go_ret
  exact ⟨rfl, (by repeat (first | with_reducible exact Below.refl _ _ | with_reducible assumption | ((with_reducible refine Below.setCell ?_ ?_ _); rotate_left; · (first | omega | exact Nat.le_refl _ | (simp <;> omega))) | (with_reducible refine Below.allocW ?_ _) | (with_reducible refine Below.drew ?_) | (with_reducible refine Below.extW ?_ _)))⟩
theorem probe_Total (w : World) (g l : Nat) (r : List Nd) (F : Nat → Prop) (h : ProbeAt w g l r F) : Calls Try.prog 51 #[.pointer (some ⟨g, 0, none⟩)] w fun e w' => e = .returned (.int .i64 (sumR r)) ∧ Below w.heap.size w w' := by
  obtain ⟨v, S, b, hh, _⟩ := h
  have c := blk_cell hh
  have z := lt_of_block hh
  clear hh
  go_enter Try.func51, Try.ntmps51
  go_wp2_with fail
  go_ret
  exact ⟨rfl, (by repeat (first | with_reducible exact Below.refl _ _ | with_reducible assumption | ((with_reducible refine Below.setCell ?_ ?_ _); rotate_left; · (first | omega | exact Nat.le_refl _ | (simp <;> omega))) | (with_reducible refine Below.allocW ?_ _) | (with_reducible refine Below.drew ?_) | (with_reducible refine Below.extW ?_ _)))⟩
theorem infoN : ((Try.prog).info? 59).map (fun i => (i.zero, i.size, i.bytes)) = some (some (.agg #[.int .i64 0, .int .i64 0]), 2, 16) := by kernel_rfl
theorem probe_New_no (w : World) (l : Int) (h : l < 1 ∨ 48 < l) : Calls Try.prog 92 #[.int .i64 l] w fun e w' => e = .returned (.tuple #[.pointer none, .int .i64 2]) ∧ Below w.heap.size w w' := by
  by_cases h1 : l < 1
  · go_enter Try.func92, Try.ntmps92
    go_wp2_with fail
    go_ret2
    exact ⟨rfl, (by repeat (first | with_reducible exact Below.refl _ _ | with_reducible assumption | ((with_reducible refine Below.setCell ?_ ?_ _); rotate_left; · (first | omega | exact Nat.le_refl _ | (simp <;> omega))) | (with_reducible refine Below.allocW ?_ _) | (with_reducible refine Below.drew ?_) | (with_reducible refine Below.extW ?_ _)))⟩
  · have h2 : 48 < l := by omega
    go_enter Try.func92, Try.ntmps92
    go_wp2_with fail
    go_ret2
    exact ⟨rfl, (by repeat (first | with_reducible exact Below.refl _ _ | with_reducible assumption | ((with_reducible refine Below.setCell ?_ ?_ _); rotate_left; · (first | omega | exact Nat.le_refl _ | (simp <;> omega))) | (with_reducible refine Below.allocW ?_ _) | (with_reducible refine Below.drew ?_) | (with_reducible refine Below.extW ?_ _)))⟩
set_option maxRecDepth 100000 in
theorem probe_New (w : World) (n : Nat) (h1 : 1 ≤ n) (h2 : n ≤ 48) : Calls Try.prog 92 #[.int .i64 n] w fun e w' =>
    ∃ g F, e = .returned (.tuple #[.pointer (some ⟨g, 0, none⟩), .int .i64 0]) ∧ ProbeAt w' g n [] F ∧ (∀ b, F b → w.heap.size ≤ b) ∧ Below w.heap.size w w' := by
  obtain ⟨i, hi, hz0, hz1, hz2⟩ := info_parts infoN
  have q1 : (1 : Int) ≤ (n : Int) := by omega
  have q2 : (n : Int) ≤ 48 := by omega
  go_enter Try.func92, Try.ntmps92
  go_wp2_with ((at_make; refine wpList_make_full _ rfl _ _ 24 rfl w.heap.size 59 i (.agg #[.int .i64 0, .int .i64 0]) 2 Try.underlying24 hi hz0 hz1 _ _ _ _ 8 rfl rfl ?hL ?hC ?b2 ?b3 ?b4 ?hK))
  case hL => simp
  case hC => simp
  case b2 => rw [hz2]; decide
  case b3 => simp only [maxLen]; omega
  case b4 => exact Nat.le_refl _
  case hK =>
    intro w1 hr hg
    have hmf := made_flat encN (0, 0) #[.int .i64 0, .int .i64 0] 8 rfl (by decide)
    simp only [Nat.reduceMul] at hmf
    rw [hmf] at hr
    have ho := Own.of_row hr (by simp) (by decide)
    have HO := Lib.hid ho
    have b1 : Below w.heap.size w w1 := (Below.refl _ _).grown hg (Nat.le_refl _) (fun k hk => by cases hk)
    have z1 := b1.size
    clear hr ho hg hmf
    go_wp2_with fail
    go_ret2
    exact ⟨w1.heap.size, _, rfl, ⟨_, _, 3, heap_new_at w1 _ _ rfl, (HO.out.base_le (Nat.zero_le _)).alloc _, PInv.empty 3, by omega, by omega, by simp, rfl⟩, fun b hb => by
      rcases hb with rfl | hb
      · exact z1
      · cases hb; exact Nat.le_refl _, (by repeat (first | with_reducible exact Below.refl _ _ | with_reducible assumption | ((with_reducible refine Below.setCell ?_ ?_ _); rotate_left; · (first | omega | exact Nat.le_refl _ | (simp <;> omega))) | (with_reducible refine Below.allocW ?_ _) | (with_reducible refine Below.drew ?_) | (with_reducible refine Below.extW ?_ _)))⟩
end Go.Proofs.Ytalnhdfgjjhhbaa
