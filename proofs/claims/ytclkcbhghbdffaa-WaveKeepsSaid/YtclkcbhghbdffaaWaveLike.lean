/- The laws of chapter 30: may so many be tried; is on its way just that; what holds of a wave while calls are made. -/
import Derived.Test.YtclkcbhghbdffaaWaveRefDo
import Derived.Test.YtclkcbhghbdffaaWaveOpen
import Derived.Laws.BytesArg
namespace Go.Proofs.Ytclkcbhghbdffaa
open Go.ChangeShapes Go.WideShapes Go.ChangeAt Go.RowKit
set_option linter.unusedVariables false
attribute [local go_sem ↓] Go.wp_at_zero Go.wp_at_succ

theorem op_cells {w : World} {b off k : Nat} {o : OpS} (h : ∀ j u, (encO.enc o)[j]? = some u → w.cell? ⟨b, off + k * 6 + j, none⟩ = some u) :
    w.cell? ⟨b, off + k * 6, none⟩ = some (.int .i64 o.kind) ∧ w.cell? ⟨b, off + k * 6 + 1, none⟩ = some (.int .i64 o.i) ∧ w.cell? ⟨b, off + k * 6 + 2, none⟩ = some (.int .i64 o.to_) ∧
    w.cell? ⟨b, off + k * 6 + 3, none⟩ = some (.int .i64 o.at_) ∧ w.cell? ⟨b, off + k * 6 + 4, none⟩ = some (.string o.text) ∧ w.cell? ⟨b, off + k * 6 + 5, none⟩ = some (.int .u8 o.by_) :=
  ⟨h 0 _ rfl, h 1 _ rfl, h 2 _ rfl, h 3 _ rfl, h 4 _ rfl, h 5 _ rfl⟩

set_option maxRecDepth 100000 in
theorem law_few (l : List OpS) (A : Option Addr) (cap : Nat) (w : World) (hS : Sl w w.heap.size encO A l) (hm : l.length ≤ maxLen) (hok : ∀ o ∈ l, o.ok) :
    Calls Try.prog 13 #[.slice A l.length cap] w fun e w' => (∃ b, e = .returned (.bool b) ∧ (b = true → l.length ≤ 150)) ∧ Below w.heap.size w w' := by
  have HS := Lib.hid hS
  clear hS
  unfold maxLen at hm
  go_enter Try.func13, Try.ntmps13
  go_wp2_with fail
  go_loopw [3, 8] (fun n i wr => ∃ (k m : Nat), k ≤ l.length ∧ m ≤ 2000 ∧ i = .int .i64 k ∧ n = .int .i64 m ∧ Below w.heap.size w wr) (fun _ i _ => l.length - (intOf i).toNat)
  case atStart => exact ⟨0, 0, by omega, by omega, rfl, rfl, Below.refl _ _⟩
  case round =>
    obtain ⟨k, m, hk, hm2, rfl, rfl, hB⟩ := hrel
    by_cases hlt : k < l.length
    · obtain ⟨b, off, rfl, hb, hc⟩ := (HS.out.below hB).at_ hlt
      obtain ⟨d0, d1, d2, d3, d4, d5⟩ := op_cells hc
      have hz := (hok _ (List.getElem_mem hlt)).2.2
      unfold maxLen at hz
      generalize l[k] = o at d0 d1 d2 d3 d4 d5 hz
      have hs := hB.size
      clear hc
      by_cases hgt : (2000 : Int) - m < o.text.size
      · go_wp2_with fail
        go_ret
        exact ⟨⟨false, rfl, by simp⟩, (by repeat (first | with_reducible exact Below.refl _ _ | with_reducible assumption | ((with_reducible refine Below.setCell ?_ ?_ _); rotate_left; · (first | omega | exact Nat.le_refl _ | (simp <;> omega))) | (with_reducible refine Below.allocW ?_ _) | (with_reducible refine Below.drew ?_) | (with_reducible refine Below.extW ?_ _)))⟩
      · go_wp2_with fail
        go_roundw
        case rel => exact ⟨k + 1, m + o.text.size, by omega, by omega, by go_num, by go_num, (by repeat (first | with_reducible exact Below.refl _ _ | with_reducible assumption | ((with_reducible refine Below.setCell ?_ ?_ _); rotate_left; · (first | omega | exact Nat.le_refl _ | (simp <;> omega))) | (with_reducible refine Below.allocW ?_ _) | (with_reducible refine Below.drew ?_) | (with_reducible refine Below.extW ?_ _)))⟩
        case measure => simp [intOf]; omega
    · obtain rfl : k = l.length := by omega
      go_wp2_with fail
      go_ret
      exact ⟨⟨_, rfl, by simp; omega⟩, (by repeat (first | with_reducible exact Below.refl _ _ | with_reducible assumption | ((with_reducible refine Below.setCell ?_ ?_ _); rotate_left; · (first | omega | exact Nat.le_refl _ | (simp <;> omega))) | (with_reducible refine Below.allocW ?_ _) | (with_reducible refine Below.drew ?_) | (with_reducible refine Below.extW ?_ _)))⟩

theorem run_part_int (w : World) (xs : Array Value) (i : Nat) (h : i < xs.size) : (part 3 xs i).run Try.prog w = .ok xs[i] w := by
  have hc : (Try.prog).cellsOf 3 = 1 := by kernel_rfl
  unfold part
  go_simp
@[go_sem] theorem eq_five (w : World) (a b c d e : Int) : (Op.equalIn 10000 34 (.agg #[.int .i64 a, .int .i64 b, .int .i64 c, .int .i64 d, .int .i64 e]) (.agg #[.int .i64 a, .int .i64 b, .int .i64 c, .int .i64 d, .int .i64 e])).run Try.prog w = .ok true w := by
  have hc : (Try.prog).cellsOf 3 = 1 := by kernel_rfl
  rw [show 10000 = 9999 + 1 from rfl, run_equalIn_array w 9999 _ _ Try.underlying34 (by rfl), hc]
  simp [Op.eqItems, List.range_succ, run_part_int, go_sem]

set_option maxRecDepth 100000 in
theorem law_like (w : World) (base g : Nat) (s : WS) (A : Option Addr) (n cap : Nat) (h : WaveAt w base g s) (hR : RV w A n cap s) (hlen : s.items.length ≤ 256) :
    Calls Try.prog 16 #[.pointer (some ⟨g, 0, none⟩), rvV A n cap s] w fun e w' => e = .returned (.bool true) ∧ Below w.heap.size w w' := by
  obtain rfl := hR.1
  have HST := Lib.hid hR.2.1.sl
  have HW := Lib.hid h
  have ea : ∀ (k : Nat) (hk : k < s.items.length), s.at_ k = (s.items[k].1, s.items[k].2, true) := fun k hk => by simp [WS.at_, WS.has, hk]
  have eb : s.at_ (-1) = (0, ⟨#[]⟩, false) := by simp [WS.at_, WS.has]
  have ec : s.at_ (s.items.length : Int) = (0, ⟨#[]⟩, false) := by simp [WS.at_, WS.has]
  have EA := Lib.hid ea
  have EB := Lib.hid eb
  have EC := Lib.hid ec
  clear h hR ea eb ec
  unfold rvV
  go_enter Try.func16, Try.ntmps16
  go_wp2_with fail
  refine wp_region_ext (by kernel_rfl) (by kernel_rfl) ?_
  repeat (go_big_quiet_step (first | (go_at_call 11; exact quiet_ext (wave_Len _ base g s (HW.out.below (by repeat (first | with_reducible exact Below.refl _ _ | with_reducible assumption | ((with_reducible refine Below.setCell ?_ ?_ _); rotate_left; · (first | omega | exact Nat.le_refl _ | (simp <;> omega))) | (with_reducible refine Below.allocW ?_ _) | (with_reducible refine Below.drew ?_) | (with_reducible refine Below.extW ?_ _))))))))
  refine wpQuiet_nil ?_
  intro w1 hb1
  replace hb1 := below_of_ext hb1
  have B1 : Below w.heap.size w w1 := Below.then_ (by repeat (first | with_reducible exact Below.refl _ _ | with_reducible assumption | ((with_reducible refine Below.setCell ?_ ?_ _); rotate_left; · (first | omega | exact Nat.le_refl _ | (simp <;> omega))) | (with_reducible refine Below.allocW ?_ _) | (with_reducible refine Below.drew ?_) | (with_reducible refine Below.extW ?_ _))) hb1
  have s1 : w.heap.size ≤ w1.heap.size := B1.size
  have z1_0 : w.heap.size < w1.heap.size := by have := hb1.size; (try simp at this); omega
  have y1_0 : w.heap.size ≤ w1.heap.size := Nat.le_of_lt z1_0
  have c1_0 := fun o => hb1.cell (p := ⟨w.heap.size, o, none⟩) (by first | omega | (simp <;> omega))
  have f1_0 := fun o => hb1.frozen (p := ⟨w.heap.size, o, none⟩) (by first | omega | (simp <;> omega))
  have k0 := blk_below (heap_new_at w (.cells #[.slice A s.items.length cap, .int .i64 s.sent, .int .i64 s.taken, .int .i64 s.lost, .int .i64 s.copied, .int .i64 s.spoilt] 36) _ rfl) hb1
  have K0 := Lib.hid k0
  have cc := blk_cell k0
  clear k0 c1_0 f1_0
  go_wp2_with fail
  go_loopw [26] (fun i wr => ∃ (k : Nat), k ≤ s.items.length ∧ i = .int .i64 k ∧ Below w1.heap.size w1 wr) (fun i _ => s.items.length - (intOf i).toNat)
  case atStart => exact ⟨0, by omega, rfl, Below.refl _ _⟩
  case round =>
    obtain ⟨k, hk, rfl, hB⟩ := hrel
    have B2 := Below.then_ B1 hB
    have hs := B2.size
    by_cases hlt : k < s.items.length
    · obtain ⟨b, off, rfl, hb, hc⟩ := HST.out.at_ hlt
      have d0 := (B2.cell (p := ⟨b, _, none⟩) hb).trans (hc 0 (.int .i64 s.items[k].1) rfl)
      have d1 := (B2.cell (p := ⟨b, _, none⟩) hb).trans (hc 1 (.string s.items[k].2) rfl)
      simp only [Nat.add_zero] at d0
      have lb : b < wr.heap.size := by omega
      have i0 : (0 : Int) ≤ (k : Int) := by omega
      have i1 : (k : Int) < (s.items.length : Int) := by omega
      clear hc
      go_wp2_with fail
      refine (wave_At _ base g s k (HW.out.below (by repeat (first | with_reducible exact Below.refl _ _ | with_reducible assumption | ((with_reducible refine Below.setCell ?_ ?_ _); rotate_left; · (first | omega | exact Nat.le_refl _ | (simp <;> omega))) | (with_reducible refine Below.allocW ?_ _) | (with_reducible refine Below.drew ?_) | (with_reducible refine Below.extW ?_ _))))).mono ?_
      rintro e w3 ⟨rfl, hb3⟩
      have B3 : Below w.heap.size w w3 := Below.then_ (by repeat (first | with_reducible exact Below.refl _ _ | with_reducible assumption | ((with_reducible refine Below.setCell ?_ ?_ _); rotate_left; · (first | omega | exact Nat.le_refl _ | (simp <;> omega))) | (with_reducible refine Below.allocW ?_ _) | (with_reducible refine Below.drew ?_) | (with_reducible refine Below.extW ?_ _))) hb3
      have s3 : w.heap.size ≤ w3.heap.size := B3.size
      have z3_0 : wr.heap.size < w3.heap.size := by have := hb3.size; (try simp at this); omega
      have y3_0 : wr.heap.size ≤ w3.heap.size := Nat.le_of_lt z3_0
      have c3_0 := fun o => hb3.cell (p := ⟨wr.heap.size, o, none⟩) (by first | omega | (simp <;> omega))
      have f3_0 := fun o => hb3.frozen (p := ⟨wr.heap.size, o, none⟩) (by first | omega | (simp <;> omega))
      rw [EA.out k hlt]
      unfold atV
      go_wp2_with fail
      go_roundw
      case rel => exact ⟨k + 1, by omega, by go_num, hB.trans (Below.mono (Below.then_ (Below.allocW (Below.refl _ _) _) hb3) hB.size)⟩
      case measure => simp [intOf]; omega
    · obtain rfl : k = s.items.length := by omega
      have k2 := blk_below K0.out hB
      have cc2 := blk_cell k2
      have K2 := Lib.hid k2
      clear cc k2
      go_wp2_with fail
      refine (wave_Count _ base g s (HW.out.below B2)).mono ?_
      rintro e w3 ⟨rfl, hb3⟩
      have B3 : Below w.heap.size w w3 := Below.then_ (by repeat (first | with_reducible exact Below.refl _ _ | with_reducible assumption | ((with_reducible refine Below.setCell ?_ ?_ _); rotate_left; · (first | omega | exact Nat.le_refl _ | (simp <;> omega))) | (with_reducible refine Below.allocW ?_ _) | (with_reducible refine Below.drew ?_) | (with_reducible refine Below.extW ?_ _))) hb3
      have s3 : w.heap.size ≤ w3.heap.size := B3.size
      have cc3 := blk_cell (blk_below K2.out hb3)
      have K3 := Lib.hid (blk_below K2.out hb3)
      clear cc2
      go_wp2_with fail
      refine (wave_At _ base g s (-1) (HW.out.below (by repeat (first | with_reducible exact Below.refl _ _ | with_reducible assumption | ((with_reducible refine Below.setCell ?_ ?_ _); rotate_left; · (first | omega | exact Nat.le_refl _ | (simp <;> omega))) | (with_reducible refine Below.allocW ?_ _) | (with_reducible refine Below.drew ?_) | (with_reducible refine Below.extW ?_ _))))).mono ?_
      rintro e w4 ⟨rfl, hb4⟩
      have B4 : Below w.heap.size w w4 := Below.then_ (by repeat (first | with_reducible exact Below.refl _ _ | with_reducible assumption | ((with_reducible refine Below.setCell ?_ ?_ _); rotate_left; · (first | omega | exact Nat.le_refl _ | (simp <;> omega))) | (with_reducible refine Below.allocW ?_ _) | (with_reducible refine Below.drew ?_) | (with_reducible refine Below.extW ?_ _))) hb4
      have s4 : w.heap.size ≤ w4.heap.size := B4.size
      have z4_0 : w3.heap.size < w4.heap.size := by have := hb4.size; (try simp at this); omega
      have y4_0 : w3.heap.size ≤ w4.heap.size := Nat.le_of_lt z4_0
      have c4_0 := fun o => hb4.cell (p := ⟨w3.heap.size, o, none⟩) (by first | omega | (simp <;> omega))
      have f4_0 := fun o => hb4.frozen (p := ⟨w3.heap.size, o, none⟩) (by first | omega | (simp <;> omega))
      rw [EB.out]
      unfold atV
      have zz3 := lt_of_block K3.out
      have k4 := blk_below ((heap_new_lt _ _ w.heap.size zz3).trans K3.out) hb4
      have cc4 := blk_cell k4
      have K4 := Lib.hid k4
      have m4 := blk_below (heap_new_at w3 (.cells #[.int .i64 s.sent, .int .i64 s.taken, .int .i64 s.lost, .int .i64 s.copied, .int .i64 s.spoilt] 48) _ rfl) hb4
      have M4 := Lib.hid m4
      clear cc3 k4 m4 c4_0 f4_0
      go_wp2_with fail
      refine (wave_At _ base g s (s.items.length : Int) (HW.out.below B4)).mono ?_
      rintro e w5 ⟨rfl, hb5⟩
      have B5 : Below w.heap.size w w5 := Below.then_ (by repeat (first | with_reducible exact Below.refl _ _ | with_reducible assumption | ((with_reducible refine Below.setCell ?_ ?_ _); rotate_left; · (first | omega | exact Nat.le_refl _ | (simp <;> omega))) | (with_reducible refine Below.allocW ?_ _) | (with_reducible refine Below.drew ?_) | (with_reducible refine Below.extW ?_ _))) hb5
      have s5 : w.heap.size ≤ w5.heap.size := B5.size
      rw [EC.out]
      unfold atV
      have cc5 := blk_cell (blk_below K4.out hb5)
      have cd5 := blk_cell (blk_below M4.out hb5)
      clear cc4
      go_wp2_with fail
      go_ret
      exact ⟨rfl, (by repeat (first | with_reducible exact Below.refl _ _ | with_reducible assumption | ((with_reducible refine Below.setCell ?_ ?_ _); rotate_left; · (first | omega | exact Nat.le_refl _ | (simp <;> omega))) | (with_reducible refine Below.allocW ?_ _) | (with_reducible refine Below.drew ?_) | (with_reducible refine Below.extW ?_ _)))⟩

/-- What holds ahead of the call k. -/
structure PlaysInv (k : Nat) (s : WS) : Prop where
  sent : s.sent ≤ k
  taken : s.taken ≤ k
  lost : s.lost ≤ k
  copied : s.copied ≤ k
  spoilt : s.spoilt ≤ k
  le : s.items.length ≤ 256
  sizes : ∀ x ∈ s.items, x.2.size ≤ maxLen
theorem PlaysInv.small {k : Nat} {s : WS} (h : PlaysInv k s) (hk : k ≤ 150) : s.small := by
  obtain ⟨h1, h2, h3, h4, h5, _⟩ := h
  unfold WS.small
  omega
theorem PlaysInv.more {k : Nat} {s : WS} (h : PlaysInv k s) : PlaysInv (k + 1) s :=
  ⟨by have := h.sent; omega, by have := h.taken; omega, by have := h.lost; omega, by have := h.copied; omega, by have := h.spoilt; omega, h.le, h.sizes⟩
theorem cut_sizes {s : WS} {k : Nat} (h : ∀ x ∈ s.items, x.2.size ≤ maxLen) : ∀ x ∈ (s.cut k).items, x.2.size ≤ maxLen := by
  intro x hx
  simp only [WS.cut, List.mem_append] at hx
  rcases hx with hx | hx
  · exact h x (List.mem_of_mem_take hx)
  · exact h x (List.mem_of_mem_drop hx)
theorem cut_le {s : WS} {k : Nat} (h : s.items.length ≤ 256) : (s.cut k).items.length ≤ 256 := by
  simp only [WS.cut, List.length_append, List.length_take, List.length_drop]
  omega
theorem spoilT_size (t : ByteArray) (a : Nat) (b : Int) : (spoilT t a b).size = t.size := by
  unfold spoilT
  rw [strOfNums_size, List.length_set, nums_len]
theorem getD_sizes {s : WS} {k : Nat} (h : ∀ x ∈ s.items, x.2.size ≤ maxLen) : (s.items.getD k (0, ⟨#[]⟩)).2.size ≤ maxLen := by
  by_cases hk : k < s.items.length
  · simp only [List.getD_eq_getElem?_getD, List.getElem?_eq_getElem hk, Option.getD_some]
    exact h _ (List.getElem_mem hk)
  · simp only [List.getD_eq_getElem?_getD, List.getElem?_eq_none (Nat.le_of_not_lt hk), Option.getD_none]
    simp [ByteArray.size]
theorem PlaysInv.do_ {k : Nat} {s : WS} (h : PlaysInv k s) (o : OpS) (ho : o.ok) : PlaysInv (k + 1) (s.do_ o).1 := by
  obtain ⟨h1, h2, h3, h4, h5, h6, h7⟩ := h
  have hm : PlaysInv (k + 1) s := (PlaysInv.mk h1 h2 h3 h4 h5 h6 h7).more
  unfold WS.do_
  split
  · unfold WS.send
    split
    · exact hm
    · refine ⟨by simp only; omega, by simp only; omega, by simp only; omega, by simp only; omega, by simp only; omega, by simp; omega, ?_⟩
      intro x hx
      simp only [List.mem_append, List.mem_singleton] at hx
      rcases hx with hx | rfl
      · exact h7 x hx
      · exact ho.2.2
  · split
    · unfold WS.take
      split
      · exact ⟨by simp only [WS.cut]; omega, by simp only [WS.cut]; omega, by simp only [WS.cut]; omega, by simp only [WS.cut]; omega, by simp only [WS.cut]; omega, cut_le h6, cut_sizes h7⟩
      · exact hm
    · split
      · unfold WS.lose
        split
        · exact ⟨by simp only [WS.cut]; omega, by simp only [WS.cut]; omega, by simp only [WS.cut]; omega, by simp only [WS.cut]; omega, by simp only [WS.cut]; omega, cut_le h6, cut_sizes h7⟩
        · exact hm
      · split
        · unfold WS.spoil
          split
          · refine ⟨by simp only; omega, by simp only; omega, by simp only; omega, by simp only; omega, by simp only; omega, by simp; omega, ?_⟩
            intro x hx
            rcases List.mem_or_eq_of_mem_set hx with hx | rfl
            · exact h7 x hx
            · simp only [spoilT_size]
              exact getD_sizes h7
          · exact hm
        · unfold WS.copy
          split
          · split
            · exact hm
            · refine ⟨by simp only; omega, by simp only; omega, by simp only; omega, by simp only; omega, by simp only; omega, by simp; omega, ?_⟩
              intro x hx
              simp only [List.mem_append, List.mem_singleton] at hx
              rcases hx with hx | rfl
              · exact h7 x hx
              · exact getD_sizes h7
          · exact hm
end Go.Proofs.Ytclkcbhghbdffaa
