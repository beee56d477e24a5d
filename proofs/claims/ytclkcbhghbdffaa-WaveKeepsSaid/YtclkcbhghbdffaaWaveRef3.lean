/- The reference of chapter 30: Spoil. -/
import Derived.Test.YtclkcbhghbdffaaWaveRef2
namespace Go.Proofs.Ytclkcbhghbdffaa
open Go.ChangeShapes Go.WideShapes Go.ChangeAt Go.RowKit
set_option linter.unusedVariables false
attribute [local go_sem ↓] Go.wp_at_zero Go.wp_at_succ

set_option maxRecDepth 100000 in
theorem ref_Spoil_no (w : World) (A : Option Addr) (n cap : Nat) (s : WS) (i a b : Int) (h : RV w A n cap s) (hi : s.has i = false) :
    Calls Try.prog 30 #[rvV A n cap s, .int .i64 i, .int .i64 a, .int .u8 b] w (RefPost w s 2) := by
  obtain rfl := h.1
  have HV := Lib.hid h
  clear h
  unfold rvV
  go_enter Try.func30, Try.ntmps30
  go_wp2_with fail
  refine (ref_has _ _ _ _ s i rfl).mono ?_
  rintro e w1 ⟨rfl, hb1⟩
  have B1 : Below w.heap.size w w1 := Below.then_ (by repeat (first | with_reducible exact Below.refl _ _ | with_reducible assumption | ((with_reducible refine Below.setCell ?_ ?_ _); rotate_left; · (first | omega | exact Nat.le_refl _ | (simp <;> omega))) | (with_reducible refine Below.allocW ?_ _) | (with_reducible refine Below.drew ?_) | (with_reducible refine Below.extW ?_ _))) hb1
  have s1 : w.heap.size ≤ w1.heap.size := B1.size
  have z1_0 : w.heap.size < w1.heap.size := by have := hb1.size; (try simp at this); omega
  have y1_0 : w.heap.size ≤ w1.heap.size := Nat.le_of_lt z1_0
  have c1_0 := fun o => hb1.cell (p := ⟨w.heap.size, o, none⟩) (by first | omega | (simp <;> omega))
  have f1_0 := fun o => hb1.frozen (p := ⟨w.heap.size, o, none⟩) (by first | omega | (simp <;> omega))
  have z1_1 : w.heap.size + 1 < w1.heap.size := by have := hb1.size; (try simp at this); omega
  have y1_1 : w.heap.size + 1 ≤ w1.heap.size := Nat.le_of_lt z1_1
  have c1_1 := fun o => hb1.cell (p := ⟨w.heap.size + 1, o, none⟩) (by first | omega | (simp <;> omega))
  have f1_1 := fun o => hb1.frozen (p := ⟨w.heap.size + 1, o, none⟩) (by first | omega | (simp <;> omega))
  rw [hi]
  go_wp2_with fail
  refine bodyPost_ret (v := .tuple #[rvV A s.items.length cap s, .int .i64 2]) (by simp only [results, Try.results30]; go_simp) rfl ⟨⟨A, _, cap, rfl, RV.below HV.out (by repeat (first | with_reducible exact Below.refl _ _ | with_reducible assumption | ((with_reducible refine Below.setCell ?_ ?_ _); rotate_left; · (first | omega | exact Nat.le_refl _ | (simp <;> omega))) | (with_reducible refine Below.allocW ?_ _) | (with_reducible refine Below.drew ?_) | (with_reducible refine Below.extW ?_ _)))⟩, (by repeat (first | with_reducible exact Below.refl _ _ | with_reducible assumption | ((with_reducible refine Below.setCell ?_ ?_ _); rotate_left; · (first | omega | exact Nat.le_refl _ | (simp <;> omega))) | (with_reducible refine Below.allocW ?_ _) | (with_reducible refine Below.drew ?_) | (with_reducible refine Below.extW ?_ _)))⟩

set_option maxRecDepth 100000 in
theorem ref_Spoil_arg (w : World) (A : Option Addr) (n cap : Nat) (s : WS) (k : Nat) (a b : Int) (h : RV w A n cap s) (hi : s.has k = true) (hk : k < s.items.length) (ha : a < 0 ∨ (s.items[k].2.size : Int) ≤ a) :
    Calls Try.prog 30 #[rvV A n cap s, .int .i64 k, .int .i64 a, .int .u8 b] w (RefPost w s 2) := by
  obtain rfl := h.1
  have HV := Lib.hid h
  obtain ⟨bb, off, rfl, hT, hc⟩ := h.2.1.at_ hk
  have hbb := hT.lt
  have d1 := hc 1 (.string s.items[k].2) rfl
  have i0 : (0 : Int) ≤ (k : Int) := by omega
  have i1 : (k : Int) < (s.items.length : Int) := by omega
  clear hc h
  unfold rvV
  by_cases h0 : a < 0
  all_goals
    have h1 : ¬ a < 0 → (s.items[k].2.size : Int) ≤ a := fun _ => by omega
    go_enter Try.func30, Try.ntmps30
    go_wp2_with fail
    refine (ref_has _ _ _ _ s k rfl).mono ?_
    rintro e w1 ⟨rfl, hb1⟩
    have B1 : Below w.heap.size w w1 := Below.then_ (by repeat (first | with_reducible exact Below.refl _ _ | with_reducible assumption | ((with_reducible refine Below.setCell ?_ ?_ _); rotate_left; · (first | omega | exact Nat.le_refl _ | (simp <;> omega))) | (with_reducible refine Below.allocW ?_ _) | (with_reducible refine Below.drew ?_) | (with_reducible refine Below.extW ?_ _))) hb1
    have s1 : w.heap.size ≤ w1.heap.size := B1.size
    have z1_0 : w.heap.size < w1.heap.size := by have := hb1.size; (try simp at this); omega
    have y1_0 : w.heap.size ≤ w1.heap.size := Nat.le_of_lt z1_0
    have c1_0 := fun o => hb1.cell (p := ⟨w.heap.size, o, none⟩) (by first | omega | (simp <;> omega))
    have f1_0 := fun o => hb1.frozen (p := ⟨w.heap.size, o, none⟩) (by first | omega | (simp <;> omega))
    have z1_1 : w.heap.size + 1 < w1.heap.size := by have := hb1.size; (try simp at this); omega
    have y1_1 : w.heap.size + 1 ≤ w1.heap.size := Nat.le_of_lt z1_1
    have c1_1 := fun o => hb1.cell (p := ⟨w.heap.size + 1, o, none⟩) (by first | omega | (simp <;> omega))
    have f1_1 := fun o => hb1.frozen (p := ⟨w.heap.size + 1, o, none⟩) (by first | omega | (simp <;> omega))
    rw [hi]
    have d1' : w1.cell? ⟨bb, off + k * 2 + 1, none⟩ = some (.string s.items[k].2) := (B1.cell (p := ⟨bb, _, none⟩) hbb).trans d1
    try have h2 := h1 h0
    clear h1 ha d1
    go_wp2_with fail
    refine bodyPost_ret (v := .tuple #[rvV (some ⟨bb, off, none⟩) s.items.length cap s, .int .i64 2]) (by simp only [results, Try.results30]; go_simp) rfl ⟨⟨_, _, cap, rfl, RV.below HV.out (by repeat (first | with_reducible exact Below.refl _ _ | with_reducible assumption | ((with_reducible refine Below.setCell ?_ ?_ _); rotate_left; · (first | omega | exact Nat.le_refl _ | (simp <;> omega))) | (with_reducible refine Below.allocW ?_ _) | (with_reducible refine Below.drew ?_) | (with_reducible refine Below.extW ?_ _)))⟩, (by repeat (first | with_reducible exact Below.refl _ _ | with_reducible assumption | ((with_reducible refine Below.setCell ?_ ?_ _); rotate_left; · (first | omega | exact Nat.le_refl _ | (simp <;> omega))) | (with_reducible refine Below.allocW ?_ _) | (with_reducible refine Below.drew ?_) | (with_reducible refine Below.extW ?_ _)))⟩

set_option maxRecDepth 100000 in
theorem ref_Spoil_ok (w : World) (A : Option Addr) (n cap : Nat) (s : WS) (k a : Nat) (b : Int) (h : RV w A n cap s) (hs : s.small) (hlen : s.items.length ≤ 256) (hi : s.has k = true) (hk : k < s.items.length) (ha : a < s.items[k].2.size) (hsz : s.items[k].2.size ≤ maxLen) (hB : 0 ≤ b ∧ b ≤ 255) :
    Calls Try.prog 30 #[rvV A n cap s, .int .i64 k, .int .i64 a, .int .u8 b] w
      (RefPost w { s with items := s.items.set k (s.items[k].1, spoilT s.items[k].2 a b), spoilt := s.spoilt + 1 } 0) := by
  obtain rfl := h.1
  obtain ⟨_, hST, hlc, hm⟩ := h
  obtain ⟨bb, off, rfl, hT, hc⟩ := hST.at_ hk
  have hbb := hT.lt
  have d1 := hc 1 (.string s.items[k].2) rfl
  have i0 : (0 : Int) ≤ (k : Int) := by omega
  have i1 : (k : Int) < (s.items.length : Int) := by omega
  have HC := bytesConv s.items[k].2 a ha b
  generalize ht : spoilT s.items[k].2 a b = t at HC ⊢
  generalize hx : (nums s.items[k].2).getD a 0 = x at HC
  have hxy : bits .xor .u8 x b = xorB x b := rfl
  generalize hy : xorB x b = y at HC hxy
  have hcv := HC.conv
  have hcz := HC.size
  have hco := HC.old
  have hcf := HC.oldf
  have hcc := HC.cell
  have hcg := HC.frozen
  have hcb := Lib.hid HC.backAny
  clear HC ht hx hy
  have ha1 : (a : Int) < (s.items[k].2.size : Int) := by omega
  have ha0 : ¬ (a : Int) < 0 := by omega
  have ha2 : (0 : Int) ≤ (a : Int) := by omega
  unfold maxLen at hsz
  have HST := Lib.hid hST
  clear hc hST
  unfold rvV
  go_enter Try.func30, Try.ntmps30
  go_wp2_with fail
  refine (ref_has _ _ _ _ s k rfl).mono ?_
  rintro e w1 ⟨rfl, hb1⟩
  have B1 : Below w.heap.size w w1 := Below.then_ (by repeat (first | with_reducible exact Below.refl _ _ | with_reducible assumption | ((with_reducible refine Below.setCell ?_ ?_ _); rotate_left; · (first | omega | exact Nat.le_refl _ | (simp <;> omega))) | (with_reducible refine Below.allocW ?_ _) | (with_reducible refine Below.drew ?_) | (with_reducible refine Below.extW ?_ _))) hb1
  have s1 : w.heap.size ≤ w1.heap.size := B1.size
  have z1_0 : w.heap.size < w1.heap.size := by have := hb1.size; (try simp at this); omega
  have y1_0 : w.heap.size ≤ w1.heap.size := Nat.le_of_lt z1_0
  have c1_0 := fun o => hb1.cell (p := ⟨w.heap.size, o, none⟩) (by first | omega | (simp <;> omega))
  have f1_0 := fun o => hb1.frozen (p := ⟨w.heap.size, o, none⟩) (by first | omega | (simp <;> omega))
  have z1_1 : w.heap.size + 1 < w1.heap.size := by have := hb1.size; (try simp at this); omega
  have y1_1 : w.heap.size + 1 ≤ w1.heap.size := Nat.le_of_lt z1_1
  have c1_1 := fun o => hb1.cell (p := ⟨w.heap.size + 1, o, none⟩) (by first | omega | (simp <;> omega))
  have f1_1 := fun o => hb1.frozen (p := ⟨w.heap.size + 1, o, none⟩) (by first | omega | (simp <;> omega))
  rw [hi]
  have d1' : w1.cell? ⟨bb, off + k * 2 + 1, none⟩ = some (.string s.items[k].2) := (B1.cell (p := ⟨bb, _, none⟩) hbb).trans d1
  have lb : bb < w1.heap.size := by omega
  have K0 := Lib.hid (blk_below ((heap_new_lt _ _ w.heap.size (by simp)).trans (heap_new_at w (.cells #[.slice (some ⟨bb, off, none⟩) s.items.length cap, .int .i64 s.sent, .int .i64 s.taken, .int .i64 s.lost, .int .i64 s.copied, .int .i64 s.spoilt] 36) _ rfl)) hb1)
  have K1 := Lib.hid (blk_below (heap_new_at (w.alloc _) _ (w.heap.size + 1) (by simp)) hb1)
  have HS1 := Lib.hid (HST.out.below B1)
  clear d1
  have BX : Below w1.heap.size w1 ((Lib.bytesWorld w1 5 s.items[k].2).setCell ⟨w1.heap.size, a, none⟩ (.int .u8 y)) := (bytes_below w1 _ _).setCell (Nat.le_refl _) _
  have HBX := Lib.hid BX
  clear BX
  go_wp2_with ((at_builtin; refine wpList_app tyJ rfl _ _ rfl encI w1.heap.size _ [] rfl (Own.nil _ _ _ _) (some ⟨bb, off, none⟩) cap s.items w1.heap.size ?c0 ?c1 ?c2 ?c3 ?c4 ?c5))
  case c0 => rfl
  case c1 => exact HS1.out.sl.keep (Nat.le_refl _) fun p hp => HBX.out.cell hp
  case c2 => (try simp only [List.length_nil]); omega
  case c3 => (try simp only [List.length_nil]); simp only [maxLen]; omega
  case c4 => exact HBX.out.size
  case c5 =>
    intro v2 w2 ho2 hg2 hl2 hb2 _
    have hbw := HBX.out.trans hb2
    have b0 := blk_below K0.out hbw
    have b1 := blk_below K1.out hbw
    have hcv2 := fun c => hcb.out w1 w2 c (fun j => World.cell?_of_block (hg2.block w1.heap.size (by rw [World.size_setCell, hcz]; omega) (by simp [Value.ownBlock])))
    have B2 := Below.then_ B1 hbw
    have z2 : w.heap.size + 1 < w2.heap.size := Nat.lt_of_lt_of_le z1_1 hbw.size
    obtain ⟨A2, n2, c2, rfl, hn2⟩ := own_form ho2
    obtain ⟨b2, o2, rfl, hT2, _⟩ := (Own.slT ho2).at_ hk
    have hbase := (ho2.lt b2 rfl).1
    have hc3 : w2.cell? ⟨b2, o2 + k * 2 + 1, none⟩ = some (.string s.items[k].2) := ho2.slT.cell_at hk 1 (.string s.items[k].2) rfl
    have hf3 := ho2.frozen (o2 + k * 2 + 1)
    obtain rfl : n2 = s.items.length := hn2
    have HO2 := Lib.hid (ho2.setElem k 1 hk (by decide) (.string t) (s.items[k].1, t) rfl)
    have K2 := Lib.hid b0
    have K3 := Lib.hid b1
    have n0 : b2 ≠ w.heap.size := by omega
    have n0' : w.heap.size ≠ b2 := by omega
    have n1 : b2 ≠ w.heap.size + 1 := by omega
    have cc0 := blk_cell b0
    have cf0 := blk_frozen b0
    have cfs : ∀ p v o, (w2.setCell p v).frozen? ⟨w.heap.size, o, none⟩ = false := fun p v o => (World.frozen?_setCell _ _ _ _).trans (cf0 o)
    have cds : ∀ v o, (w2.setCell ⟨b2, o2 + k * 2 + 1, none⟩ v).cell? ⟨w.heap.size, o, none⟩ = _ := fun v o => (World.cell?_setCell_other _ _ _ _ (by intro h; injection h with h; exact n0 h)).trans (cc0 o)
    clear ho2 hl2 b0 b1 c1_0 f1_0 c1_1 f1_1 d1' hcb hcv hcz hco hcf hcc hcg
    go_wp2_with fail
    have eb : ({ s with items := s.items.set k (s.items[k].1, t) } : WS).bump 4 = { s with items := s.items.set k (s.items[k].1, t), spoilt := s.spoilt + 1 } := rfl
    have O2 : Own ((w2.setCell ⟨b2, o2 + k * 2 + 1, none⟩ (.string t)).setCell ⟨w.heap.size, 0, none⟩ (.slice (some ⟨b2, o2, none⟩) s.items.length c2)) w1.heap.size 40 encI (.slice (some ⟨b2, o2, none⟩) s.items.length c2) (s.items.set k (s.items[k].1, t)) := HO2.out.setCellB z1_0
    have T3 : TypeAt ((w2.setCell ⟨b2, o2 + k * 2 + 1, none⟩ (.string t)).setCell ⟨w.heap.size, 0, none⟩ (.slice (some ⟨b2, o2, none⟩) s.items.length c2)) (w.heap.size + 1) 36 := ((TypeAt.of K3.out).setCell).setCell
    have BB : Below w.heap.size w ((w2.setCell ⟨b2, o2 + k * 2 + 1, none⟩ (.string t)).setCell ⟨w.heap.size, 0, none⟩ (.slice (some ⟨b2, o2, none⟩) s.items.length c2)) := (B2.setCell (by simp only; omega) _).setCell (by simp only; omega) _
    have HO3 := Lib.hid O2
    have b1 := blk_cell K3.out
    have b1f := blk_frozen K3.out
    clear O2
    refine (ref_count _ _ _ c2 { s with items := s.items.set k (s.items[k].1, t) } 4 (by decide) hs).mono ?_
    rintro e w4 ⟨rfl, hb4⟩
    have B4 := Below.then_ BB hb4
    have z4 : w.heap.size + 1 < w4.heap.size := by have := hb4.size; simp at this; omega
    have c4 := fun o => (hb4.cell (p := ⟨w.heap.size + 1, o, none⟩) (by simp; omega))
    have f4 := fun o => (hb4.frozen (p := ⟨w.heap.size + 1, o, none⟩) (by simp; omega))
    have O4 := HO3.out.below hb4
    go_wp2_with fail
    refine bodyPost_ret (v := .tuple #[rvV (some ⟨b2, o2, none⟩) s.items.length c2 { s with items := s.items.set k (s.items[k].1, t), spoilt := s.spoilt + 1 }, .int .i64 0]) (by simp only [results, Try.results30]; go_simp) rfl ⟨⟨_, _, c2, rfl, ?_⟩, (by repeat (first | with_reducible exact Below.refl _ _ | with_reducible assumption | ((with_reducible refine Below.setCell ?_ ?_ _); rotate_left; · (first | omega | exact Nat.le_refl _ | (simp <;> omega))) | (with_reducible refine Below.allocW ?_ _) | (with_reducible refine Below.drew ?_) | (with_reducible refine Below.extW ?_ _)))⟩
    exact RV.of_own (base := w1.heap.size) (l := s.items.set k (s.items[k].1, t)) (by (repeat (first | with_reducible assumption | ((with_reducible refine Own.setCellB ?_ ?_); rotate_left; · (first | omega | (simp <;> omega))) | with_reducible refine Own.alloc ?_ _ | with_reducible refine Own.drew ?_))) rfl

theorem ref_Spoil (w : World) (A : Option Addr) (n cap : Nat) (s : WS) (i a b : Int) (h : RV w A n cap s) (hs : s.small) (hlen : s.items.length ≤ 256) (hsz : ∀ x ∈ s.items, x.2.size ≤ maxLen) (hB : 0 ≤ b ∧ b ≤ 255) :
    Calls Try.prog 30 #[rvV A n cap s, .int .i64 i, .int .i64 a, .int .u8 b] w (RefPost w (s.spoil i a b).1 (s.spoil i a b).2) := by
  cases hi : s.has i
  · have e : s.spoil i a b = (s, 2) := by simp [WS.spoil, hi]
    rw [e]
    exact ref_Spoil_no w A n cap s i a b h hi
  · obtain ⟨k, rfl, hk⟩ := WS.has_tt hi
    by_cases ha : 0 ≤ a ∧ a < (s.items[k].2.size : Int)
    · obtain ⟨a', rfl⟩ := Int.eq_ofNat_of_zero_le ha.1
      have e : s.spoil k a' b = ({ s with items := s.items.set k (s.items[k].1, spoilT s.items[k].2 a' b), spoilt := s.spoilt + 1 }, 0) := by
        unfold WS.spoil
        rw [if_pos ⟨hi, by simpa [hk] using ha⟩]
        simp [hk]
      rw [e]
      exact ref_Spoil_ok w A n cap s k a' b h hs hlen hi hk (by omega) (hsz _ (List.getElem_mem hk)) hB
    · have e : s.spoil k a b = (s, 2) := by
        unfold WS.spoil
        rw [if_neg]
        intro hc
        exact ha (by simpa [hk] using hc.2)
      rw [e]
      exact ref_Spoil_arg w A n cap s k a b h hi hk (by omega)
end Go.Proofs.Ytclkcbhghbdffaa
