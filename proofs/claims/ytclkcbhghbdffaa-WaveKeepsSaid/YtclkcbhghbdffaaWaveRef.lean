/- The reference of chapter 30: what its functions answer. -/
import Derived.Test.YtclkcbhghbdffaaWaveSpoil
import Derived.Test.YtclkcbhghbdffaaTail
namespace Go.Proofs.Ytclkcbhghbdffaa
open Go.ChangeShapes Go.WideShapes Go.ChangeAt Go.RowKit
set_option linter.unusedVariables false
attribute [local go_sem ↓] Go.wp_at_zero Go.wp_at_succ

theorem tyJ : SliceTy Try.prog 33 40 2 24 (.agg #[.int .i64 0, .string ⟨#[]⟩]) := ⟨Try.underlying33, by kernel_rfl, rfl, by decide⟩
/-- The document's wave, as a value. -/
abbrev rvV (A : Option Addr) (n cap : Nat) (s : WS) : Value := .agg #[.slice A n cap, .int .i64 s.sent, .int .i64 s.taken, .int .i64 s.lost, .int .i64 s.copied, .int .i64 s.spoilt]
/-- Its list can be read. -/
def RV (w : World) (A : Option Addr) (n cap : Nat) (s : WS) : Prop := n = s.items.length ∧ SlT w 40 encI A s.items ∧ s.items.length ≤ cap ∧ cap ≤ maxLen
theorem RV.below {w w' : World} {A : Option Addr} {n cap : Nat} {s : WS} (h : RV w A n cap s) (hb : Below w.heap.size w w') : RV w' A n cap s :=
  ⟨h.1, h.2.1.below hb, h.2.2⟩
theorem RV.of_own {w : World} {base n cap : Nat} {A : Option Addr} {s : WS} {l : List It} (h : Own w base 40 encI (.slice A n cap) l) (hl : l = s.items) : RV w A n cap s := by
  subst hl
  exact ⟨h.len_le.1, h.slT, h.len_le.2⟩
theorem RV.drew {w : World} {A : Option Addr} {n cap : Nat} {s : WS} (h : RV w A n cap s) : RV w.drew A n cap s := h
theorem own_form {w : World} {base e : Nat} {v : Value} {l : List It} (h : Own w base e encI v l) : ∃ A n cap, v = .slice A n cap ∧ n = l.length := by
  obtain ⟨A, cap, hv, _⟩ := h.form
  exact ⟨A, _, cap, hv, rfl⟩

def WS.bump (s : WS) : Nat → WS
  | 0 => { s with sent := s.sent + 1 }
  | 1 => { s with taken := s.taken + 1 }
  | 2 => { s with lost := s.lost + 1 }
  | 3 => { s with copied := s.copied + 1 }
  | _ => { s with spoilt := s.spoilt + 1 }
theorem WS.bump_items (s : WS) (k : Nat) : (s.bump k).items = s.items := by unfold WS.bump; split <;> rfl

theorem ref_count (w : World) (A : Option Addr) (n cap : Nat) (s : WS) (k : Nat) (hk : k < 5) (hs : s.small) :
    Calls Try.prog 34 #[rvV A n cap s, .int .i64 k] w fun e w' => e = .returned (rvV A n cap (s.bump k)) ∧ Below w.heap.size w w' := by
  obtain ⟨h0, h1, h2, h3, h4⟩ := hs
  have h0' : (s.sent : Int) < 4611686018427387904 := by omega
  have h1' : (s.taken : Int) < 4611686018427387904 := by omega
  have h2' : (s.lost : Int) < 4611686018427387904 := by omega
  have h3' : (s.copied : Int) < 4611686018427387904 := by omega
  have h4' : (s.spoilt : Int) < 4611686018427387904 := by omega
  clear h0 h1 h2 h3 h4
  unfold rvV
  match k, hk with
  | 0, _ =>
    go_enter Try.func34, Try.ntmps34
    go_wp2
    exact bodyPost_ret (v := .agg #[.slice A n cap, .int .i64 (s.sent + 1), .int .i64 s.taken, .int .i64 s.lost, .int .i64 s.copied, .int .i64 s.spoilt]) (by simp only [results, Try.results34]; go_simp) rfl ⟨by simp [rvV, WS.bump], (by repeat (first | with_reducible exact Below.refl _ _ | with_reducible assumption | ((with_reducible refine Below.setCell ?_ ?_ _); rotate_left; · (first | omega | exact Nat.le_refl _ | (simp <;> omega))) | (with_reducible refine Below.allocW ?_ _) | (with_reducible refine Below.drew ?_) | (with_reducible refine Below.extW ?_ _)))⟩
  | 1, _ =>
    go_enter Try.func34, Try.ntmps34
    go_wp2
    exact bodyPost_ret (v := .agg #[.slice A n cap, .int .i64 s.sent, .int .i64 (s.taken + 1), .int .i64 s.lost, .int .i64 s.copied, .int .i64 s.spoilt]) (by simp only [results, Try.results34]; go_simp) rfl ⟨by simp [rvV, WS.bump], (by repeat (first | with_reducible exact Below.refl _ _ | with_reducible assumption | ((with_reducible refine Below.setCell ?_ ?_ _); rotate_left; · (first | omega | exact Nat.le_refl _ | (simp <;> omega))) | (with_reducible refine Below.allocW ?_ _) | (with_reducible refine Below.drew ?_) | (with_reducible refine Below.extW ?_ _)))⟩
  | 2, _ =>
    go_enter Try.func34, Try.ntmps34
    go_wp2
    exact bodyPost_ret (v := .agg #[.slice A n cap, .int .i64 s.sent, .int .i64 s.taken, .int .i64 (s.lost + 1), .int .i64 s.copied, .int .i64 s.spoilt]) (by simp only [results, Try.results34]; go_simp) rfl ⟨by simp [rvV, WS.bump], (by repeat (first | with_reducible exact Below.refl _ _ | with_reducible assumption | ((with_reducible refine Below.setCell ?_ ?_ _); rotate_left; · (first | omega | exact Nat.le_refl _ | (simp <;> omega))) | (with_reducible refine Below.allocW ?_ _) | (with_reducible refine Below.drew ?_) | (with_reducible refine Below.extW ?_ _)))⟩
  | 3, _ =>
    go_enter Try.func34, Try.ntmps34
    go_wp2
    exact bodyPost_ret (v := .agg #[.slice A n cap, .int .i64 s.sent, .int .i64 s.taken, .int .i64 s.lost, .int .i64 (s.copied + 1), .int .i64 s.spoilt]) (by simp only [results, Try.results34]; go_simp) rfl ⟨by simp [rvV, WS.bump], (by repeat (first | with_reducible exact Below.refl _ _ | with_reducible assumption | ((with_reducible refine Below.setCell ?_ ?_ _); rotate_left; · (first | omega | exact Nat.le_refl _ | (simp <;> omega))) | (with_reducible refine Below.allocW ?_ _) | (with_reducible refine Below.drew ?_) | (with_reducible refine Below.extW ?_ _)))⟩
  | 4, _ =>
    go_enter Try.func34, Try.ntmps34
    go_wp2
    exact bodyPost_ret (v := .agg #[.slice A n cap, .int .i64 s.sent, .int .i64 s.taken, .int .i64 s.lost, .int .i64 s.copied, .int .i64 (s.spoilt + 1)]) (by simp only [results, Try.results34]; go_simp) rfl ⟨by simp [rvV, WS.bump], (by repeat (first | with_reducible exact Below.refl _ _ | with_reducible assumption | ((with_reducible refine Below.setCell ?_ ?_ _); rotate_left; · (first | omega | exact Nat.le_refl _ | (simp <;> omega))) | (with_reducible refine Below.allocW ?_ _) | (with_reducible refine Below.drew ?_) | (with_reducible refine Below.extW ?_ _)))⟩

theorem ref_has (w : World) (A : Option Addr) (n cap : Nat) (s : WS) (i : Int) (hn : n = s.items.length) :
    Calls Try.prog 35 #[rvV A n cap s, .int .i64 i] w fun e w' => e = .returned (.bool (s.has i)) ∧ Below w.heap.size w w' := by
  subst hn
  unfold rvV
  by_cases h0 : 0 ≤ i
  all_goals
    go_enter Try.func35, Try.ntmps35
    go_wp2
    go_ret
    exact ⟨ret_bool (by simp [WS.has]; omega), (by repeat (first | with_reducible exact Below.refl _ _ | with_reducible assumption | ((with_reducible refine Below.setCell ?_ ?_ _); rotate_left; · (first | omega | exact Nat.le_refl _ | (simp <;> omega))) | (with_reducible refine Below.allocW ?_ _) | (with_reducible refine Below.drew ?_) | (with_reducible refine Below.extW ?_ _)))⟩

theorem ref_without (w : World) (A : Option Addr) (n cap : Nat) (s : WS) (k : Nat) (h : RV w A n cap s) (hk : k < s.items.length) (hlen : s.items.length ≤ 256) :
    Calls Try.prog 36 #[rvV A n cap s, .int .i64 k] w fun e w' => (∃ A' n' cap', e = .returned (rvV A' n' cap' (s.cut k)) ∧ Own w' w.heap.size 40 encI (.slice A' n' cap') (s.cut k).items) ∧ Below w.heap.size w w' := by
  obtain ⟨rfl, hST, hlc, hm⟩ := h
  have hS := hST.sl
  obtain ⟨b, off, rfl, hbb, _⟩ := hS.at_ hk
  obtain ⟨A2, hA2, hS2, hl2⟩ := cut_src hS hlc k
  have HS2 := Lib.hid hS2
  have HS1 := Lib.hid (hS.take k)
  have HL2 := Lib.hid hl2
  have i0 : (0 : Int) ≤ (k : Int) := by omega
  have i1 : (k : Int) < (s.items.length : Int) := by omega
  have i2 : (k : Int) ≤ (cap : Int) := by omega
  have i3 : (k : Int) + 1 ≤ (s.items.length : Int) := by omega
  have i4 : (0 : Int) ≤ (k : Int) + 1 := by omega
  have j2 : ((k : Int) + 1).toNat = k + 1 := by omega
  clear hS2 hS hl2
  unfold rvV
  go_enter Try.func36, Try.ntmps36
  have h256 : s.items.length ≤ 256 := hlen
  go_wp2_with ((at_builtin; refine wpList_app tyJ rfl _ _ rfl encI w.heap.size _ [] rfl (Own.nil _ _ _ _) (some ⟨b, off, none⟩) cap (s.items.take k) w.heap.size ?c0 ?c1 ?c2 ?c3 ?c4 ?c5))
  case c0 => rw [List.length_take, Nat.min_eq_left (Nat.le_of_lt hk)]; rfl
  case c1 => exact HS1.out.keep (Nat.le_refl _) fun p hp => by rw [World.cell?_alloc_lt _ _ _ (by simp; omega), World.cell?_alloc_lt _ _ _ hp]
  case c2 => simp; omega
  case c3 => simp [maxLen]; omega
  case c4 => simp; omega
  case c5 =>
    intro v1 w1 ho1 hg1 hl1 hb1 _
    have b0 := blk_grown (heap_new_lt _ _ w.heap.size (by simp) |>.trans (heap_new_at w _ _ rfl)) (Own.nil _ w.heap.size 40 encI) hg1 (by decide)
    have b1 := blk_grown (heap_new_at (w.alloc _) _ (w.heap.size + 1) (by simp)) (Own.nil _ w.heap.size 40 encI) hg1 (by decide)
    have cc0 := blk_cell b0
    have cc1 := blk_cell b1
    have cf0 := blk_frozen b0
    have cf1 := blk_frozen b1
    have K0 := Lib.hid b0
    have K1 := Lib.hid b1
    have HO1 := Lib.hid ho1
    have HL3 : ((s.items.take k).length + (s.items.drop (k + 1)).length) ≤ 256 := by simp; omega
    have HS4 : Sl w1 w.heap.size encI A2 (s.items.drop (k + 1)) := HS2.out.keep (Nat.le_refl _) fun p hp => by
      rw [World.cell?_of_block (hg1.block p.block (by simp; omega) (by simp [Value.ownBlock])), World.cell?_alloc_lt _ _ _ (by simp; omega), World.cell?_alloc_lt _ _ _ hp]
    have HS3 := Lib.hid HS4
    have HL := Lib.hid HL3
    have hz1 : w.heap.size ≤ w1.heap.size := by have := hg1.size; simp at this; omega
    clear HS4 HL3 ho1 hl1 b0 b1
    go_wp2_with ((at_builtin; refine wpList_app tyJ rfl _ _ rfl encI w.heap.size v1 _ rfl HO1.out A2 (cap - (k + 1)) (s.items.drop (k + 1)) w.heap.size ?c0 ?c1 ?c2 ?c3 ?c4 ?c5))
    case c0 => rw [HL2.out]; rfl
    case c1 => exact HS3.out
    case c2 => have := HL.out; omega
    case c3 => have := HL.out; simp only [maxLen]; omega
    case c4 => exact hz1
    case c5 =>
      intro v2 w2 ho2 hg2 hl2 hb2 _
      have b0 := blk_grown K0.out HO1.out hg2 (by decide)
      have b1 := blk_grown K1.out HO1.out hg2 (by decide)
      have dd0 := blk_cell b0
      have dd1 := blk_cell b1
      have df0 := blk_frozen b0
      have df1 := blk_frozen b1
      obtain ⟨A3, n3, c3, rfl, hn3⟩ := own_form ho2
      have ho3 : Own w2 w.heap.size 40 encI (.slice A3 n3 c3) (s.cut k).items := ho2
      have T0 := TypeAt.of b0
      have T1 := TypeAt.of b1
      have B2 : Below w.heap.size w w2 := ((Below.allocW (Below.allocW (Below.refl _ _) _) _).trans hb1).trans hb2
      have z2 := B2.size
      clear ho2 hl2 cc0 cc1 cf0 cf1 b0 b1 hn3
      go_wp2_with fail
      refine bodyPost_ret (v := .agg #[.slice A3 n3 c3, .int .i64 s.sent, .int .i64 s.taken, .int .i64 s.lost, .int .i64 s.copied, .int .i64 s.spoilt]) (by simp only [results, Try.results36]; go_simp) rfl ⟨⟨A3, n3, c3, rfl, ?_⟩, (by repeat (first | with_reducible exact Below.refl _ _ | with_reducible assumption | ((with_reducible refine Below.setCell ?_ ?_ _); rotate_left; · (first | omega | exact Nat.le_refl _ | (simp <;> omega))) | (with_reducible refine Below.allocW ?_ _) | (with_reducible refine Below.drew ?_) | (with_reducible refine Below.extW ?_ _)))⟩
      (repeat (first | with_reducible assumption | ((with_reducible refine Own.setCellT (t := 36) ?_ ?_ (by decide)); rotate_left; · (repeat (first | with_reducible assumption | with_reducible refine TypeAt.setCell ?_ | with_reducible refine TypeAt.alloc ?_ _ | with_reducible refine TypeAt.drew ?_))) | with_reducible refine Own.alloc ?_ _ | with_reducible refine Own.drew ?_))

theorem WS.bump_send (s : WS) (x : It) : ({ s with items := s.items ++ [x] } : WS).bump 0 = { s with items := s.items ++ [x], sent := s.sent + 1 } := rfl

/-- What a reference's function answers: a wave, and a number. -/
def RefPost (w : World) (s' : WS) (n : Nat) (e : Ending) (w' : World) : Prop := (∃ A m cap, e = .returned (.tuple #[rvV A m cap s', .int .i64 n]) ∧ RV w' A m cap s') ∧ Below w.heap.size w w'

set_option maxRecDepth 100000 in
theorem ref_Send (w : World) (A : Option Addr) (n cap : Nat) (s : WS) (x : It) (h : RV w A n cap s) (hs : s.small) (hlen : s.items.length ≤ 256) :
    Calls Try.prog 27 #[rvV A n cap s, .agg #[.int .i64 x.1, .string x.2]] w (RefPost w (s.send x).1 (s.send x).2) := by
  obtain ⟨rfl, hST, hlc, hm⟩ := h
  have hS := hST.sl
  by_cases hfull : s.items.length = 256
  · have e1 : s.send x = (s, 21) := by simp [WS.send, hfull]
    have ht : (256 : Int) ≤ (s.items.length : Int) := by omega
    have HS := Lib.hid hS
    clear hS
    rw [e1]
    unfold rvV
    go_enter Try.func27, Try.ntmps27
    go_wp2_with fail
    refine bodyPost_ret (v := .tuple #[.agg #[.slice A s.items.length cap, .int .i64 s.sent, .int .i64 s.taken, .int .i64 s.lost, .int .i64 s.copied, .int .i64 s.spoilt], .int .i64 21]) (by simp only [results, Try.results27]; go_simp) rfl ⟨⟨A, _, cap, rfl, ?_⟩, (by repeat (first | with_reducible exact Below.refl _ _ | with_reducible assumption | ((with_reducible refine Below.setCell ?_ ?_ _); rotate_left; · (first | omega | exact Nat.le_refl _ | (simp <;> omega))) | (with_reducible refine Below.allocW ?_ _) | (with_reducible refine Below.drew ?_) | (with_reducible refine Below.extW ?_ _)))⟩
    exact RV.below ⟨rfl, hST, hlc, hm⟩ (by repeat (first | with_reducible exact Below.refl _ _ | with_reducible assumption | ((with_reducible refine Below.setCell ?_ ?_ _); rotate_left; · (first | omega | exact Nat.le_refl _ | (simp <;> omega))) | (with_reducible refine Below.allocW ?_ _) | (with_reducible refine Below.drew ?_) | (with_reducible refine Below.extW ?_ _)))
  · have e1 : s.send x = ({ s with items := s.items ++ [x], sent := s.sent + 1 }, 0) := by simp [WS.send, hfull]
    have ht : ¬ (256 : Int) ≤ (s.items.length : Int) := by omega
    have HS := Lib.hid hS
    clear hS
    rw [e1]
    unfold rvV
    go_enter Try.func27, Try.ntmps27
    go_wp2_with ((at_builtin; refine wpList_app tyJ rfl _ _ rfl encI w.heap.size _ [] rfl (Own.nil _ _ _ _) A cap s.items w.heap.size ?c0 ?c1 ?c2 ?c3 ?c4 ?c5))
    case c1 => exact HS.out.keep (Nat.le_refl _) fun p hp => by rw [World.cell?_alloc_lt _ _ _ (by simp; omega), World.cell?_alloc_lt _ _ _ (by simp; omega), World.cell?_alloc_lt _ _ _ hp]
    case c2 => (try simp only [List.length_nil]); omega
    case c3 => (try simp only [List.length_nil]); simp only [maxLen]; omega
    case c4 => (try simp); omega
    case c5 =>
      intro v1 w1 ho1 hg1 hl1 hb1 _
      have b0 := blk_grown ((heap_new_lt _ _ w.heap.size (by simp; omega)).trans ((heap_new_lt _ _ w.heap.size (by simp)).trans (heap_new_at w _ _ rfl))) (Own.nil _ w.heap.size 40 encI) hg1 (by decide)
      have b2 := blk_grown (heap_new_at ((w.alloc _).alloc _) _ (w.heap.size + 1 + 1) (by simp)) (Own.nil _ w.heap.size 40 encI) hg1 (by decide)
      have b1 := blk_grown_not ((heap_new_lt _ _ (w.heap.size + 1) (by simp)).trans (heap_new_at (w.alloc _) _ (w.heap.size + 1) (by simp))) hg1 (by simp [Value.ownBlock])
      have cc0 := blk_cell b0
      have cc1 := blk_cell b1
      have cc2 := blk_cell b2
      have cf0 := blk_frozen b0
      have cf1 := blk_frozen b1
      have cf2 := blk_frozen b2
      have K0 := Lib.hid b0
      have K1 := Lib.hid b1
      have K2 := Lib.hid b2
      have HO1 := Lib.hid ho1
      have z1 : w.heap.size + 1 + 1 < w1.heap.size := by have := hg1.size; simp at this; omega
      have B1 : Below w.heap.size w w1 := (Below.allocW (Below.allocW (Below.allocW (Below.refl _ _) _) _) _).trans hb1
      clear ho1 hl1 b0 b1 b2
      go_wp2_with ((at_builtin; refine wpList_push tyJ rfl _ _ rfl encI w1 w.heap.size v1 _ rfl HO1.out x (by go_simp) rfl ?c1 ?c2 ?c3 ?c4))
      case c1 => omega
      case c2 => simp only [maxLen]; omega
      case c3 => omega
      case c4 =>
        intro v2 w2 ho2 hg2 hz2 hl2 hb2 _
        have b0 := blk_grown K0.out HO1.out hg2 (by decide)
        have b2 := blk_grown K2.out HO1.out hg2 (by decide)
        have cc0 := blk_cell b0
        have cc2 := blk_cell b2
        have cf0 := blk_frozen b0
        have cf2 := blk_frozen b2
        have T0 := TypeAt.of b0
        have T2 := TypeAt.of b2
        obtain ⟨A3, n3, c3, rfl, hn3⟩ := own_form ho2
        have HN3 := Lib.hid hn3
        clear hn3
        have B2 : Below w.heap.size w w2 := B1.trans hb2
        have z2 := B2.size
        have z3 : w.heap.size + 1 + 1 < w2.heap.size := by omega
        have HO2 := Lib.hid ho2
        clear ho2 hl2 b0 b2 B1
        go_wp2_with fail
        have eb := WS.bump_send s x
        refine (ref_count _ A3 n3 c3 { s with items := s.items ++ [x] } 0 (by decide) hs).mono ?_
        rintro e w3 ⟨rfl, hb3⟩
        have B3 : Below w.heap.size w w3 := Below.then_ (by repeat (first | with_reducible exact Below.refl _ _ | with_reducible assumption | ((with_reducible refine Below.setCell ?_ ?_ _); rotate_left; · (first | omega | exact Nat.le_refl _ | (simp <;> omega))) | (with_reducible refine Below.allocW ?_ _) | (with_reducible refine Below.drew ?_) | (with_reducible refine Below.extW ?_ _))) hb3
        have s3 : w.heap.size ≤ w3.heap.size := B3.size
        have z3_0 : w.heap.size + 1 + 1 < w3.heap.size := by have := hb3.size; (try simp at this); omega
        have y3_0 : w.heap.size + 1 + 1 ≤ w3.heap.size := Nat.le_of_lt z3_0
        have c3_0 := fun o => hb3.cell (p := ⟨w.heap.size + 1 + 1, o, none⟩) (by first | omega | (simp <;> omega))
        have f3_0 := fun o => hb3.frozen (p := ⟨w.heap.size + 1 + 1, o, none⟩) (by first | omega | (simp <;> omega))
        have HO3 : Own w3 w.heap.size 40 encI (.slice A3 n3 c3) (s.items ++ [x]) := (HO2.out.setCellT T0 (by decide)).below hb3
        have T3 : TypeAt w3 (w.heap.size + 1 + 1) 36 := T2.setCell.below hb3
        go_wp2_with fail
        refine bodyPost_ret (v := .tuple #[rvV A3 n3 c3 { s with items := s.items ++ [x], sent := s.sent + 1 }, .int .i64 0]) (by simp only [results, Try.results27]; go_simp) rfl ⟨⟨A3, n3, c3, rfl, ?_⟩, (by repeat (first | with_reducible exact Below.refl _ _ | with_reducible assumption | ((with_reducible refine Below.setCell ?_ ?_ _); rotate_left; · (first | omega | exact Nat.le_refl _ | (simp <;> omega))) | (with_reducible refine Below.allocW ?_ _) | (with_reducible refine Below.drew ?_) | (with_reducible refine Below.extW ?_ _)))⟩
        exact RV.of_own (base := w.heap.size) (l := s.items ++ [x]) (by (repeat (first | with_reducible assumption | ((with_reducible refine Own.setCellT (t := 36) ?_ ?_ (by decide)); rotate_left; · (repeat (first | with_reducible assumption | with_reducible refine TypeAt.setCell ?_ | with_reducible refine TypeAt.alloc ?_ _ | with_reducible refine TypeAt.drew ?_))) | with_reducible refine Own.alloc ?_ _ | with_reducible refine Own.drew ?_))) rfl

/-- The list lies in new memory. -/
def Fresh (b0 : Nat) (A : Option Addr) : Prop := A = none ∨ ∃ g off, A = some ⟨g, off, none⟩ ∧ b0 ≤ g
theorem own_new {α : Type} {size : Nat} {w : World} {base e n cap b0 : Nat} {A : Option Addr} {E : Enc α size} {l : List α} (h : Own w base e E (.slice A n cap) l) (hb : b0 ≤ base) : Fresh b0 A := by
  rcases h with ⟨hv, _⟩ | ⟨g, off, cap', cur, hv, hg, _⟩
  · cases hv; exact .inl rfl
  · cases hv; exact .inr ⟨g, off, rfl, Nat.le_trans hb hg⟩

/-- The item that is taken. -/
def WS.item (s : WS) (i : Int) : It := s.items.getD i.toNat (0, ⟨#[]⟩)
set_option maxRecDepth 100000 in
theorem ref_Take_ok (w : World) (A : Option Addr) (n cap : Nat) (s : WS) (k : Nat) (h : RV w A n cap s) (hs : s.small) (hlen : s.items.length ≤ 256) (hk : k < s.items.length) (hi : s.has k = true) :
    Calls Try.prog 28 #[rvV A n cap s, .int .i64 k] w fun e w' =>
      (∃ A' n' cap', e = .returned (.tuple #[rvV A' n' cap' { s.cut k with taken := s.taken + 1 }, .agg #[.int .i64 s.items[k].1, .string s.items[k].2], .bool true]) ∧ RV w' A' n' cap' { s.cut k with taken := s.taken + 1 } ∧ Fresh w.heap.size A') ∧ Below w.heap.size w w' := by
  have HV := Lib.hid h
  obtain ⟨rfl, hST, hlc, hm⟩ := h
  have hS := hST.sl
  obtain ⟨b, off, rfl, hbb, hc⟩ := hS.at_ hk
  have d0 := hc 0 (.int .i64 s.items[k].1) rfl
  have d1 := hc 1 (.string s.items[k].2) rfl
  simp only [Nat.add_zero] at d0
  have i0 : (0 : Int) ≤ (k : Int) := by omega
  have i1 : (k : Int) < (s.items.length : Int) := by omega
  clear hc hS
  unfold rvV
  go_enter Try.func28, Try.ntmps28
  go_wp2_with fail
  refine (ref_has _ _ _ _ s k rfl).mono ?_
  rintro e w1 ⟨rfl, hb1⟩
  have B1 : Below w.heap.size w w1 := Below.then_ (by repeat (first | with_reducible exact Below.refl _ _ | with_reducible assumption | ((with_reducible refine Below.setCell ?_ ?_ _); rotate_left; · (first | omega | exact Nat.le_refl _ | (simp <;> omega))) | (with_reducible refine Below.allocW ?_ _) | (with_reducible refine Below.drew ?_) | (with_reducible refine Below.extW ?_ _))) hb1
  have s1 : w.heap.size ≤ w1.heap.size := B1.size
  have z1_0 : w.heap.size < w1.heap.size := by have := hb1.size; (try simp at this); omega
  have y1_0 : w.heap.size ≤ w1.heap.size := Nat.le_of_lt z1_0
  have c1_0 := fun o => hb1.cell (p := ⟨w.heap.size, o, none⟩) (by first | omega | (simp <;> omega))
  have f1_0 := fun o => hb1.frozen (p := ⟨w.heap.size, o, none⟩) (by first | omega | (simp <;> omega))
  have z1_1 : w.heap.size + 1 < w1.heap.size := by have := hb1.size; (try simp at this); omega
  have y1_1 : w.heap.size + 1 ≤ w1.heap.size := Nat.le_of_lt z1_1
  have c1_1 := fun o => hb1.cell (p := ⟨w.heap.size + 1, o, none⟩) (by first | omega | (simp <;> omega))
  have f1_1 := fun o => hb1.frozen (p := ⟨w.heap.size + 1, o, none⟩) (by first | omega | (simp <;> omega))
  have z1_2 : w.heap.size + 1 + 1 < w1.heap.size := by have := hb1.size; (try simp at this); omega
  have y1_2 : w.heap.size + 1 + 1 ≤ w1.heap.size := Nat.le_of_lt z1_2
  have c1_2 := fun o => hb1.cell (p := ⟨w.heap.size + 1 + 1, o, none⟩) (by first | omega | (simp <;> omega))
  have f1_2 := fun o => hb1.frozen (p := ⟨w.heap.size + 1 + 1, o, none⟩) (by first | omega | (simp <;> omega))
  rw [hi]
  have d0' : w1.cell? ⟨b, off + k * 2, none⟩ = some (.int .i64 s.items[k].1) := (B1.cell (p := ⟨b, _, none⟩) hbb).trans d0
  have d1' : w1.cell? ⟨b, off + k * 2 + 1, none⟩ = some (.string s.items[k].2) := (B1.cell (p := ⟨b, _, none⟩) hbb).trans d1
  have lb : b < w1.heap.size := by omega
  go_wp2_with fail
  have q0 : w1.cell? ⟨w.heap.size, 0, none⟩ = some (.slice (some ⟨b, off, none⟩) s.items.length cap) := by go_simp
  have q1 : w1.cell? ⟨w.heap.size, 1, none⟩ = some (.int .i64 s.sent) := by go_simp
  have q2 : w1.cell? ⟨w.heap.size, 2, none⟩ = some (.int .i64 s.taken) := by go_simp
  have q3 : w1.cell? ⟨w.heap.size, 3, none⟩ = some (.int .i64 s.lost) := by go_simp
  have q4 : w1.cell? ⟨w.heap.size, 4, none⟩ = some (.int .i64 s.copied) := by go_simp
  have q5 : w1.cell? ⟨w.heap.size, 5, none⟩ = some (.int .i64 s.spoilt) := by go_simp
  have nb : b ≠ w.heap.size + 1 := by omega
  have nb2 : b ≠ w.heap.size + 1 + 1 := by omega
  have V1 := Lib.hid (HV.out.below B1)
  have es : (s.cut k).bump 1 = { s.cut k with taken := s.taken + 1 } := rfl
  have hsc : (s.cut k).small := hs
  have HSC := Lib.hid hsc
  clear hsc hs
  go_region_held3 (fun w' => w'.cell? ⟨w.heap.size, 0, none⟩ = some (.slice (some ⟨b, off, none⟩) s.items.length cap) ∧ w'.cell? ⟨w.heap.size, 1, none⟩ = some (.int .i64 s.sent) ∧ w'.cell? ⟨w.heap.size, 2, none⟩ = some (.int .i64 s.taken) ∧ w'.cell? ⟨w.heap.size, 3, none⟩ = some (.int .i64 s.lost) ∧
      w'.cell? ⟨w.heap.size, 4, none⟩ = some (.int .i64 s.copied) ∧ w'.cell? ⟨w.heap.size, 5, none⟩ = some (.int .i64 s.spoilt) ∧ w'.cell? ⟨b, off + k * 2, none⟩ = some (.int .i64 s.items[k].1) ∧ w'.cell? ⟨b, off + k * 2 + 1, none⟩ = some (.string s.items[k].2))
    (first | (simp [*, go_sem]; done))
    (first
      | (go_at_call 36
         refine (ref_without _ _ _ _ s k V1.out.drew hk hlen).mono ?_
         rintro e w2 ⟨⟨A2, n2, c2, rfl, hR2⟩, hb2⟩
         have z20 : w.heap.size < w2.heap.size := Nat.lt_of_lt_of_le z1_0 hb2.size
         have z21 : w.heap.size + 1 < w2.heap.size := Nat.lt_of_lt_of_le z1_1 hb2.size
         have z22 : w.heap.size + 1 + 1 < w2.heap.size := Nat.lt_of_lt_of_le z1_2 hb2.size
         have c20 := fun o => hb2.cell (p := ⟨w.heap.size, o, none⟩) z1_0
         have c21 := fun o => hb2.cell (p := ⟨w.heap.size + 1, o, none⟩) z1_1
         have c22 := fun o => hb2.cell (p := ⟨w.heap.size + 1 + 1, o, none⟩) z1_2
         have f21 := fun o => hb2.frozen (p := ⟨w.heap.size + 1, o, none⟩) z1_1
         have f22 := fun o => hb2.frozen (p := ⟨w.heap.size + 1 + 1, o, none⟩) z1_2
         have e20 := hb2.cell (p := ⟨b, off + k * 2, none⟩) lb
         have e21 := hb2.cell (p := ⟨b, off + k * 2 + 1, none⟩) lb
         have R2 := Lib.hid hR2
         clear hR2)
      | (go_at_call 34
         refine (ref_count _ _ _ _ (s.cut k) 1 (by decide) HSC.out).mono ?_
         rintro e w3 ⟨rfl, hb3⟩
         have c30 := fun o => hb3.cell (p := ⟨w.heap.size, o, none⟩) z20
         have c31 := fun o => hb3.cell (p := ⟨w.heap.size + 1, o, none⟩) z21
         have c32 := fun o => hb3.cell (p := ⟨w.heap.size + 1 + 1, o, none⟩) z22
         have f31 := fun o => hb3.frozen (p := ⟨w.heap.size + 1, o, none⟩) z21
         have f32 := fun o => hb3.frozen (p := ⟨w.heap.size + 1 + 1, o, none⟩) z22
         have e30 := hb3.cell (p := ⟨b, off + k * 2, none⟩) (Nat.lt_of_lt_of_le lb hb2.size)
         have e31 := hb3.cell (p := ⟨b, off + k * 2 + 1, none⟩) (Nat.lt_of_lt_of_le lb hb2.size)))
  have HO3 := R2.out.below hb3
  have B2 : Below w.heap.size w w2 := Below.then_ B1.drew hb2
  have B3 := Below.then_ B2 hb3
  have ec : (s.cut k).sent = s.sent ∧ (s.cut k).lost = s.lost ∧ (s.cut k).copied = s.copied ∧ (s.cut k).spoilt = s.spoilt := ⟨rfl, rfl, rfl, rfl⟩
  go_wp2_with fail
  refine bodyPost_ret (v := .tuple #[.agg #[.slice A2 n2 c2, .int .i64 s.sent, .int .i64 ((s.taken + 1 : Nat) : Int), .int .i64 s.lost, .int .i64 s.copied, .int .i64 s.spoilt], .agg #[.int .i64 s.items[k].1, .string s.items[k].2], .bool true]) (by simp only [results, Try.results28]; go_simp) rfl ⟨⟨A2, n2, c2, rfl, ?_, own_new R2.out s1⟩, (by repeat (first | with_reducible exact Below.refl _ _ | with_reducible assumption | ((with_reducible refine Below.setCell ?_ ?_ _); rotate_left; · (first | omega | exact Nat.le_refl _ | (simp <;> omega))) | (with_reducible refine Below.allocW ?_ _) | (with_reducible refine Below.drew ?_) | (with_reducible refine Below.extW ?_ _)))⟩
  exact RV.of_own (base := w1.drew.heap.size) (l := (s.cut k).items) (by (repeat (first | with_reducible assumption | ((with_reducible refine Own.setCellB ?_ ?_); rotate_left; · (first | omega | (simp <;> omega))) | with_reducible refine Own.alloc ?_ _ | with_reducible refine Own.drew ?_))) rfl
end Go.Proofs.Ytclkcbhghbdffaa
