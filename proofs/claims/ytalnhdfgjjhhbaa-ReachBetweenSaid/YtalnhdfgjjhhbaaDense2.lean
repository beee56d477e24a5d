/- Package dense: Snap, Get; what the footprint is made of. -/
import Derived.Test.YtalnhdfgjjhhbaaDense
import Derived.OwnWalk
namespace Go.Proofs.Ytalnhdfgjjhhbaa
open Go.ChangeShapes Go.WideShapes Go.ChangeAt Go.RowKit
set_option linter.unusedVariables false

/-- The nodes below a number. -/
def belowR (r : List Nd) (k : Int) : List Nd := r.filter fun x => decide (x.1 < k)
theorem belowR_zero {r : List Nd} (hr : Roll r) : belowR r 0 = [] := by
  unfold belowR
  rw [List.filter_eq_nil_iff]
  intro x hx
  have := (hr.2 x hx).1
  simp; omega
theorem belowR_all {r : List Nd} {k : Int} (h : ∀ x ∈ r, x.1 < k) : belowR r k = r := by
  unfold belowR
  rw [List.filter_eq_self]
  intro x hx
  simpa using h x hx
theorem belowR_succ {r : List Nd} (hr : Roll r) (k : Int) : belowR r (k + 1) = belowR r k ++ if 0 < getR r k then [(k, getR r k)] else [] := by
  induction r with
  | nil => simp [belowR, getR]
  | cons x r ih =>
    have ih := ih hr.tail
    have hh := hr.head
    have hx := hr.2 x (by simp)
    unfold belowR at ih ⊢
    by_cases h1 : x.1 < k
    · rw [List.filter_cons, if_pos (by simp; omega), List.filter_cons, if_pos (by simpa using h1), ih]
      have e2 : getR (x :: r) k = getR r k := by simp only [getR]; rw [if_neg (by omega)]
      rw [e2]
      rfl
    · have e0 : r.filter (fun y => decide (y.1 < k)) = [] := by
        rw [List.filter_eq_nil_iff]; intro y hy; have := hh y hy; simp; omega
      have e1 : r.filter (fun y => decide (y.1 < k + 1)) = [] := by
        rw [List.filter_eq_nil_iff]; intro y hy; have := hh y hy; simp; omega
      by_cases h2 : x.1 = k
      · rw [List.filter_cons, if_pos (by simp; omega), List.filter_cons, if_neg (by simp; omega), e0, e1]
        have e2 : getR (x :: r) k = x.2 := by simp only [getR]; rw [if_pos h2]
        rw [e2, if_pos (by omega)]
        simp [← h2]
      · rw [List.filter_cons, if_neg (by simp; omega), List.filter_cons, if_neg (by simp; omega), e0, e1]
        have e2 : getR (x :: r) k = 0 := by simp only [getR]; rw [if_neg h2, getR_none (fun y hy => by have := hh y hy; omega)]
        rw [e2]
        simp
theorem belowR_len (r : List Nd) (k : Int) : (belowR r k).length ≤ r.length := List.length_filter_le _ _
theorem belowR_le {r : List Nd} (hr : Roll r) (k : Nat) : (belowR r k).length ≤ k := by
  induction k with
  | zero => simp [belowR_zero hr]
  | succ k ih =>
    have := belowR_succ hr (k : Int)
    push_cast
    rw [this, List.length_append]
    split
    · simp; omega
    · simp; omega
theorem Fits.len {l : Nat} {r : List Nd} (h : Fits l r) : r.length ≤ 2 * 2 ^ l := by
  have h1 := belowR_le h.roll (2 * 2 ^ l)
  rw [belowR_all (fun x hx => by have := h.lt x hx; push_cast; exact this)] at h1
  exact h1

theorem DenseAt.typed {w : World} {g l : Nat} {r : List Nd} {F : Nat → Prop} (h : DenseAt w g l r F) : ∀ b, F b → TypeAt w b 117 ∨ TypeAt w b 3 := by
  obtain ⟨v, C, hh, ho, hl, hc, rfl⟩ := h
  rintro b (rfl | hb)
  · exact .inl (.of hh)
  · rcases ho with ⟨rfl, _⟩ | ⟨g1, o1, c1, u1, rfl, _, hh1, _⟩
    · cases hb
    · cases hb; exact .inr (.of hh1)

set_option maxRecDepth 100000 in
theorem dense_Snap (w : World) (g l : Nat) (r : List Nd) (F : Nat → Prop) (h : DenseAt w g l r F) (hf : Fits l r) (h2 : l ≤ 16) : Calls Try.prog 98 #[.pointer (some ⟨g, 0, none⟩)] w fun e w' =>
    ∃ v, e = .returned v ∧ Own w' w.heap.size 59 encN v r ∧ Below w.heap.size w w' := by
  obtain ⟨v, C, hh, ho, hl, hcc, rfl⟩ := h
  have h5 : 2 ^ l ≤ 65536 := by have := Nat.pow_le_pow_right (n := 2) (by decide) h2; simpa using this
  have hpos : 0 < 2 ^ l := Nat.two_pow_pos l
  obtain ⟨b, off, cap, rfl, hcap⟩ := own_at0 ho (by omega)
  have hS := ho.slT
  have cc := blk_cell hh
  have zg := lt_of_block hh
  have zb := (ho.lt b rfl).2
  have hCl : C.length ≤ 131072 := by omega
  have hlen := len_le_sum hf.roll
  have hsum := hf.sum
  have HS := Lib.hid hS
  have HC := Lib.hid hcc
  have HL := Lib.hid hl
  have HR := Lib.hid hf
  clear hh ho hS hcc hl
  go_enter Try.func98, Try.ntmps98
  go_wp2_with fail
  go_loopw [3, 13] (fun v i wr => ∃ k : Nat, k ≤ C.length ∧ i = .int .i64 k ∧ Below w.heap.size w wr ∧ Own wr w.heap.size 59 encN v (belowR r k)) (fun _ i _ => C.length - (intOf i).toNat)
  case atStart => exact ⟨0, Nat.zero_le _, rfl, (by repeat (first | with_reducible exact Below.refl _ _ | with_reducible assumption | ((with_reducible refine Below.setCell ?_ ?_ _); rotate_left; · (first | omega | exact Nat.le_refl _ | (simp <;> omega))) | (with_reducible refine Below.allocW ?_ _) | (with_reducible refine Below.drew ?_) | (with_reducible refine Below.extW ?_ _))), by have := belowR_zero HR.out.roll; simp only [Int.natCast_zero]; rw [this]; exact Own.nil _ _ _ _⟩
  case round =>
    obtain ⟨k, hk, rfl, hB, hown⟩ := hrel
    have HO := Lib.hid hown
    clear hown
    have hs := hB.size
    by_cases hlt : k < C.length
    · have hck := HC.out k hlt
      rw [List.getElem?_eq_getElem hlt] at hck
      injection hck with hck
      have hcell := (hB.cell (p := ⟨b, off + k, none⟩) zb).trans (by have := HS.out.cell_at hlt 0 (.int .i64 C[k]) rfl; simpa using this)
      have HS1 := Lib.hid (belowR_succ HR.out.roll (k : Int))
      rw [hck] at hcell
      have hkl := belowR_le HR.out.roll k
      generalize getR r k = n at hcell HS1
      by_cases hn : 0 < n
      · have HS2 := Lib.hid (show belowR r ((k : Int) + 1) = belowR r k ++ [((k : Int), n)] by rw [HS1.out, if_pos hn])
        clear hck
        go_wp2_with ((at_builtin; refine wpList_push tyN rfl _ _ rfl encN wr w.heap.size u3 _ rfl HO.out ((k : Int), n) (by go_simp) rfl ?c1 ?c2 ?c3 ?c4))
        case c1 => omega
        case c2 => simp only [maxLen]; omega
        case c3 => exact hs
        case c4 =>
          intro v' w2 hown2 hgrow _ hlies hb2 _
          go_wp2_with fail
          go_roundw
          case rel => exact ⟨k + 1, by omega, by go_num, Below.trans hB hb2, by push_cast; rw [HS2.out]; exact hown2⟩
          case measure => simp [intOf]; omega
      · have HS2 := Lib.hid (show belowR r ((k : Int) + 1) = belowR r k by rw [HS1.out, if_neg hn]; simp)
        clear hck
        go_wp2_with fail
        go_roundw
        case rel => exact ⟨k + 1, by omega, by go_num, hB, by push_cast; rw [HS2.out]; exact HO.out⟩
        case measure => simp [intOf]; omega
    · obtain rfl : k = C.length := by omega
      have he : belowR r (C.length : Nat) = r := belowR_all fun x hx => by have := HR.out.lt x hx; rw [HL.out]; push_cast; exact this
      rw [he] at HO
      go_wp2_with fail
      go_ret
      exact ⟨_, rfl, HO.out, hB⟩
end Go.Proofs.Ytalnhdfgjjhhbaa
