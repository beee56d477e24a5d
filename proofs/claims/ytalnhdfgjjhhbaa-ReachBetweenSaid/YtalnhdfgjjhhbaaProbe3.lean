/- Package probe: Snap, and Add of whatever weight. -/
import Derived.Test.YtalnhdfgjjhhbaaProbe2
import Derived.Test.YtalnhdfgjjhhbaaSorted
namespace Go.Proofs.Ytalnhdfgjjhhbaa
open Go.ChangeShapes Go.WideShapes Go.ChangeAt Go.RowKit
set_option linter.unusedVariables false

theorem probe_Add (w : World) (g l : Nat) (r : List Nd) (F : Nat → Prop) (h : ProbeAt w g l r F) (hf : Fits l r) (h1 : 1 ≤ l) (h2 : l ≤ 48) (k : Nat) (hk1 : 1 ≤ k) (hk2 : k < 2 * 2 ^ l) (c : Int) (hc : 0 < c) (hsum : sumR r + c ≤ 72057594037927935) (hr30 : r.length < 1073741824) :
    Calls Try.prog 103 #[.pointer (some ⟨g, 0, none⟩), .int .i64 k, .int .i64 c] w (AddPost w g l (addR r k c) F) := by
  by_cases h0 : getR r k = 0
  · exact probe_Add_new w g l r F h hf h1 h2 k hk1 hk2 c hc hsum h0 hr30
  · have := getR_nonneg hf.roll (k : Int)
    exact probe_Add_old w g l r F h hf h1 h2 k hk1 hk2 c hc hsum (by omega)
theorem ProbeAt.keep {w w' : World} {g l : Nat} {r : List Nd} {F : Nat → Prop} (h : ProbeAt w g l r F) (hk : ∀ b, F b → w'.heap[b]? = w.heap[b]?) : ProbeAt w' g l r F := by
  obtain ⟨v, S, b, hh, ho, h1, h2, h3, h4, rfl⟩ := h
  exact ⟨v, S, b, (hk g (.inl rfl)).trans hh, ho.of_block fun b hb => hk b (.inr hb), h1, h2, h3, h4, rfl⟩
theorem ProbeAt.lt {w : World} {g l : Nat} {r : List Nd} {F : Nat → Prop} (h : ProbeAt w g l r F) : ∀ b, F b → b < w.heap.size := by
  obtain ⟨v, S, b, hh, ho, _, _, _, _, rfl⟩ := h
  rintro q (rfl | hq)
  · exact lt_of_block hh
  · exact (ho.lt q hq).2
theorem ProbeAt.below {w w' : World} {g l : Nat} {r : List Nd} {F : Nat → Prop} (h : ProbeAt w g l r F) (hb : Below w.heap.size w w') : ProbeAt w' g l r F := h.keep fun b hf => hb.block b (h.lt b hf)
theorem ProbeAt.typed {w : World} {g l : Nat} {r : List Nd} {F : Nat → Prop} (h : ProbeAt w g l r F) : ∀ b, F b → TypeAt w b 119 ∨ TypeAt w b 59 := by
  obtain ⟨v, S, b, hh, ho, _, _, _, _, rfl⟩ := h
  rintro q (rfl | hq)
  · exact .inl (.of hh)
  · rcases ho with ⟨rfl, _⟩ | ⟨g1, o1, c1, u1, rfl, _, hh1, _⟩
    · cases hq
    · cases hq; exact .inr (.of hh1)

set_option maxRecDepth 100000 in
theorem probe_Snap (w : World) (g l : Nat) (r : List Nd) (F : Nat → Prop) (h : ProbeAt w g l r F) (hf : Fits l r) (hn : r.length ≤ 67108864) : Calls Try.prog 99 #[.pointer (some ⟨g, 0, none⟩)] w (OwnPost 59 encN r w) := by
  obtain ⟨v, S, b, hh, ho, hI, hq3, hq34, hfree, rfl⟩ := h
  obtain ⟨sb, off, cap, rfl, hcap⟩ := own_at0 ho (by rw [hI.len]; exact Nat.two_pow_pos b)
  have hl := hI.len
  have hSl : S.length ≤ 34359738368 := by rw [hl]; have := Nat.pow_le_pow_right (n := 2) (by decide) (show b ≤ 35 by omega); simpa using this
  have hcnt := hI.count
  have hfl : ∀ k, ((S.take k).filter full).length ≤ 67108864 := fun k => by
    have h1 : ((S.take k).filter full).length ≤ (S.filter full).length := ((List.take_sublist k S).filter full).length_le
    omega
  have cc := blk_cell hh
  have zg := lt_of_block hh
  have zb := (ho.lt sb rfl).2
  have HS := Lib.hid ho.slT
  have HI := Lib.hid hI
  have HL := Lib.hid hfl
  clear hh ho hI hl hcnt hfl hfree
  go_enter Try.func99, Try.ntmps99
  go_wp2_with fail
  go_loopw [3, 13] (fun v i wr => ∃ k : Nat, k ≤ S.length ∧ i = .int .i64 k ∧ Below w.heap.size w wr ∧ Own wr w.heap.size 59 encN v ((S.take k).filter full)) (fun _ i _ => S.length - (intOf i).toNat)
  case atStart => exact ⟨0, Nat.zero_le _, rfl, (by repeat (first | with_reducible exact Below.refl _ _ | with_reducible assumption | ((with_reducible refine Below.setCell ?_ ?_ _); rotate_left; · (first | omega | exact Nat.le_refl _ | (simp <;> omega))) | (with_reducible refine Below.allocW ?_ _) | (with_reducible refine Below.drew ?_) | (with_reducible refine Below.extW ?_ _))), Own.nil _ _ _ _⟩
  case round =>
    obtain ⟨k, hk, rfl, hB, hown⟩ := hrel
    have HO := Lib.hid hown
    clear hown
    have hs := hB.size
    by_cases hlt : k < S.length
    · have d0 := (hB.cell (p := ⟨sb, off + k * 2 + 0, none⟩) zb).trans (HS.out.cell_at hlt 0 (.int .i64 S[k].1) rfl)
      have d1 := (hB.cell (p := ⟨sb, off + k * 2 + 1, none⟩) zb).trans (HS.out.cell_at hlt 1 (.int .i64 S[k].2) rfl)
      simp only [Nat.add_zero] at d0
      have hle := HL.out k
      obtain ⟨x, hx⟩ : ∃ x, x = S[k] := ⟨_, rfl⟩
      rw [← hx] at d0 d1
      have HX := Lib.hid (take_filter_succ hlt x (by rw [hx]; exact List.getElem?_eq_getElem hlt))
      have hx0 := HI.out.nonneg (i := k) (x := x) (by rw [hx]; exact List.getElem?_eq_getElem hlt)
      clear hx
      by_cases hn : 0 < x.2
      · go_wp2_with ((at_builtin; refine wpList_push tyN rfl _ _ rfl encN (wr.alloc _) w.heap.size u3 _ rfl (HO.out.alloc _) x (by go_simp) rfl ?c1 ?c2 ?c3 ?c4))
        case c1 => omega
        case c2 => simp only [maxLen]; omega
        case c3 => simp; omega
        case c4 =>
          intro v' w2 hown2 hgrow _ hlies hb2 _
          have HO2 := Lib.hid (show Own w2 w.heap.size 59 encN v' ((S.take (k + 1)).filter full) by rw [HX.out, if_neg (by omega)]; exact hown2)
          clear hown2
          go_wp2_with fail
          go_roundw
          case rel => exact ⟨k + 1, by omega, by go_num, Below.trans (Below.allocW hB _) hb2, HO2.out⟩
          case measure => simp [intOf]; omega
      · have HO2 := Lib.hid (show Own wr w.heap.size 59 encN u3 ((S.take (k + 1)).filter full) by rw [HX.out, if_pos (by omega), List.append_nil]; exact HO.out)
        go_wp2_with fail
        go_roundw
        case rel => exact ⟨k + 1, by omega, by go_num, Below.allocW hB _, HO2.out.alloc _⟩
        case measure => simp [intOf]; omega
    · obtain rfl : k = S.length := by omega
      rw [List.take_length] at HO
      have HM := Lib.hid (msort_roll HI.out.perm hf.roll)
      have hm := HL.out S.length
      rw [List.take_length] at hm
      go_wp2_with fail
      refine (roll_Sorted _ _ _ HO.out.rd hm).mono ?_
      rintro e w2 ⟨v2, rfl, ho2, hb2⟩
      rw [HM.out] at ho2
      have HO2 := Lib.hid ho2
      have HB2 := Lib.hid (hB.trans (hb2.mono hs))
      clear ho2 hb2
      go_wp2_with fail
      go_ret
      exact ⟨_, rfl, HO2.out.base_le hs, HB2.out⟩
end Go.Proofs.Ytalnhdfgjjhhbaa
