/-
  Texts of this proof, one behind the other: RefBelow, Ref34, Ref34C, Ref34S, AuditHas, Made10, AuditWrong, AuditCulprit, AuditStands0, BagItems, Ref34O, SortO, AuditOff0, AuditKeys, AuditCheck, AuditPlain, GoodLaw, Alive34, OpenRd, AuditGoodW.
-/
import Derived.Maps.OwnOps
import Derived.Maps.Views
import Derived.Carry
import Derived.Test.YtcjnchjmpkapmaaGreatShelf
import Derived.Test.YtcjnchjmpkapmaaGreatLaidI
import Derived.Shelf.SlIterI.Nil
import Derived.Maps.OwnSet
import Derived.Lib.SmallJoins
import Derived.Test.YtcjnchjmpkapmaaGreatP2
import Derived.Test.YtcjnchjmpkapmaaGreatP3
import Derived.Test.YtcjnchjmpkapmaaGreatP4
import Derived.Test.YtcjnchjmpkapmaaGreatR5
import Derived.Test.YtcjnchjmpkapmaaGreatR6
import Derived.Test.YtcjnchjmpkapmaaGreatR7
import Derived.Test.YtcjnchjmpkapmaaGreatR9
/- References 2, 12: Above, Below. -/
set_option linter.unusedSimpArgs false namespace Go.Proofs.YtcjnchjmpkapmaaGreat
open Go.ChangeShapes Go.WideShapes Go.ChangeAt Go.RowKit
set_option linter.unusedVariables false
set_option linter.unusedSimpArgs false
set_option maxRecDepth 100000

theorem abv_le {p q : Int} (h : abv p q = true) : p ≤ q := by
  simp only [abv, decide_eq_true_eq] at h
  obtain ⟨h1, h2, h3, h4⟩ := h
  have := Nat.div_le_self q.toNat (2 ^ (q.toNat.log2 - p.toNat.log2))
  omega
theorem abv_self {p : Int} (h : 1 ≤ p) : abv p p = true := by simp [abv, h]
theorem abv_pos {p q : Int} (h : abv p q = true) : 1 ≤ p ∧ 1 ≤ q := by
  simp only [abv, decide_eq_true_eq] at h
  exact ⟨h.1, h.2.1⟩
theorem wIds_take {p : Int → Bool} {m : List Nd} {q : Nat} (h : q < m.length) : wIds p (m.take (q + 1)) = wIds p (m.take q) + if p m[q].1 = true then m[q].2 else 0 := by
  rw [List.take_succ_eq_append_getElem h]
  generalize m.take q = L
  generalize m[q] = z
  induction L with
  | nil => simp [wIds]
  | cons y L ih => simp only [List.cons_append, wIds, ih]; omega
theorem wIds_sum {p : Int → Bool} {r : List Nd} (h : ∀ x ∈ r, 0 ≤ x.2) : wIds p r ≤ sumR r := by
  induction r with
  | nil => simp [wIds, sumR]
  | cons x r ih =>
    have := ih fun y hy => h y (by simp [hy])
    have := h x (by simp)
    simp only [wIds, sumR]
    split <;> omega
end Go.Proofs.YtcjnchjmpkapmaaGreat
/- Reference 34: culprits. -/
namespace Go.Proofs.YtcjnchjmpkapmaaGreat
open Go.ChangeShapes Go.WideShapes Go.ChangeAt Go.RowKit
set_option linter.unusedVariables false
set_option linter.unusedSimpArgs false
set_option maxRecDepth 100000

def mrN (l : Int) (r m : List Nd) (id : Int) : Int := ownN r id - betwB m (endsOf l id).1 (endsOf l id).2.1
theorem mrN_bound {l : Int} {r m : List Nd} (hr : ∀ x ∈ r, 1 ≤ x.2) (hm : ∀ x ∈ m, 1 ≤ x.2) (h1 : sumR r ≤ 72057594037927935) (h2 : sumR m ≤ 72057594037927935) (id : Int) : (0 ≤ ownN r id ∧ ownN r id ≤ 72057594037927935) ∧ ∀ a b, 0 ≤ betwB m a b ∧ betwB m a b ≤ 72057594037927935 := by
  refine ⟨⟨wIds_0 fun x hx => by have := hr x hx; omega, ?_⟩, fun a b => ?_⟩
  · have := wIds_sum (p := fun x => abv id x) (r := r) fun x hx => by have := hr x hx; omega
    unfold ownN; omega
  · have := betwB_le hm a b; omega
end Go.Proofs.YtcjnchjmpkapmaaGreat
/- Reference 34: the culprit. -/
namespace Go.Proofs.YtcjnchjmpkapmaaGreat
open Go.ChangeShapes Go.WideShapes Go.ChangeAt Go.RowKit
set_option linter.unusedVariables false
set_option linter.unusedSimpArgs false
set_option maxRecDepth 100000

def culS (f : Int → Int) (a : Int × Int) (x : Int) : Int × Int := if 0 < f x ∧ (a.1 = 0 ∨ x < a.1) then (x, f x) else a
structure Seen (f : Int → Int) (C : Int → Prop) (a : Int × Int) : Prop where
  ex : ∃ L, (∀ z, z ∈ L ↔ C z) ∧ culIs f L a ∧ ∀ z ∈ L, 1 ≤ z
theorem Seen.unique {f : Int → Int} {C D : Int → Prop} {a b : Int × Int} (h : Seen f C a) (k : Seen f D b) (hD : ∀ z, C z ↔ D z) : a = b := by
  obtain ⟨L, h1, h2, _⟩ := h.ex
  obtain ⟨M, k1, k2, _⟩ := k.ex
  exact culIs_unique (fun z => by rw [h1, hD, k1]) h2 k2
def upOf (r : List Nd) (z : Int) : Prop := ∃ x ∈ r, abv z x.1 = true
theorem upOf_take {r : List Nd} {q : Nat} (h : q < r.length) (z : Int) : upOf (r.take (q + 1)) z ↔ upOf (r.take q) z ∨ abv z r[q].1 = true := by
  unfold upOf
  rw [List.take_succ_eq_append_getElem h]
  simp only [List.mem_append, List.mem_singleton]
  constructor
  · rintro ⟨x, hx | rfl, hz⟩
    · exact .inl ⟨x, hx, hz⟩
    · exact .inr hz
  · rintro (⟨x, hx, hz⟩ | hz)
    · exact ⟨x, .inl hx, hz⟩
    · exact ⟨_, .inr rfl, hz⟩
end Go.Proofs.YtcjnchjmpkapmaaGreat
/- Reference 34: Stands. -/
namespace Go.Proofs.YtcjnchjmpkapmaaGreat
open Go.ChangeShapes Go.WideShapes Go.ChangeAt Go.RowKit
set_option linter.unusedVariables false
set_option linter.unusedSimpArgs false
set_option maxRecDepth 100000

end Go.Proofs.YtcjnchjmpkapmaaGreat
/- Package audit: has (a map that the call makes). -/
namespace Go.Proofs.YtcjnchjmpkapmaaGreat
open Go.ChangeShapes Go.WideShapes Go.ChangeAt Go.RowKit Go.Maps
set_option linter.unusedVariables false
set_option linter.unusedSimpArgs false
set_option maxRecDepth 100000

structure MapIs (D : DataW Unit) (f : Int → Int) (C : Int → Prop) : Prop where
  map : IsMap D
  at_ : ∀ z, D.atKey (.int .i64 z) (.lit (.int .i64 0)) = .lit (.int .i64 (f z))
  has : ∀ z, Go.Maps.has D (.int .i64 z) = true ↔ C z
theorem MapIs.empty : MapIs (.map []) (fun _ => 0) (fun _ => False) := ⟨isMap_empty, fun z => rfl, fun z => by simp [Go.Maps.has]⟩
theorem MapIs.put {D : DataW Unit} {f g : Int → Int} {C E : Int → Prop} (h : MapIs D f C) (i v : Int) (hg : ∀ z, g z = if z = i then v else f z) (hE : ∀ z, E z ↔ C z ∨ z = i) : MapIs (D.put (.int .i64 i) (.lit (.int .i64 v))) g E := by
  refine ⟨h.map.put _ _, fun z => ?_, fun z => ?_⟩
  · by_cases hz : z = i
    · subst hz
      rw [atKey_put_same h.map (by simp [WideAt.IsKeyLit]), hg, if_pos rfl]
    · rw [atKey_put_other (by simp [hz]), h.at_, hg, if_neg hz]
  · by_cases hz : z = i
    · subst hz
      rw [has_put_same h.map (by simp [WideAt.IsKeyLit]), hE]; simp
    · rw [has_put_other (by simp [hz]), h.has, hE]; simp [hz]
theorem MapIs.congr {D : DataW Unit} {f g : Int → Int} {C E : Int → Prop} (h : MapIs D f C) (hg : ∀ z, g z = f z) (hE : ∀ z, E z ↔ C z) : MapIs D g E :=
  ⟨h.map, fun z => by rw [hg, h.at_], fun z => by rw [hE, h.has]⟩
theorem keyI : Keyed Tryz.prog 3 := int_keyed Tryz.underlying3
theorem zeroI (w : World) : (zeroValue 3).run Tryz.prog w = .ok (.int .i64 0) w := by kernel_rfl
theorem abv_not_half {i : Int} (h : 1 ≤ i) : abv i (i / 2) = false := by
  cases hh : abv i (i / 2)
  · rfl
  · have := abv_le hh; omega
theorem ownsMap_below {w w' : World} {b n : Nat} {D : DataW Unit} {R : Value → Option (DataW Unit × List MemPlace)} (h : w.ownsMap Tryz.prog 3 R b n D) (hb : Below w.heap.size w w') : w'.ownsMap Tryz.prog 3 R b n D := by
  have hl := h.lt
  obtain ⟨es, clock, h1, h2⟩ := h
  exact ⟨es, clock, (hb.block b hl).trans h1, h2⟩
theorem own_take {r : List Nd} {q : Nat} (h : q < r.length) (z : Int) : ownN (r.take (q + 1)) z = ownN (r.take q) z + if abv z r[q].1 = true then r[q].2 else 0 := wIds_take h
set_option maxHeartbeats 4000000 in
theorem audit_has (w : World) (g K l : Nat) (k : Int) (r : List Nd) (F : Nat → Prop) (h : DigAt w g K l k r F) (hI : ints r) (hr : ∀ x ∈ r, 1 ≤ x.2) (hp : ∀ x ∈ r, 1 ≤ x.1) (hs : sumR r ≤ 72057594037927935) (hlen : r.length ≤ 65536) :
    Calls Tryz.prog 226 #[.pointer (some ⟨g, 0, none⟩)] w fun e w' => ∃ b n D, e = .returned (.map (some b)) ∧ w'.ownsMap Tryz.prog 3 (plainElem Tryz.prog 3) b n D ∧ MapIs D (ownN r) (upOf r) ∧ w.heap.size ≤ b ∧ n ≤ 4194304 ∧ Below w.heap.size w w' := by
  have hmm := @run_makeMap Tryz.prog
  have HN := Lib.hid (fun W h => digest_Nodes W g K l k r F h (by omega))
  have HD := Lib.hid h
  have HI := Lib.hid hI
  have HR := Lib.hid hr
  have HP := Lib.hid hp
  clear h hI hr hp
  go_enter Tryz.func226, Tryz.ntmps226
  go_wp2_with fail
  have M0 := Lib.hid (World.ownsMap_made w Tryz.prog 3 (plainElem (H := Unit) Tryz.prog 3))
  refine (HN.out _ (HD.out.below ((Below.refl _ _).alloc (Nat.le_refl _) _))).mono ?_
  rintro e w1 ⟨v, rfl, ho, hb1⟩
  obtain ⟨A, cap, rfl, _⟩ := ho.form
  have hz1 := hb1.size
  simp only [World.size_alloc] at hz1 ho
  have M1 := Lib.hid (ownsMap_below M0.out hb1)
  have O1 := Lib.hid ho
  have B1 : Below w.heap.size w w1 := Below.then_ (by repeat (first | with_reducible exact Below.refl _ _ | with_reducible assumption | ((with_reducible refine Below.setCell ?_ ?_ _); rotate_left; · (first | omega | exact Nat.le_refl _ | (simp <;> omega))) | (with_reducible refine Below.allocW ?_ _) | (with_reducible refine Below.drew ?_) | (with_reducible refine Below.extW ?_ _))) hb1
  clear ho hb1 M0 HN
  go_wp2_with fail
  go_loopw [11] (fun j wr => ∃ (q n : Nat) (D : DataW Unit), q ≤ r.length ∧ j = .int .i64 q ∧ wr.ownsMap Tryz.prog 3 (plainElem Tryz.prog 3) w.heap.size n D ∧ MapIs D (ownN (r.take q)) (upOf (r.take q)) ∧ n ≤ 64 * q ∧ Own wr (w.heap.size + 1) 153 encN (.slice A r.length cap) r ∧ w.heap.size + 1 ≤ wr.heap.size ∧ Below w.heap.size w wr) (fun j _ => r.length - (intOf j).toNat)
  case atStart => exact ⟨0, 0, _, Nat.zero_le _, rfl, M1.out, MapIs.empty.congr (fun z => rfl) (fun z => by simp [upOf]), by omega, O1.out, hz1, B1⟩
  case round =>
    obtain ⟨q, n, D, hq, rfl, hM, hMI, hn, hO, hz, hB⟩ := hrel
    have M := Lib.hid (And.intro hM hMI)
    have O := Lib.hid hO
    have HB := Lib.hid hB
    clear hM hMI M1 O1 B1
    by_cases hlt : q < r.length
    · have hqi : (q : Int) < (r.length : Int) := by omega
      obtain ⟨b, off, rfl, hb, hc⟩ := hO.sl.at_ hlt
      have d0 := hc 1 (.int .i64 r[q].2) rfl
      have d1 := hc 0 (.int .i64 r[q].1) rfl
      simp only [Nat.add_zero] at d1
      have hx := HP.out _ (List.getElem_mem hlt)
      have hx2 := (HI.out _ (List.getElem_mem hlt)).1.2
      have hc1 := HR.out _ (List.getElem_mem hlt)
      have HT := Lib.hid (fun z => own_take hlt z)
      have HU := Lib.hid (upOf_take hlt)
      have HS : Hid (∀ z, 0 ≤ ownN (r.take (q + 1)) z ∧ ownN (r.take (q + 1)) z ≤ 72057594037927935) := Lib.hid fun z => by
        refine ⟨wIds_0 fun y hy => by have := HR.out y (List.mem_of_mem_take hy); omega, ?_⟩
        have := wIds_sum (p := fun y => abv z y) (r := r.take (q + 1)) fun y hy => by have := HR.out y (List.mem_of_mem_take hy); omega
        have := (sumV_take_le HR.out (q + 1)).2
        unfold ownN; omega
      obtain ⟨x, hx0⟩ : ∃ x, x = r[q].1 := ⟨_, rfl⟩
      obtain ⟨c, hc0⟩ : ∃ c, c = r[q].2 := ⟨_, rfl⟩
      rw [← hx0] at d1 hx hx2 HU
      rw [← hc0] at d0 hc1
      have HT : Hid (∀ z, ownN (r.take (q + 1)) z = ownN (r.take q) z + if abv z x = true then c else 0) := Lib.hid fun z => by rw [HT.out, hx0, hc0]
      clear hc hO hx0 hc0
      have NX := heap_alloc_new wr (.cells #[.int .i64 x, .int .i64 c] 153)
      have ON := Lib.hid (O.out.alloc (.cells #[.int .i64 x, .int .i64 c] 153))
      have MN := Lib.hid (ownsMap_below M.out.1 ((Below.refl _ _).alloc (Nat.le_refl _) (.cells #[.int .i64 x, .int .i64 c] 153)))
      have BN := Lib.hid (show Below w.heap.size w (wr.alloc (.cells #[.int .i64 x, .int .i64 c] 153)) from (by repeat (first | with_reducible exact Below.refl _ _ | with_reducible assumption | ((with_reducible refine Below.setCell ?_ ?_ _); rotate_left; · (first | omega | exact Nat.le_refl _ | (simp <;> omega))) | (with_reducible refine Below.allocW ?_ _) | (with_reducible refine Below.drew ?_) | (with_reducible refine Below.extW ?_ _))))
      obtain ⟨xb, hxb⟩ : ∃ xb, xb = wr.heap.size := ⟨_, rfl⟩
      have NX := Lib.hid (hxb ▸ NX)
      have hxz : w.heap.size < xb := by omega
      go_upto_region 5 with fail
      rw [← hxb]
      generalize wr.alloc (.cells #[.int .i64 x, .int .i64 c] 153) = W1 at NX ON MN BN ⊢
      have nx := blk_cell NX.out
      have nz := lt_of_block NX.out
      clear hB hz hxb d0 d1 hb
      go_wp2_with fail
      go_loopw [6] (fun j wr => ∃ (i : Int) (n d : Nat) (D : DataW Unit) (f : Int → Int) (C : Int → Prop), j = .int .i64 i ∧ 0 ≤ i ∧ i < 2 ^ d ∧ n + d ≤ 64 * (q + 1) ∧ d ≤ 63 ∧ wr.ownsMap Tryz.prog 3 (plainElem Tryz.prog 3) w.heap.size n D ∧ MapIs D f C ∧ ((∀ z, f z + (if abv z i = true then c else 0) = ownN (r.take (q + 1)) z) ∧ ∀ z, upOf (r.take (q + 1)) z ↔ C z ∨ abv z i = true) ∧ Own wr (w.heap.size + 1) 153 encN (.slice (some ⟨b, off, none⟩) r.length cap) r ∧ wr.heap[xb]? = some (.cells #[.int .i64 x, .int .i64 c] 153 (0, 0)) ∧ w.heap.size + 1 ≤ wr.heap.size ∧ Below w.heap.size w wr) (fun j _ => (intOf j).toNat)
      case atStart => exact ⟨x, n, 63, D, _, _, rfl, by omega, by omega, by omega, by omega, MN.out, M.out.2, ⟨fun z => (HT.out z).symm, HU.out⟩, ON.out, NX.out, by omega, BN.out⟩
      case round =>
        obtain ⟨i, n1, d, D1, f, C, rfl, hi0, hid, hnd, hd, hM, hMI, hfC, hO, hX, hz, hB⟩ := hrel
        have HM := Lib.hid (And.intro hM hMI)
        have HF := Lib.hid hfC
        have HO := Lib.hid hO
        have HX := Lib.hid hX
        have HB := Lib.hid hB
        have k0 := blk_cell hX
        have z0 := lt_of_block hX
        have hp63 : (2 : Int) ^ d ≤ 2 ^ 63 := by
          have : (2 : Nat) ^ d ≤ 2 ^ 63 := Nat.pow_le_pow_right (by decide) hd
          exact_mod_cast this
        have hi63 : i < 9223372036854775808 := by omega
        clear hMI hfC hO hX hp63 nx nz
        by_cases hi1 : 1 ≤ i
        · have hd1 : 1 ≤ d := by
            rcases Nat.eq_zero_or_pos d with rfl | h
            · simp at hid; omega
            · exact h
          have hid2 : i / 2 < 2 ^ (d - 1) := by
            obtain ⟨e, rfl⟩ : ∃ e, d = e + 1 := ⟨d - 1, by omega⟩
            rw [Int.pow_succ] at hid
            simp only [Nat.add_sub_cancel]; omega
          have hkey : keyOf Tryz.prog 3 (.int .i64 i) = some (.int .i64 i) := keyOf_int_mk Tryz.underlying3 (WalkArith.wf_i64 (by omega))
          have hD : ∀ z, abv z i = true ↔ z = i ∨ abv z (i / 2) = true := fun z => by
            rw [abv_half hi1]
            exact ⟨fun h => h.elim .inl fun h => .inr h.2, fun h => h.elim .inl fun h => .inr ⟨by have := (abv_pos h).2; omega, h⟩⟩
          have fi : f i + c = ownN (r.take (q + 1)) i := by have := HF.out.1 i; rw [if_pos (abv_self hi1)] at this; exact this
          have fb := (HS.out i).2
          have fb0 := (HS.out i).1
          rw [← fi] at fb fb0
          have HNew : Hid (∀ v, v = f i + c → MapIs (D1.put (.int .i64 i) (.lit (.int .i64 v))) (fun z => if z = i then v else f z) (fun z => C z ∨ z = i)) := Lib.hid fun v _ => HM.out.2.put i v (fun z => rfl) fun z => Iff.rfl
          have HF2 : Hid ((∀ z, (if z = i then f i + c else f z) + (if abv z (i / 2) = true then c else 0) = ownN (r.take (q + 1)) z) ∧ ∀ z, upOf (r.take (q + 1)) z ↔ (C z ∨ z = i) ∨ abv z (i / 2) = true) := Lib.hid ⟨fun z => by
            by_cases hz : z = i
            · subst hz
              rw [if_pos rfl, abv_not_half hi1, if_neg (by simp), Int.add_zero, fi]
            · rw [if_neg hz, ← HF.out.1 z]
              have : abv z i = abv z (i / 2) := by rw [Bool.eq_iff_iff, hD]; simp [hz]
              rw [this], fun z => by rw [HF.out.2, hD, or_assoc]⟩
          have hat0 := HM.out.2.at_ i
          have HAT := Lib.hid hat0
          clear hD fi hat0
          go_wp2_with (first
            | (at_lookup; refine wpList_lookup_own_int _ rfl _ _ 278 rfl 3 3 .i64 keyI Tryz.underlying278 Tryz.underlying3 (zeroI _) w.heap.size n1 _ rfl HM.out.1 _ _ rfl hkey ?_; intro cv hat hwc; obtain rfl : cv = f i := (by have h9 := hat.symm.trans HAT.out; simpa using h9); clear hat hwc)
            | (at_mapUpdate; refine wpList_mapUpdate_own _ rfl _ _ _ 278 rfl 3 3 keyI Tryz.underlying278 _ w.heap.size n1 _ rfl HM.out.1 (by unfold maxLen; omega) _ _ _ rfl rfl hkey _ [] (plainElem_int Tryz.underlying3 (WalkArith.wf_i64 (by omega))) ?_; intro w2 hown2 hgrow2)
            | go_in)
          go_roundw
          case rel => exact ⟨i / 2, n1 + 1, d - 1, _, _, _, rfl, by omega, hid2, by omega, by omega, hown2, HNew.out _ rfl, HF2.out, HO.out.kept hgrow2 (.inr fun e => by have := (HO.out.lt _ e).1; omega), blk_grown_not HX.out hgrow2 (by simp; omega), Nat.le_trans hz hgrow2.size, HB.out.grown hgrow2 HB.out.size fun j hj => by cases hj; exact Nat.le_refl _⟩
          case measure => simp [intOf]; omega
        · have hi1' : decide (1 ≤ i) = false := by simpa using hi1
          have HZ : Hid (MapIs D1 (ownN (r.take (q + 1))) (upOf (r.take (q + 1)))) := Lib.hid (HM.out.2.congr (fun z => by
            have := HF.out.1 z
            rw [if_neg (fun h => by have := (abv_pos h).2; omega), Int.add_zero] at this
            exact this.symm) fun z => by
            rw [HF.out.2]
            exact ⟨fun h => h.elim id fun h => by have := (abv_pos h).2; omega, .inl⟩)
          go_wp2_with fail
          go_roundw
          case rel => exact ⟨q + 1, n1, D1, by omega, by go_num, HM.out.1, HZ.out, by omega, HO.out, hz, HB.out⟩
          case measure => simp [intOf]; omega
    · obtain rfl : q = r.length := by omega
      rw [List.take_length] at M
      have hqi : decide ((r.length : Int) < (r.length : Int)) = false := by simp
      go_wp2_with fail
      go_ret
      exact ⟨w.heap.size, n, D, rfl, M.out.1, M.out.2, Nat.le_refl _, by omega, HB.out⟩
end Go.Proofs.YtcjnchjmpkapmaaGreat
/- Chapter 10: Made. -/
namespace Go.Proofs.YtcjnchjmpkapmaaGreat
open Go.ChangeShapes Go.WideShapes Go.ChangeAt Go.RowKit
set_option linter.unusedVariables false
set_option linter.unusedSimpArgs false
set_option maxRecDepth 100000

theorem BagS.setCellB {w : World} {base g : Nat} {l s : Int} {m : List Nd} (h : BagS w base g l s m) {p : Addr} (hp : p.block < base) (u : Value) : BagS (w.setCell p u) base g l s m := by
  obtain ⟨v, hh, hg, ho⟩ := h
  exact ⟨v, (Below.heap_setCell _ _ _ _ (by omega)).trans hh, hg, ho.setCellB hp⟩
set_option maxHeartbeats 4000000 in
theorem law10_Made (w : World) (l : Nat) (A : Option Addr) (cap : Nat) (r : List Nd) (hl : 1 ≤ l ∧ l ≤ 48) (hS : Sl w w.heap.size encN A r) (hI : ints r) (hlen : r.length ≤ 65536) :
    Calls Tryz.prog 68 #[.int .i64 l, .slice A r.length cap] w fun e w' => ∃ g A' cap', e = .returned (.tuple #[.pointer (some ⟨g, 0, none⟩), bagV l A' (madeB l r).length cap']) ∧ BagAt w' w.heap.size g l (madeB l r) ∧ SlT w' 96 encN A' (madeB l r) ∧ Below w.heap.size w w' := by
  have HN := Lib.hid (fun W => bag_New W l (by omega) (by omega))
  have HO := Lib.hid (fun W h => ref10_Of W l A cap r hl h hI hlen)
  have HS := Lib.hid hS
  have HI := Lib.hid hI
  have BW0 : Hid (Below w.heap.size w (w.alloc (.cells #[.int .i64 0, .slice none 0 0] 31))) := Lib.hid (by repeat (first | with_reducible exact Below.refl _ _ | with_reducible assumption | ((with_reducible refine Below.setCell ?_ ?_ _); rotate_left; · (first | omega | exact Nat.le_refl _ | (simp <;> omega))) | (with_reducible refine Below.allocW ?_ _) | (with_reducible refine Below.drew ?_) | (with_reducible refine Below.extW ?_ _)))
  have X0 : Hid ((w.alloc (.cells #[.int .i64 0, .slice none 0 0] 31)).heap[w.heap.size]? = some (.cells #[.int .i64 0, .slice none 0 0] 31 (0, 0))) := Lib.hid (heap_alloc_new w _)
  have Z0 : Hid ((w.alloc (.cells #[.int .i64 0, .slice none 0 0] 31)).heap.size = w.heap.size + 1) := Lib.hid (by simp)
  unfold bagV at HO ⊢
  clear hS hI
  go_enter Tryz.func68, Tryz.ntmps68
  go_upto_region 1 with fail
  generalize w.alloc (.cells #[.int .i64 0, .slice none 0 0] 31) = W0 at X0 BW0 Z0 ⊢
  go_wp2_with fail
  refine (HN.out _).mono ?_
  rintro e w1 ⟨rfl, hB1, hb1⟩
  have Y1 := Lib.hid (blk_below X0.out hb1)
  have z1 := hb1.size
  obtain ⟨g, hg⟩ : ∃ g, g = W0.heap.size := ⟨_, rfl⟩
  have B1 := Lib.hid (And.intro (show BagAt w1 W0.heap.size g l [] by rw [hg]; exact hB1) hb1)
  have G := Lib.hid (And.intro hg Z0.out)
  rw [show (Value.tuple #[.pointer (some ⟨W0.heap.size, 0, none⟩), .int .i64 0]) = .tuple #[.pointer (some ⟨g, 0, none⟩), .int .i64 0] by rw [hg]]
  clear hB1 hb1 hg
  have rl : (r.length : Int) ≤ 65536 := by omega
  go_wp2_with fail
  go_loopw [24] (fun j wr => ∃ q : Nat, q ≤ r.length ∧ j = .int .i64 q ∧ BagAt wr W0.heap.size g l (madeB l (r.take q)) ∧ Below W0.heap.size W0 wr) (fun j _ => r.length - (intOf j).toNat)
  case atStart => exact ⟨0, Nat.zero_le _, rfl, B1.out.1, B1.out.2⟩
  case round =>
    obtain ⟨q, hq, rfl, hA, hB⟩ := hrel
    have HA := Lib.hid hA
    have HB := Lib.hid hB
    have hz := hB.size
    have hBw := Lib.hid (BW0.out.trans (hB.mono BW0.out.size))
    clear hA
    by_cases hlt : q < r.length
    · have hqi : (q : Int) < (r.length : Int) := by omega
      have HE := Lib.hid (madeB_snoc (l := l) hlt)
      obtain ⟨b, off, rfl, hb, hc2⟩ := HS.out.at_ hlt
      have d0 := (hBw.out.cell (p := ⟨b, off + q * 2 + 1, none⟩) hb).trans (hc2 1 (.int .i64 r[q].2) rfl)
      have d1 := (hBw.out.cell (p := ⟨b, off + q * 2, none⟩) hb).trans (by have := hc2 0 (.int .i64 r[q].1) rfl; simpa using this)
      have lb : b < wr.heap.size := Nat.lt_of_lt_of_le hb hBw.out.size
      have hi := HI.out _ (List.getElem_mem hlt)
      have hml : (madeB l (r.take q)).length ≤ 65536 := by have := madeB_len l (r.take q); simp at this; omega
      have HAdd := Lib.hid (fun W h hb => bag_Add W W0.heap.size g l (madeB l (r.take q)) r[q].1 r[q].2 hl h (madeB_bag l _) hi.2.2 hml hb)
      generalize r[q].1 = u at d1 HE HAdd
      generalize r[q].2 = v at d0 HE HAdd
      clear hc2 hi hB
      go_wp2_with fail
      refine (HAdd.out _ (HA.out.below ((Below.refl _ _).alloc (Nat.le_refl _) _)) (by simp; omega)).mono ?_
      rintro e w2 ⟨rfl, hB2, hb2⟩
      have B2 := Lib.hid (And.intro hB2 ((HB.out.alloc (by omega) _).trans hb2))
      clear hB2 hb2
      go_wp2_with fail
      go_roundw
      case rel => exact ⟨q + 1, by omega, by go_num, by rw [HE.out]; exact B2.out.1, B2.out.2⟩
      case measure => simp [intOf]; omega
    · obtain rfl : q = r.length := by omega
      rw [List.take_length] at HA
      have hqi : decide ((r.length : Int) < (r.length : Int)) = false := by simp
      have S1 := Lib.hid (HS.out.keep (B' := wr.heap.size) hBw.out.size fun p hp => hBw.out.cell hp)
      have Y := blk_below X0.out hB
      have HY := Lib.hid Y
      clear Y hB
      go_wp2_with fail
      refine (HO.out _ S1.out).mono ?_
      rintro e w2 ⟨A2, c2, rfl, hS2, hb2⟩
      have Y2 := blk_below HY.out hb2
      have k2 := blk_cell Y2
      have f2 := blk_frozen Y2
      have z2 := lt_of_block Y2
      have T2 : TypeAt w2 w.heap.size 31 := TypeAt.of Y2
      have HA2 := Lib.hid (HA.out.below hb2)
      have B2 := Lib.hid (Below.then_ hBw.out hb2)
      have S2 := Lib.hid hS2
      clear Y2 hS2 hb2
      go_wp2_with fail
      exact bodyPost_ret (v := .tuple #[.pointer (some ⟨g, 0, none⟩), .agg #[.int .i64 l, .slice A2 (madeB l r).length c2]]) (by simp only [results, Tryz.results68]; go_simp) rfl ⟨g, A2, c2, rfl, ((HA2.out.setCellB (p := ⟨w.heap.size, 0, none⟩) (by have := G.out; simp only; omega) (.int .i64 l)).setCellB (p := ⟨w.heap.size, 1, none⟩) (by have := G.out; simp only; omega) _).mono (by have := G.out; omega), (S2.out.setCellT (p := ⟨w.heap.size, 0, none⟩) (u := .int .i64 l) T2 (by decide)).setCellT (p := ⟨w.heap.size, 1, none⟩) T2.setCell (by decide), Below.setCell (p := ⟨w.heap.size, 1, none⟩) (Below.setCell (p := ⟨w.heap.size, 0, none⟩) B2.out (by simp) _) (by simp) _⟩
end Go.Proofs.YtcjnchjmpkapmaaGreat
/- Package audit: wrong. -/
namespace Go.Proofs.YtcjnchjmpkapmaaGreat
open Go.ChangeShapes Go.WideShapes Go.ChangeAt Go.RowKit
set_option linter.unusedVariables false
set_option linter.unusedSimpArgs false
set_option maxRecDepth 100000

theorem audit_wrong (w : World) (g K l : Nat) (k : Int) (r : List Nd) (F : Nat → Prop) (base gb lb : Nat) (m : List Nd) (h : DigAt w g K l k r F) (hb : BagAt w base gb lb m) :
    Calls Tryz.prog 225 #[.pointer (some ⟨g, 0, none⟩), .pointer (some ⟨gb, 0, none⟩)] w fun e w' => e = .returned (.int .i64 (if l = lb then 0 else 6)) ∧ Below w.heap.size w w' := by
  have HC := Lib.hid (fun W h => digest_Conf W g K l k r F h)
  have HL := Lib.hid (fun W h => bag_L W base gb lb m h)
  have HD := Lib.hid h
  have HB := Lib.hid hb
  clear h hb
  by_cases he : l = lb
  · subst he
    rw [if_pos rfl]
    go_enter Tryz.func225, Tryz.ntmps225
    go_wp2_with fail
    refine (HC.out _ HD.out).mono ?_
    rintro e w1 ⟨rfl, hb1⟩
    go_wp2_with fail
    refine (HL.out _ (HB.out.below hb1)).mono ?_
    rintro e w2 ⟨rfl, hb2⟩
    go_wp2_with fail
    go_ret
    exact ⟨rfl, Below.then_ hb1 hb2⟩
  · rw [if_neg he]
    have he' : ((l : Int) == (lb : Int)) = false := by simp; omega
    have he2 : (l == lb) = false := by simpa using he
    go_enter Tryz.func225, Tryz.ntmps225
    go_wp2_with fail
    refine (HC.out _ HD.out).mono ?_
    rintro e w1 ⟨rfl, hb1⟩
    go_wp2_with fail
    refine (HL.out _ (HB.out.below hb1)).mono ?_
    rintro e w2 ⟨rfl, hb2⟩
    go_wp2_with fail
    go_ret
    exact ⟨rfl, Below.then_ hb1 hb2⟩
end Go.Proofs.YtcjnchjmpkapmaaGreat
/- Package audit: Culprit. (KeysC: what slices.Sorted(maps.Keys(m)) gives: to be proved by the kit's SlIterI.) -/
namespace Go.Proofs.YtcjnchjmpkapmaaGreat
open Go.ChangeShapes Go.WideShapes Go.ChangeAt Go.RowKit Go.Maps
set_option linter.unusedVariables false
set_option linter.unusedSimpArgs false
set_option maxRecDepth 100000

def KeysC : Prop := ∀ (w : World) (b n : Nat) (D : DataW Unit), w.ownsMap Tryz.prog 3 (plainElem Tryz.prog 3) b n D → n ≤ 4194304 →
  Calls Tryz.prog 228 #[.map (some b)] w fun e w1 => ∃ fv, e = .returned fv ∧ Below w.heap.size w w1 ∧
    Calls Tryz.prog 227 #[fv] w1 fun e2 w2 => ∃ (A : Option Addr) (cap : Nat) (ss : List Int), e2 = .returned (.slice A ss.length cap) ∧ Sl w2 w2.heap.size encZ A ss ∧ ss.Pairwise (· ≤ ·) ∧ (∀ z, z ∈ ss ↔ Go.Maps.has D (.int .i64 z) = true) ∧ ss.length ≤ 4194304 ∧ Below w1.heap.size w1 w2
theorem upOf_pos {r : List Nd} {z : Int} (h : upOf r z) : 1 ≤ z := by obtain ⟨x, _, hz⟩ := h; exact (abv_pos hz).1
theorem upOf_le {r : List Nd} (hr : ints r) {z : Int} (h : upOf r z) : z ≤ 9223372036854775807 := by
  obtain ⟨x, hx, hz⟩ := h
  have := abv_le hz
  have := (hr x hx).1.2
  omega
set_option maxHeartbeats 4000000 in
theorem audit_Culprit (HK : KeysC) (w : World) (g K l : Nat) (k : Int) (r : List Nd) (F : Nat → Prop) (base gb : Nat) (m : List Nd) (h : DigAt w g K l k r F) (hb : BagAt w base gb l m) (hm : BagL l m) (hI : ints r) (hr : ∀ x ∈ r, 1 ≤ x.2) (hp : ∀ x ∈ r, 1 ≤ x.1) (hs : sumR r ≤ 72057594037927935) (hlen : r.length ≤ 65536) :
    Calls Tryz.prog 133 #[.pointer (some ⟨g, 0, none⟩), .pointer (some ⟨gb, 0, none⟩)] w fun e w' => ∃ a : Int × Int, e = .returned (.tuple #[.int .i64 a.1, .int .i64 a.2, .int .i64 0]) ∧ Seen (mrN l r m) (upOf r) a ∧ Below w.heap.size w w' := by
  have HW := Lib.hid (fun W h hb => audit_wrong W g K l k r F base gb l m h hb)
  simp only [if_true] at HW
  have HH := Lib.hid (fun W h => audit_has W g K l k r F h hI hr hp hs hlen)
  have HL := Lib.hid (fun W h => bag_L W base gb l m h)
  have HE := Lib.hid (fun W id hid => twig_Ends W l id hid)
  have HBt := Lib.hid (fun W x y h => bag_Between W base gb l m x y h hm)
  have HD := Lib.hid h
  have HB := Lib.hid hb
  have HUl := Lib.hid (fun z => upOf_le (z := z) hI)
  have HBd := Lib.hid (fun id => mrN_bound (l := l) hr (fun x hx => (hm.val x hx).2.2) hs hm.sum id)
  have HK := Lib.hid HK
  clear h hb hm hI hr hp hs
  go_enter Tryz.func133, Tryz.ntmps133
  go_wp2_with fail
  refine (HW.out _ HD.out HB.out).mono ?_
  rintro e w1 ⟨rfl, hb1⟩
  go_wp2_with fail
  refine (HH.out _ (HD.out.below hb1)).mono ?_
  rintro e w2 ⟨b, n, D, rfl, hM, hMI, _, hn, hb2⟩
  have M2 := Lib.hid hM
  have MI := Lib.hid hMI
  have B2 := Below.then_ hb1 hb2
  clear hM hMI hb1 hb2
  go_wp2_with fail
  refine (HK.out _ b n D M2.out hn).mono ?_
  rintro e w3 ⟨fv, rfl, hb3, hS⟩
  go_wp2_with fail
  refine hS.mono ?_
  rintro e w4 ⟨A, cap, ss, rfl, hSl, hup, hmem, hsl, hb4⟩
  have B4 := Lib.hid (Below.then_ (Below.then_ B2 hb3) hb4)
  have M4 := Lib.hid (ownsMap_below (ownsMap_below M2.out hb3) hb4)
  have S4 := Lib.hid hSl
  have HU := Lib.hid hup
  have HMm := Lib.hid (fun z => (hmem z).trans (MI.out.has z))
  clear hb3 hS hSl hup hmem hb4 B2 M2
  go_wp2_with fail
  go_loopw [27] (fun j wr => ∃ q : Nat, q ≤ ss.length ∧ j = .int .i64 q ∧ (∀ x ∈ ss.take q, mrN l r m x ≤ 0) ∧ Below w4.heap.size w4 wr) (fun j _ => ss.length - (intOf j).toNat)
  case atStart => exact ⟨0, Nat.zero_le _, rfl, by simp, Below.refl _ _⟩
  case round =>
    obtain ⟨q, hq, rfl, hle, hBr⟩ := hrel
    have HLe := Lib.hid hle
    have BR := Lib.hid hBr
    have BW := Lib.hid (B4.out.trans (hBr.mono B4.out.size))
    have DR := Lib.hid (HB.out.below BW.out)
    have MR := Lib.hid (ownsMap_below M4.out hBr)
    clear hle
    by_cases hlt : q < ss.length
    · have hqi : (q : Int) < (ss.length : Int) := by omega
      obtain ⟨bb, off, rfl, hbb, hc⟩ := S4.out.at_ hlt
      have d0 := (hBr.cell (p := ⟨bb, off + q, none⟩) hbb).trans (by have := hc 0 (.int .i64 ss[q]) rfl; simpa using this)
      have lb : bb < wr.heap.size := Nat.lt_of_lt_of_le hbb hBr.size
      have hx := (HMm.out ss[q]).1 (List.getElem_mem hlt)
      have hx1 := upOf_pos hx
      have hx2 := HUl.out _ hx
      have HF : Hid (0 < mrN l r m ss[q] → culIs (mrN l r m) ss (ss[q], mrN l r m ss[q])) := Lib.hid fun h => culIs_first HU.out hlt HLe.out h
      have HN : Hid (mrN l r m ss[q] ≤ 0 → ∀ y ∈ ss.take (q + 1), mrN l r m y ≤ 0) := Lib.hid fun h y hy => by
        rw [List.take_succ_eq_append_getElem hlt] at hy
        rcases List.mem_append.1 hy with hy | hy
        · exact HLe.out y hy
        · rw [List.mem_singleton.1 hy]; exact h
      have hkey : keyOf Tryz.prog 3 (.int .i64 ss[q]) = some (.int .i64 ss[q]) := keyOf_int_mk Tryz.underlying3 (WalkArith.wf_i64 (by omega))
      have HLk : Hid (∀ W, W.ownsMap Tryz.prog 3 (plainElem (H := Unit) Tryz.prog 3) b n D → (Instr.lookup 278 (.map (some b)) (.int .i64 ss[q]) false).run Tryz.prog W = .ok (.int .i64 (ownN r ss[q])) W) := Lib.hid fun W hW => by
        obtain ⟨c, h1, h2, _⟩ := hW.lookup_int keyI Tryz.underlying278 Tryz.underlying3 (zeroI W) hkey
        have h9 := h2.symm.trans (MI.out.at_ ss[q])
        obtain rfl : c = ownN r ss[q] := by simpa using h9
        exact h1
      have hbd := HBd.out ss[q]
      have HV : Hid (mrN l r m ss[q] = ownN r ss[q] - betwB m (endsOf l ss[q]).1 (endsOf l ss[q]).2.1) := Lib.hid rfl
      have HE2 := Lib.hid (fun W => HE.out W ss[q] hx2)
      obtain ⟨lo, hi, ok, he⟩ : ∃ lo hi ok, endsOf l ss[q] = (lo, hi, ok) := ⟨_, _, _, rfl⟩
      rw [he] at HE2 HV
      unfold endsV at HE2
      simp only at HE2 HV
      have b1 := hbd.1.1
      have b2 := hbd.1.2
      have b3 := (hbd.2 lo hi).1
      have b4 := (hbd.2 lo hi).2
      have HB2 := Lib.hid (fun W h => HBt.out W lo hi h)
      generalize betwB m lo hi = n2 at b3 b4 HB2 HV
      generalize ownN r ss[q] = n1 at b1 b2 HLk HV
      obtain ⟨v, hv⟩ : ∃ v, v = mrN l r m ss[q] := ⟨_, rfl⟩
      rw [← hv] at HF HN HV
      have vv := HV.out
      subst vv
      have HPos := Lib.hid (And.intro hx1 trivial)
      obtain ⟨x, hx0⟩ : ∃ x, x = ss[q] := ⟨_, rfl⟩
      rw [← hx0] at d0 HF HE2 HLk hx1 hx2
      clear hc hx hbd hv hx0 hkey he HV hBr
      go_wp2_with fail
      refine (HL.out _ DR.out).mono ?_
      rintro e w5 ⟨rfl, hb5⟩
      go_wp2_with fail
      refine (HE2.out _).mono ?_
      rintro e w6 ⟨rfl, hb6⟩
      have D6 := Lib.hid ((DR.out.below hb5).below hb6)
      have M6 := Lib.hid (ownsMap_below (ownsMap_below MR.out hb5) hb6)
      have B6 := Lib.hid (Below.then_ (Below.then_ BR.out hb5) hb6)
      have hlk : ∀ x', (Instr.lookup 278 (.map (some b)) (.int .i64 x) false).run Tryz.prog (ext w6 x') = .ok (.int .i64 n1) (ext w6 x') := fun x' => HLk.out _ (ownsMap_below M6.out (ext_below _ _))
      clear hb5 hb6
      go_wp2_with fail
      refine wp_region_ext (by kernel_rfl) (by kernel_rfl) ?_
      repeat (go_big_quiet_step ((go_at_call 230; exact quiet_ext (HB2.out _ (D6.out.below (ext_below _ _))))))
      refine wpQuiet_nil ?_
      intro w7 h7
      have B7 := Lib.hid (Below.then_ B6.out (below_of_ext h7))
      have BW7 := Lib.hid (B4.out.trans (B7.out.mono B4.out.size))
      clear h7 hlk
      by_cases hv : 0 < n1 - n2
      · have HF2 := HF.out hv
        go_wp2_with fail
        go_ret3
        exact ⟨(x, n1 - n2), rfl, ⟨ss, HMm.out, HF2, fun z hz => upOf_pos ((HMm.out z).1 hz)⟩, BW7.out⟩
      · have HN2 := Lib.hid (HN.out (by omega))
        have hv' : decide (0 < n1 - n2) = false := by simpa using hv
        go_wp2_with fail
        go_roundw
        case rel => exact ⟨q + 1, by omega, by go_num, HN2.out, B7.out⟩
        case measure => simp [intOf]; omega
    · obtain rfl : q = ss.length := by omega
      rw [List.take_length] at HLe
      have hqi : decide ((ss.length : Int) < (ss.length : Int)) = false := by simp
      go_wp2_with fail
      go_ret3
      exact ⟨(0, 0), rfl, ⟨ss, HMm.out, culIs_none HLe.out, fun z hz => upOf_pos ((HMm.out z).1 hz)⟩, BW.out⟩
end Go.Proofs.YtcjnchjmpkapmaaGreat
/- Package audit: Stands, and what cannot be held against one another. -/
namespace Go.Proofs.YtcjnchjmpkapmaaGreat
open Go.ChangeShapes Go.WideShapes Go.ChangeAt Go.RowKit Go.Maps
set_option linter.unusedVariables false
set_option linter.unusedSimpArgs false
set_option maxRecDepth 100000

theorem audit_Stands (HK : KeysC) (w : World) (g K l : Nat) (k : Int) (r : List Nd) (F : Nat → Prop) (base gb : Nat) (m : List Nd) (h : DigAt w g K l k r F) (hb : BagAt w base gb l m) (hm : BagL l m) (hI : ints r) (hr : ∀ x ∈ r, 1 ≤ x.2) (hp : ∀ x ∈ r, 1 ≤ x.1) (hs : sumR r ≤ 72057594037927935) (hlen : r.length ≤ 65536) :
    Calls Tryz.prog 70 #[.pointer (some ⟨g, 0, none⟩), .pointer (some ⟨gb, 0, none⟩)] w fun e w' => ∃ a : Int × Int, e = .returned (.tuple #[.bool (decide (sumR r = sumR m) && decide (a.1 = 0)), .int .i64 0]) ∧ Seen (mrN l r m) (upOf r) a ∧ Below w.heap.size w w' := by
  have HC := Lib.hid (fun W h hb => audit_Culprit HK W g K l k r F base gb m h hb hm hI hr hp hs hlen)
  have HN := Lib.hid (fun W h => digest_N W g K l k r F h)
  have HT := Lib.hid (fun W h => bag_Total W base gb l m h)
  have HD := Lib.hid h
  have HB := Lib.hid hb
  clear h hb hm hI hr hp hs HK
  generalize hn1 : sumR r = n1 at HN ⊢
  generalize hn2 : sumR m = n2 at HT ⊢
  go_enter Tryz.func70, Tryz.ntmps70
  go_wp2_with fail
  refine (HC.out _ HD.out HB.out).mono ?_
  rintro e w1 ⟨⟨a1, a2⟩, rfl, hSn, hb1⟩
  have HSn := Lib.hid hSn
  have B1 := Lib.hid hb1
  clear hSn
  simp only
  by_cases h0 : a1 = 0
  · subst h0
    go_wp2_with fail
    refine (HN.out _ (HD.out.below B1.out)).mono ?_
    rintro e w2 ⟨rfl, hb2⟩
    go_wp2_with fail
    refine (HT.out _ ((HB.out.below B1.out).below hb2)).mono ?_
    rintro e w3 ⟨rfl, hb3⟩
    have B3 := Lib.hid (Below.then_ (Below.then_ B1.out hb2) hb3)
    go_wp2_with fail
    go_ret2
    first | exact ⟨0, a2, by simp [BEq.beq], HSn.out, B3.out⟩ | exact ⟨(0, a2), by simp [BEq.beq], HSn.out, B3.out⟩ | trace_state
  · have h0' : (a1 == 0) = false := by simpa using h0
    go_wp2_with fail
    go_ret2
    first | exact ⟨a1, a2, by simp [h0], HSn.out, B1.out⟩ | exact ⟨(a1, a2), by simp [h0], HSn.out, B1.out⟩ | trace_state
end Go.Proofs.YtcjnchjmpkapmaaGreat
/- Package bag: Items. -/
namespace Go.Proofs.YtcjnchjmpkapmaaGreat
open Go.ChangeShapes Go.WideShapes Go.ChangeAt Go.RowKit
set_option linter.unusedVariables false
set_option linter.unusedSimpArgs false
set_option maxRecDepth 100000

@[go_sem] theorem run_eqRd_nil (w : World) (A : Option Addr) (n c : Nat) : (binOp .eql 29 (.slice A n c) (.slice none 0 0)).run Tryz.prog w = .ok (.bool A.isNone) w := Lib.run_eql_slice_nil w _ _ A n c 0 0 Tryz.underlying29
theorem clone_Rd (w : World) (A : Option Addr) (cap : Nat) (l : List Nd) (hS : Sl w w.heap.size encN A l) (hn : l.length ≤ 67108864) :
    Calls Tryz.prog 295 #[.slice A l.length cap] w (OwnPost 96 encN l w) := by
  rcases A with _ | a
  · have h0 : l = [] := by
      rcases hS with h | ⟨b, off, hA, _⟩
      · exact h
      · cases hA
    subst h0
    go_enter Tryz.func295, Tryz.ntmps295
    go_wp2_with fail
    go_ret
    exact ⟨_, rfl, Own.nil _ _ _ _, (by repeat (first | with_reducible exact Below.refl _ _ | with_reducible assumption | ((with_reducible refine Below.setCell ?_ ?_ _); rotate_left; · (first | omega | exact Nat.le_refl _ | (simp <;> omega))) | (with_reducible refine Below.allocW ?_ _) | (with_reducible refine Below.drew ?_) | (with_reducible refine Below.extW ?_ _)))⟩
  · have HS := Lib.hid hS
    clear hS
    go_enter Tryz.func295, Tryz.ntmps295
    go_wp2_with ((at_builtin; refine wpList_app tyRd2 rfl _ _ rfl encN w.heap.size (.slice (some ⟨w.heap.size, 0, none⟩) 0 0) [] rfl ?ho (some a) cap l w.heap.size rfl ?hs ?c1 ?c2 ?c3 ?c4))
    case ho => exact .inr ⟨w.heap.size, 0, 0, #[], rfl, Nat.le_refl _, heap_alloc_new w _, Nat.le_refl _, by simp, by simp, fun j u hj => by simp at hj⟩
    case hs => exact HS.out.keep (Nat.le_refl _) fun p hp => ((Below.refl w.heap.size w).alloc (Nat.le_refl _) _).cell hp
    case c1 => simp; omega
    case c2 => simp [maxLen]; omega
    case c3 => simp
    case c4 =>
      intro v' w1 ho1 _ _ hb1 _
      have B1 : Below w.heap.size w w1 := ((Below.refl w.heap.size w).alloc (Nat.le_refl _) _).trans hb1
      have HO1 := Lib.hid (show Own w1 w.heap.size 96 encN v' l by simpa using ho1)
      clear ho1
      go_wp2_with fail
      go_ret
      exact ⟨_, rfl, HO1.out, B1⟩
theorem bag_Items (w : World) (base g : Nat) (l : Int) (m : List Nd) (h : BagAt w base g l m) (hm : m.length ≤ 67108864) :
    Calls Tryz.prog 231 #[.pointer (some ⟨g, 0, none⟩)] w (OwnPost 96 encN m w) := by
  obtain ⟨v, hh, hg, ho⟩ := h
  obtain ⟨A, cap, rfl, _⟩ := ho.form
  have HC := Lib.hid (clone_Rd w A cap m ho.sl hm)
  have c := blk_cell hh
  have z := lt_of_block hh
  clear hh ho hg
  go_enter Tryz.func231, Tryz.ntmps231
  go_wp2_with fail
  refine HC.out.mono ?_
  rintro e w1 ⟨v, rfl, ho, hb⟩
  have HO := Lib.hid ho
  clear ho
  go_wp2_with fail
  go_ret
  exact ⟨_, rfl, HO.out, hb⟩
end Go.Proofs.YtcjnchjmpkapmaaGreat
/- Reference 34: far. -/
namespace Go.Proofs.YtcjnchjmpkapmaaGreat
open Go.ChangeShapes Go.WideShapes Go.ChangeAt Go.RowKit
set_option linter.unusedVariables false
set_option linter.unusedSimpArgs false
set_option maxRecDepth 100000

theorem own_atZ {w : World} {base : Nat} {A : Option Addr} {n cap : Nat} {l : List Int} (h : Own w base 3 encZ (.slice A n cap) l) {k : Nat} (hk : k < l.length) : ∃ b off, A = some ⟨b, off, none⟩ ∧ b < w.heap.size ∧ w.cell? ⟨b, off + k, none⟩ = some (.int .i64 l[k]) := by
  obtain ⟨b, off, hA, hb, hc⟩ := h.sl.at_ hk
  refine ⟨b, off, hA, hb, ?_⟩
  have := hc 0 (.int .i64 l[k]) rfl
  simpa using this
def farN (l : Int) (r m : List Nd) (x : Int) : Int := max (lowOf l r x - betwB m 0 x) (-(lowOf l r x - betwB m 0 x))
def offL (S : List Int) (m : List Nd) : List Int := S ++ m.map (·.1)
theorem offL_take {S : List Int} {m : List Nd} {q : Nat} (h : q < m.length) : S ++ (m.take (q + 1)).map (·.1) = (S ++ (m.take q).map (·.1)) ++ [m[q].1] := by
  rw [List.take_succ_eq_append_getElem h, List.map_append, List.append_assoc]; rfl
theorem low_bounds {l : Int} {r : List Nd} (hr : Roll r) (hs : sumR r ≤ 72057594037927935) (x : Int) : 0 ≤ lowOf l r x ∧ lowOf l r x ≤ 72057594037927935 := by
  have h0 : ∀ y ∈ r, 0 ≤ y.2 := fun y hy => by have := (hr.2 y hy).2; omega
  unfold lowOf
  rw [weighR_ids]
  exact ⟨wIds_0 h0, Int.le_trans (wIds_sum h0) hs⟩
end Go.Proofs.YtcjnchjmpkapmaaGreat
/- slices.Sort on a list of ints that the call owns. -/
namespace Go.Proofs.YtcjnchjmpkapmaaGreat
open Go.ChangeShapes Go.WideShapes Go.ChangeAt Go.RowKit
set_option linter.unusedVariables false

theorem flatZ (l : List Int) : l.flatMap encZ.enc = l.map (Value.int .i64) := by
  induction l with
  | nil => rfl
  | cons x l ih => rw [List.flatMap_cons, ih]; rfl
theorem Own.holdsZ {w : World} {base g off cap : Nat} {l : List Int} (h : Own w base 3 encZ (.slice (some ⟨g, off, none⟩) l.length cap) l) : Go.Sort.Holds (Value.int .i64) w g off l.toArray := by
  intro j hj
  have hj : j < l.length := by simpa using hj
  rcases h with ⟨h, _⟩ | ⟨g', off', cap', cur, hv, hb, hh, h1, h2, h3, hc⟩
  · cases h
  · injection hv with hv _ _
    injection hv with hv
    injection hv with e1 e2
    subst e1 e2
    rw [blk_cell hh, blk_frozen hh]
    refine ⟨hc j _ ?_, rfl⟩
    rw [flatZ, List.getElem?_map, List.getElem?_eq_getElem hj]
    simp [hj]
theorem Own.putZ {w : World} {base g off cap : Nat} {l : List Int} (h : Own w base 3 encZ (.slice (some ⟨g, off, none⟩) l.length cap) l) (d l' : List Int) (hd : d.length = l.length) (rest : List Int) (hr : d = l' ++ rest) (n : Nat) (os : Array Obj) :
    Own (Go.Sort.grow (Go.Sort.putRow (Value.int .i64) (Go.Sort.ahead w n) g off d.toArray) os) base 3 encZ (.slice (some ⟨g, off, none⟩) l'.length cap) l' ∧ Turn (fun b => b = g) w (Go.Sort.grow (Go.Sort.putRow (Value.int .i64) (Go.Sort.ahead w n) g off d.toArray) os) ∧ base ≤ g := by
  have hl : l'.length ≤ l.length := by rw [← hd, hr, List.length_append]; omega
  rcases h with ⟨h, _⟩ | ⟨g', off', cap', cur, hv, hb, hh, h1, h2, h3, hc⟩
  · cases h
  · injection hv with hv _ hcap
    injection hv with hv
    injection hv with e1 e2
    subst e1 e2 hcap
    have hlt : g < w.heap.size := lt_of_block hh
    have hg : (Go.Sort.grow (Go.Sort.putRow (Value.int .i64) (Go.Sort.ahead w n) g off d.toArray) os).heap[g]? = some (.cells (Go.Sort.putCells (Value.int .i64) off d.toArray cur) 3 (0, 0)) := by
      rw [Go.Sort.heap_grow_old _ _ (by simp [Go.Sort.putRow, Go.Sort.mapBlock, Go.Sort.ahead]; exact hlt)]
      simp [Go.Sort.putRow, Go.Sort.mapBlock, Go.Sort.ahead, Array.getElem?_modify, Go.Sort.onCells, hh]
    refine ⟨.inr ⟨g, off, cap, _, rfl, hb, hg, by omega, h2, by simpa [Go.Sort.putCells] using h3, fun j u hj => ?_⟩, ⟨rfl, rfl, rfl, ?_, fun b hlb hn => ?_⟩, hb⟩
    · rw [flatZ, List.getElem?_map] at hj
      obtain ⟨x, hx, rfl⟩ := Option.map_eq_some_iff.1 hj
      have hjl : j < l'.length := (List.getElem?_eq_some_iff.1 hx).1
      have hcur : cur[off + j]? = some cur[off + j] := Array.getElem?_eq_getElem (by omega)
      simp only [Go.Sort.putCells, Array.getElem?_mapIdx, hcur, Option.map_some]
      rw [if_pos ⟨by omega, by simp [hd]; omega⟩]
      have hdj : d[j]? = some x := by rw [hr, List.getElem?_append_left hjl]; exact hx
      have e : d.toArray[off + j - off]! = x := by
        rw [Nat.add_sub_cancel_left, getElem!_pos _ _ (by simpa using (List.getElem?_eq_some_iff.1 hdj).1)]
        simpa using (List.getElem?_eq_some_iff.1 hdj).2
      rw [e]
    · simp [Go.Sort.grow, Go.Sort.putRow, Go.Sort.mapBlock, Go.Sort.ahead]
    · rw [Go.Sort.heap_grow_old _ _ (by simp [Go.Sort.putRow, Go.Sort.mapBlock, Go.Sort.ahead]; exact hlb)]
      simp only [Go.Sort.putRow, Go.Sort.mapBlock, Go.Sort.ahead, Array.getElem?_modify]
      rw [if_neg (by intro h; exact hn h.symm)]
theorem sort_own (w : World) (base g off cap : Nat) (l : List Int) (h : Own w base 3 encZ (.slice (some ⟨g, off, none⟩) l.length cap) l) (hb : base ≤ w.heap.size) (hm : l.length ≤ 1000000000000) :
    Calls Tryz.prog 232 #[.slice (some ⟨g, off, none⟩) l.length cap] w fun e w' => e = .returned (.tuple #[]) ∧ Own w' base 3 encZ (.slice (some ⟨g, off, none⟩) l.length cap) (l.mergeSort fun x y => decide (x ≤ y)) ∧ Turn (fun b => b = g) w w' ∧ base ≤ g := by
  refine (Go.Proofs.Tryz.slices_Sort_int g off cap l w h.holdsZ ((h.lt g rfl).2) (by omega)).mono ?_
  rintro e w' ⟨rfl, n, os, rfl⟩
  have hl : (l.mergeSort fun x y => decide (x ≤ y)).length = l.length := List.length_mergeSort _
  obtain ⟨h1, h2, h3⟩ := h.putZ (l.mergeSort fun x y => decide (x ≤ y)) (l.mergeSort fun x y => decide (x ≤ y)) hl [] (by simp) n os
  rw [hl] at h1
  exact ⟨rfl, h1, h2, h3⟩
end Go.Proofs.YtcjnchjmpkapmaaGreat
/- Package audit: Off. -/
namespace Go.Proofs.YtcjnchjmpkapmaaGreat
open Go.ChangeShapes Go.WideShapes Go.ChangeAt Go.RowKit
set_option linter.unusedVariables false
set_option linter.unusedSimpArgs false
set_option maxRecDepth 100000

def allL (S : List Int) (m : List Nd) : List Int := (S ++ [0]) ++ m.map (·.1)
theorem allL_nil (S : List Int) : allL S [] = S ++ [0] := by simp [allL]
theorem allL_take {S : List Int} {m : List Nd} {q : Nat} (h : q < m.length) : allL S (m.take (q + 1)) = allL S (m.take q) ++ [m[q].1] := offL_take h
theorem allL_len (S : List Int) (m : List Nd) : (allL S m).length = S.length + 1 + m.length := by simp [allL]; omega
def sortL (L : List Int) : List Int := L.mergeSort fun x y => decide (x ≤ y)
theorem sortL_len (L : List Int) : (sortL L).length = L.length := List.length_mergeSort _
set_option maxHeartbeats 8000000 in
theorem audit_Off (w : World) (g K l : Nat) (k : Int) (r : List Nd) (F : Nat → Prop) (base gb : Nat) (m : List Nd) (h : DigAt w g K l k r F) (hb : BagAt w base gb l m) (hm : BagL l m) (hlen : r.length ≤ 65536) (hlm : m.length ≤ 65536) :
    Calls Tryz.prog 134 #[.pointer (some ⟨g, 0, none⟩), .pointer (some ⟨gb, 0, none⟩)] w fun e w' => ∃ (S : List Int) (a : Int × Int), e = .returned (.tuple #[.int .i64 a.1, .int .i64 a.2, .int .i64 0]) ∧ StepsIs l r S ∧ a = offFold (farN l r m) (sortL (allL S m)) ∧ Below w.heap.size w w' := by
  have HW := Lib.hid (fun W h hb => audit_wrong W g K l k r F base gb l m h hb)
  simp only [if_true] at HW
  have hfr := h.fits
  have HOf := Lib.hid (fun W h => rank_Of W g K l k r F h (by omega))
  have HIt := Lib.hid (fun W h => bag_Items W base gb l m h (by omega))
  have HRk := Lib.hid (fun W x h => bag_Rank W base gb l m x h hm)
  have HB := Lib.hid hb
  have HD := Lib.hid h
  have HLw := Lib.hid (fun x => low_bounds (l := l) hfr.roll hfr.sum x)
  have HBw := Lib.hid (fun x => betwB_le (fun y hy => (hm.val y hy).2.2) 0 x)
  have hms := hm.sum
  clear h hb hm hfr
  go_enter Tryz.func134, Tryz.ntmps134
  go_wp2_with fail
  refine (HW.out _ HD.out HB.out).mono ?_
  rintro e w1 ⟨rfl, hb1⟩
  have B1 := Lib.hid hb1
  go_wp2_with fail
  refine (HOf.out _ (HD.out.below hb1)).mono ?_
  rintro e w2 ⟨gt, lt, ft, rfl, hT, hlt, _, hltl, _, hb2⟩
  have HT2 := Lib.hid hT
  have HTb := Lib.hid hlt
  have B2 := Lib.hid (Below.then_ B1.out hb2)
  have HB2 := Lib.hid (HB.out.below B2.out)
  have hltl2 : lt.length ≤ 65536 := by omega
  clear hb1 hb2 hT hlt HOf HD HW
  go_wp2_with fail
  refine (table_Steps HT2.out (by omega)).mono ?_
  rintro e w3 ⟨v3, rfl, ho3, hb3⟩
  have O3 := Lib.hid ho3
  have B3 := Lib.hid hb3
  have s3 := hb3.size
  have hSL : (lt.map (·.1)).length ≤ 65536 := by rw [List.length_map]; omega
  have HSt := Lib.hid (tab_steps HTb.out)
  generalize hSe : lt.map (·.1) = S at O3 hSL HSt
  clear ho3 hb3 hSe
  go_wp2_with ((at_builtin; refine wpList_push tyZ rfl _ _ rfl encZ w3 w2.heap.size v3 S rfl O3.out 0 rfl rfl ?a1 ?a2 ?a3 ?a4))
  case a1 => omega
  case a2 => simp only [maxLen]; omega
  case a3 => exact s3
  case a4 =>
    intro v4 w4 ho4 _ _ _ hb4 _
    have O4 := Lib.hid ho4
    have B4 := Lib.hid (B3.out.trans hb4)
    clear ho4 hb4
    have HB4 := Lib.hid (HB2.out.below B4.out)
    go_wp2_with fail
    refine (HIt.out _ HB4.out).mono ?_
    rintro e w5 ⟨v5, rfl, ho5, hb5⟩
    obtain ⟨A5, c5, rfl, _⟩ := ho5.form
    have I5 := Lib.hid (ho5.base_le (Nat.zero_le _))
    have O5 := Lib.hid (O4.out.below hb5)
    have B5 := Lib.hid (B4.out.trans (hb5.mono B4.out.size))
    clear ho5 hb5
    go_wp2_with fail
    go_loopw [9, 30] (fun v j wr => ∃ q : Nat, q ≤ m.length ∧ j = .int .i64 q ∧ Own wr w2.heap.size 3 encZ v (allL S (m.take q)) ∧ Below w2.heap.size w2 wr ∧ Own wr 0 96 encN (.slice A5 m.length c5) m) (fun _ j _ => m.length - (intOf j).toNat)
    case atStart => exact ⟨0, Nat.zero_le _, rfl, by rw [List.take_zero, allL_nil]; exact O5.out, B5.out, I5.out⟩
    case round =>
      obtain ⟨q, hq, rfl, ho, hB, hI⟩ := hrel
      obtain ⟨Ao, co, rfl, _⟩ := ho.form
      have HO := Lib.hid ho
      have HBB := Lib.hid hB
      have HI := Lib.hid hI
      clear ho hI
      have sB := hB.size
      by_cases hlt : q < m.length
      · have hqi : (q : Int) < (m.length : Int) := by omega
        obtain ⟨b, off, rfl, hb, hc⟩ := HI.out.sl.at_ hlt
        have d1 := hc 1 (.int .i64 m[q].2) rfl
        have d0 := hc 0 (.int .i64 m[q].1) rfl
        simp only [Nat.add_zero] at d0
        have HTk := Lib.hid (allL_take (S := S) hlt)
        have hlq : (allL S (m.take q)).length ≤ 131073 := by rw [allL_len, List.length_take]; omega
        have HLq := Lib.hid hlq
        obtain ⟨x, hx⟩ : ∃ x, x = m[q].1 := ⟨_, rfl⟩
        obtain ⟨c, hcc⟩ : ∃ c, c = m[q].2 := ⟨_, rfl⟩
        rw [← hx] at d0 HTk
        rw [← hcc] at d1
        clear hc hx hcc hlq
        generalize allL S (m.take q) = L at HO HTk HLq ⊢
        have HX := heap_alloc_new wr (.cells #[.int .i64 x, .int .i64 c] 96)
        have OA := Lib.hid (HO.out.alloc (.cells #[.int .i64 x, .int .i64 c] 96))
        have IA := Lib.hid (HI.out.alloc (.cells #[.int .i64 x, .int .i64 c] 96))
        have BA := Lib.hid (hB.alloc sB (.cells #[.int .i64 x, .int .i64 c] 96))
        obtain ⟨xb, hxb⟩ : ∃ xb, xb = wr.heap.size := ⟨_, rfl⟩
        have hxz : w2.heap.size ≤ xb := by omega
        go_upto_region 9 with fail
        rw [← hxb] at HX ⊢
        generalize wr.alloc (.cells #[.int .i64 x, .int .i64 c] 96) = W1 at HX OA IA BA ⊢
        have nx := blk_cell HX
        have nz := lt_of_block HX
        have s1 := BA.out.size
        clear hB d0 d1 hb HX hxb
        go_wp2_with ((at_builtin; refine wpList_push tyZ rfl _ _ rfl encZ W1 w2.heap.size (.slice Ao L.length co) L rfl OA.out x rfl rfl ?b1 ?b2 ?b3 ?b4))
        case b1 => have := HLq.out; omega
        case b2 => have := HLq.out; simp only [maxLen]; omega
        case b3 => exact s1
        case b4 =>
          intro v6 w6 ho6 hg6 _ _ hb6 _
          have O6 := Lib.hid ho6
          have B6 := Lib.hid (BA.out.trans hb6)
          have I6 := Lib.hid (IA.out.kept hg6 (own_ne IA.out OA.out (by decide)))
          clear ho6 hg6 hb6
          go_wp2_with fail
          go_roundw
          case rel => exact ⟨q + 1, by omega, by go_num, by rw [HTk.out]; exact O6.out, B6.out, I6.out⟩
          case measure => simp [intOf]; omega
      · obtain rfl : q = m.length := by omega
        rw [List.take_length] at HO ⊢
        have hqi : decide ((m.length : Int) < (m.length : Int)) = false := by simp
        have hL : (allL S m).length ≤ 131073 := by rw [allL_len]; omega
        have hL0 : 0 < (allL S m).length := by rw [allL_len]; omega
        generalize hLe : allL S m = L at HO hL hL0 ⊢
        have HLe := Lib.hid hLe
        clear hLe HI
        obtain ⟨gl, ol, cl, hv, hcl⟩ := own_at0 HO.out hL0
        injection hv with hv1 hv2 hv3
        subst hv1 hv3
        go_wp2_with fail
        refine (sort_own wr w2.heap.size gl ol co L HO.out sB (by omega)).mono ?_
        rintro e w7 ⟨rfl, ho7, ht7, hbg⟩
        have B7 := Lib.hid (HBB.out.trans (ht7.below (base := w2.heap.size) (fun b hb => by rw [hb]; exact hbg) sB))
        have O7 := Lib.hid ho7
        have hsl : (L.mergeSort fun x y => decide (x ≤ y)) = sortL L := rfl
        rw [hsl] at O7
        have hsl2 := sortL_len L
        have HT7 := Lib.hid (HT2.out.below B7.out)
        have HB7 := Lib.hid (HB2.out.below B7.out)
        clear ho7 ht7 hB HO HBB hsl
        have hsl3 : (sortL L).length ≤ 131073 := by omega
        rw [← hsl2] at O7 ⊢
        generalize hT : sortL L = T at O7 hsl3 ⊢
        have HTe := Lib.hid hT
        clear hsl2 hT hL hL0
        go_wp2_with fail
        go_loopw [4, 5, 44] (fun at_ o j W => ∃ q : Nat, q ≤ T.length ∧ j = .int .i64 q ∧ at_ = .int .i64 (offFold (farN l r m) (T.take q)).1 ∧ o = .int .i64 (offFold (farN l r m) (T.take q)).2 ∧ Below w7.heap.size w7 W) (fun _ _ j _ => T.length - (intOf j).toNat)
        case atStart => exact ⟨0, Nat.zero_le _, rfl, rfl, rfl, Below.refl _ _⟩
        case round =>
          obtain ⟨q, hq, rfl, rfl, rfl, hB⟩ := hrel
          have HBl := Lib.hid hB
          have O8 := Lib.hid (O7.out.below hB)
          have HT8 := Lib.hid (HT7.out.below (hB.mono B7.out.size))
          have HB8 := Lib.hid (HB7.out.below hB)
          clear hB
          by_cases hlt : q < T.length
          · have hqi : (q : Int) < (T.length : Int) := by omega
            have HStep := Lib.hid (show offFold (farN l r m) (T.take (q + 1)) = offStep (farN l r m) (offFold (farN l r m) (T.take q)) T[q] by rw [List.take_succ_eq_append_getElem hlt, offFold_snoc])
            obtain ⟨b, off, hv, hb, d0⟩ := own_atZ O8.out hlt
            injection hv with hv
            injection hv with hv1 hv2 _
            subst hv1 hv2
            obtain ⟨x, hx⟩ : ∃ x, x = T[q] := ⟨_, rfl⟩
            rw [← hx] at d0 HStep
            have HLx := Lib.hid (fun W (h : TabAt W w1.heap.size w2.heap.size gt (sumR r) lt ft) => table_Low x h (by omega) HTb.out.rise)
            rw [HTb.out.upT x, low_up] at HLx
            have HRx := Lib.hid (fun W h => HRk.out W x h)
            have hlw := HLw.out x
            have hbw := HBw.out x
            have hfd : farN l r m x = max (lowOf l r x - betwB m 0 x) (-(lowOf l r x - betwB m 0 x)) := rfl
            have HFd := Lib.hid hfd
            generalize lowOf l r x = n1 at HLx hlw HFd
            generalize betwB m 0 x = n2 at HRx hbw HFd
            have hl0 := hlw.1
            have hl1 := hlw.2
            have hb0 := hbw.1
            have hb1 : n2 ≤ 72057594037927935 := by omega
            generalize offFold (farN l r m) (T.take q) = a at HStep ⊢
            obtain ⟨a1, a2⟩ := a
            have HStep : Hid (offFold (farN l r m) (T.take (q + 1)) = if a2 < farN l r m x then (x, farN l r m x) else (a1, a2)) := Lib.hid HStep.out
            rw [HFd.out] at HStep
            generalize hLq : offFold (farN l r m) (T.take (q + 1)) = aq at HStep
            have HLq2 := Lib.hid hLq
            clear hLq hx hlw hbw hfd
            (try simp only)
            go_wp2_with fail
            refine (HLx.out _ HT8.out).mono ?_
            rintro e w8 ⟨rfl, hb8⟩
            have B8 := Lib.hid (HBl.out.trans (hb8.mono HBl.out.size))
            go_wp2_with fail
            refine (HRx.out _ (HB8.out.below hb8)).mono ?_
            rintro e w9 ⟨rfl, hb9⟩
            have B9 := Lib.hid (B8.out.trans (hb9.mono B8.out.size))
            clear hb8 hb9 d0 hb
            go_upto_region 17 with fail
            by_cases k1 : a2 < max (n1 - n2) (-(n1 - n2))
            · rw [if_pos k1] at HStep
              go_wp2_with fail
              go_roundw
              case rel => exact ⟨q + 1, by omega, by go_num, by rw [HLq2.out, HStep.out], by rw [HLq2.out, HStep.out], B9.out⟩
              case measure => simp [intOf]; omega
            · rw [if_neg k1] at HStep
              have k1' : decide (a2 < max (n1 - n2) (-(n1 - n2))) = false := by simpa using k1
              clear k1
              go_wp2_with fail
              go_roundw
              case rel => exact ⟨q + 1, by omega, by go_num, by rw [HLq2.out, HStep.out], by rw [HLq2.out, HStep.out], B9.out⟩
              case measure => simp [intOf]; omega
          · obtain rfl : q = T.length := by omega
            have hqi : decide ((T.length : Int) < (T.length : Int)) = false := by simp
            have hfin : offFold (farN l r m) (T.take T.length) = offFold (farN l r m) (sortL (allL S m)) := by rw [List.take_length, ← HTe.out, HLe.out]
            have HFin := Lib.hid hfin
            clear hfin
            generalize offFold (farN l r m) (T.take T.length) = a at HFin ⊢
            go_wp2_with fail
            go_ret3
            exact ⟨S, a, rfl, HSt.out, HFin.out, B2.out.trans ((B7.out.trans (HBl.out.mono B7.out.size)).mono B2.out.size)⟩
end Go.Proofs.YtcjnchjmpkapmaaGreat
/- The sorted keys of a map of the call's own. -/
namespace Go.Proofs.YtcjnchjmpkapmaaGreat
open Go.ChangeShapes Go.WideShapes Go.ChangeAt Go.RowKit Go.Maps Go.Sort Go.Shelf
set_option linter.unusedVariables false
set_option linter.unusedSimpArgs false
set_option maxRecDepth 100000

theorem mem_intKeys {w : World} {b n : Nat} {D : DataW Unit} {R : Value → Option (DataW Unit × List MemPlace)} (hown : w.ownsMap Tryz.prog 3 R b n D) (z : Int) : z ∈ intKeys D ↔ Go.Maps.has D (.int .i64 z) = true := by
  obtain ⟨es, rfl, hko⟩ := hown.keysOf
  have hk : ∀ p ∈ es, ∃ x, p.1 = .int .i64 x := fun p hp => by
    obtain ⟨v, hv⟩ := hko p hp
    obtain ⟨x, _, hx, _⟩ := Maps.keyOf_i64 Tryz.underlying3 hv
    exact ⟨x, hx⟩
  rw [has_eq, List.any_eq_true]
  unfold intKeys
  rw [List.mem_map]
  constructor
  · rintro ⟨p, hp, rfl⟩
    obtain ⟨a, ha⟩ := hk p hp
    exact ⟨p, hp, by rw [ha]; simp [Lit.sameKey, Go.intOf]⟩
  · rintro ⟨p, hp, hs⟩
    obtain ⟨a, ha⟩ := hk p hp
    rw [ha] at hs
    exact ⟨p, hp, by rw [ha]; simpa [Lit.sameKey, Go.intOf] using hs⟩
theorem flatZ1 (l : List Int) : l.flatMap Go.Proofs.YtcjnchjmpkapmaaGreat.encZ.enc = l.map (Value.int .i64) := by
  induction l with
  | nil => rfl
  | cons x l ih => rw [List.flatMap_cons, ih]; rfl
theorem sortsI (m : Nat) : AnyZI.SortsIn Tryz.prog Go.Proofs.Tryz.sortedI_ren Fence.wide m :=
  ⟨fun blk off cap ss W hH hblk hsz => callsIn_wide.2 (Go.Proofs.Tryz.slices_Sort_int blk off cap ss W hH hblk hsz),
   fun p cap W => callsIn_wide.2 (Go.Proofs.Tryz.slices_Sort_int_none p cap W)⟩
set_option maxHeartbeats 4000000 in
theorem keysC : KeysC := by
  intro w b n D hown hn
  have hbl := hown.lt
  have hsz : Maps.size D ≤ 4194304 := Nat.le_trans hown.size_le hn
  have hseq : SeqGives Fence.wide 2 Tryz.prog 292 #[.pointer (some ⟨w.heap.size, 0, none⟩)] (Value.int .i64) (fun ss => ss.Perm (intKeys D)) (Maps.size D) (w.alloc (.cells #[.map (some b)] 278)) :=
    AnyZI.keys_gives (ρ := Go.Proofs.Tryz.keysI_ren) { Go.Proofs.Tryz.keysI with } Fence.wide _ trivial rfl (by omega) w.heap.size b n D _ (by simp) (by simp) (ownsMap_below hown ((Below.refl _ w).alloc (Nat.le_refl _) _))
  have cK := AnyZI.keys_in Go.Proofs.Tryz.keysI Fence.wide 5 trivial rfl (some b) w
  have cS := AnyZI.sorted_in Go.Proofs.Tryz.sortedI Fence.wide 5 trivial trivial trivial trivial rfl (by omega) (sortsI _) (enters_of Tryz.func232 (by kernel_rfl) rfl) 292 #[.pointer (some ⟨w.heap.size, 0, none⟩)] trivial (enters_of Tryz.func292 (by kernel_rfl) rfl) _ _ (by simp only [maxLen]; omega) (by omega) _ hseq
  refine (callsIn_wide.1 cK).mono ?_
  rintro e w1 ⟨rfl, rfl⟩
  refine ⟨_, rfl, (Below.refl _ w).alloc (Nat.le_refl _) _, ?_⟩
  refine (callsIn_wide.1 cS).mono ?_
  rintro e w2 ⟨v, ss, rfl, hperm, hrow, hnil, hb⟩
  have hl : (ss.mergeSort (fun x y => decide (x ≤ y))).length = ss.length := List.length_mergeSort ss
  have hrow2 : w2.ownsRow (w.alloc (.cells #[.map (some b)] 278)).heap.size 3 1 v (ss.mergeSort (fun x y => decide (x ≤ y))).length ((ss.mergeSort (fun x y => decide (x ≤ y))).flatMap Go.Proofs.YtcjnchjmpkapmaaGreat.encZ.enc) := by
    rw [hl, flatZ1]
    exact hrow
  have ho := Own.of_row hrow2 rfl (by decide)
  obtain ⟨A, cap, rfl, _, _, hSl, _⟩ := ho.form
  refine ⟨A, cap, ss.mergeSort (fun x y => decide (x ≤ y)), rfl, hSl, ?_, fun z => ?_, ?_, hb⟩
  · have := List.pairwise_mergeSort (le := fun x y : Int => decide (x ≤ y)) (fun a b c h1 h2 => by simp only [decide_eq_true_eq] at *; omega) (fun a b => by simp only [Bool.or_eq_true, decide_eq_true_eq]; omega) ss
    exact this.imp fun h => by simpa using h
  · rw [(List.mergeSort_perm ss _).mem_iff, hperm.mem_iff, mem_intKeys hown]
  · rw [hl, hperm.length_eq]
    obtain ⟨es, rfl, _⟩ := hown.keysOf
    simp only [intKeys, List.length_map]
    exact hsz
end Go.Proofs.YtcjnchjmpkapmaaGreat
/- Package audit: Check, Good; digest.Room. -/
namespace Go.Proofs.YtcjnchjmpkapmaaGreat
open Go.ChangeShapes Go.WideShapes Go.ChangeAt Go.RowKit
set_option linter.unusedVariables false
set_option linter.unusedSimpArgs false
set_option maxRecDepth 100000

theorem digest_Room (w : World) (g K l : Nat) (k : Int) (r : List Nd) (F : Nat → Prop) (h : DigAt w g K l k r F) : Calls Tryz.prog 140 #[.pointer (some ⟨g, 0, none⟩)] w fun e w' => e = .returned (.int .i64 (8 * k)) ∧ Below w.heap.size w w' := by
  obtain ⟨h1, h2, p, F0, rfl, hh, hP⟩ := h
  have c := blk_cell hh
  have z := lt_of_block hh
  clear hh hP
  go_enter Tryz.func140, Tryz.ntmps140
  go_wp2_with fail
  refine (made_room _ k h1 h2).mono ?_
  rintro e w1 ⟨rfl, hb1⟩
  have B1 : Below w.heap.size w w1 := Below.then_ (by repeat (first | with_reducible exact Below.refl _ _ | with_reducible assumption | ((with_reducible refine Below.setCell ?_ ?_ _); rotate_left; · (first | omega | exact Nat.le_refl _ | (simp <;> omega))) | (with_reducible refine Below.allocW ?_ _) | (with_reducible refine Below.drew ?_) | (with_reducible refine Below.extW ?_ _))) hb1
  have s1 : w.heap.size ≤ w1.heap.size := B1.size
  go_wp2_with fail
  go_ret
  exact ⟨rfl, (by repeat (first | with_reducible exact Below.refl _ _ | with_reducible assumption | ((with_reducible refine Below.setCell ?_ ?_ _); rotate_left; · (first | omega | exact Nat.le_refl _ | (simp <;> omega))) | (with_reducible refine Below.allocW ?_ _) | (with_reducible refine Below.drew ?_) | (with_reducible refine Below.extW ?_ _)))⟩
theorem dig_pool {w : World} {g K l : Nat} {k : Int} {r : List Nd} {F : Nat → Prop} (h : DigAt w g K l k r F) : isPool K l = true := by
  obtain ⟨_, _, p, F0, rfl, _, a, b, _, q, F1, _, hk⟩ := h
  simp only [isPool, decide_eq_true_eq]
  rcases hk with ⟨hk, h16, _⟩ | ⟨hk, _⟩ <;> omega
def verdV (a b c d e : Bool) (x y z : Int) : Value := .agg #[.bool a, .bool b, .bool c, .bool d, .bool e, .int .i64 x, .int .i64 y, .int .i64 z]
theorem audit_Good (w : World) (a b c d e : Bool) (x y z : Int) :
    Calls Tryz.prog 61 #[verdV a b c d e x y z] w fun en w' => en = .returned (.bool (e && b && c && decide (y ≤ z))) ∧ Below w.heap.size w w' := by
  unfold verdV
  by_cases hyz : y ≤ z
  · cases e <;> cases b <;> cases c <;>
    · go_enter Tryz.func61, Tryz.ntmps61
      go_wp2_with fail
      go_ret
      exact ⟨ret_bool (by simp [hyz]), (by repeat (first | with_reducible exact Below.refl _ _ | with_reducible assumption | ((with_reducible refine Below.setCell ?_ ?_ _); rotate_left; · (first | omega | exact Nat.le_refl _ | (simp <;> omega))) | (with_reducible refine Below.allocW ?_ _) | (with_reducible refine Below.drew ?_) | (with_reducible refine Below.extW ?_ _)))⟩
  · have hyz' : decide (y ≤ z) = false := by simpa using hyz
    clear hyz
    cases e <;> cases b <;> cases c <;>
    · go_enter Tryz.func61, Tryz.ntmps61
      go_wp2_with fail
      go_ret
      exact ⟨ret_bool (by simp [hyz']), (by repeat (first | with_reducible exact Below.refl _ _ | with_reducible assumption | ((with_reducible refine Below.setCell ?_ ?_ _); rotate_left; · (first | omega | exact Nat.le_refl _ | (simp <;> omega))) | (with_reducible refine Below.allocW ?_ _) | (with_reducible refine Below.drew ?_) | (with_reducible refine Below.extW ?_ _)))⟩
structure ChkS (w : World) (g K l : Nat) (k : Int) (r : List Nd) (F : Nat → Prop) (base gb : Nat) (m : List Nd) (q4 : Nat) (W : World) : Prop where
  d : DigAt W g K l k r F
  b : BagAt W base gb l m
  x : W.heap[q4]? = some (.cells #[.bool false, .bool false, .bool false, .bool false, .bool false, .int .i64 0, .int .i64 0, .int .i64 0] 106 (0, 0))
  le : w.heap.size ≤ q4
  blw : Below w.heap.size w W
structure VerS (w8 : World) (pv : Nat) (vals : Array Value) (W : World) : Prop where
  v : W.heap[pv]? = some (.cells vals 106 (0, 0))
  le : w8.heap.size ≤ pv
  blw : Below w8.heap.size w8 W
section
variable {w w8 : World} {g K l : Nat} {k : Int} {r : List Nd} {F : Nat → Prop} {base gb : Nat} {m : List Nd} {q4 pv : Nat} {vals : Array Value} {W W' : World}
theorem ChkS.below (h : ChkS w g K l k r F base gb m q4 W) (hb : Below W.heap.size W W') : ChkS w g K l k r F base gb m q4 W' :=
  ⟨h.d.below hb, h.b.below hb, blk_below h.x hb, h.le, h.blw.trans (hb.mono h.blw.size)⟩
theorem ChkS.drew (h : ChkS w g K l k r F base gb m q4 W) : ChkS w g K l k r F base gb m q4 W.drew := h.below (Below.drew (Below.refl _ _))
theorem VerS.below (h : VerS w8 pv vals W) (hb : Below W.heap.size W W') : VerS w8 pv vals W' :=
  ⟨blk_below h.v hb, h.le, h.blw.trans (hb.mono h.blw.size)⟩
theorem VerS.set (h : VerS w8 pv vals W) (i : Nat) (u : Value) : VerS w8 pv (vals.setIfInBounds i u) (W.setCell ⟨pv, i, none⟩ u) :=
  ⟨heap_set_at h.v u, h.le, h.blw.setCell h.le u⟩
end
def CheckPost (l : Nat) (k : Int) (r m : List Nd) (w : World) (e : Ending) (w' : World) : Prop :=
  ∃ (S : List Int) (a c : Int × Int) (t : Bool), e = .returned (.tuple #[verdV (sumR r == sumR m) (lightOf l r k) (decide ((r.length : Int) ≤ 8 * k)) t (decide (sumR r = sumR m) && decide (c.1 = 0)) a.1 a.2 ((l : Int) * (sumR r / k)), .int .i64 0]) ∧
    StepsIs l r S ∧ a = offFold (farN l r m) (sortL (allL S m)) ∧ Seen (mrN l r m) (upOf r) c ∧ (t = true ↔ ∀ p, readyR l r p (sumR r / k) = false) ∧ Below w.heap.size w w'
set_option maxHeartbeats 8000000 in
theorem audit_Check (w : World) (g K l : Nat) (k : Int) (r : List Nd) (F : Nat → Prop) (base gb : Nat) (m : List Nd) (h : DigAt w g K l k r F) (hb : BagAt w base gb l m) (hm : BagL l m) (hI : ints r) (hlen : r.length ≤ 65536) (hlm : m.length ≤ 65536) :
    Calls Tryz.prog 60 #[.pointer (some ⟨g, 0, none⟩), .pointer (some ⟨gb, 0, none⟩)] w (CheckPost l k r m w) := by
  have hk1 := h.1
  have hk2 := h.2.1
  have hl := h.l_le
  have hf := h.fits
  have hKl := dig_pool h
  have hr2 : ∀ x ∈ r, 1 ≤ x.2 := fun x hx => (hf.roll.2 x hx).2
  have hr1 : ∀ x ∈ r, 1 ≤ x.1 := fun x hx => (hf.roll.2 x hx).1
  have hRt := fits_right hf hl
  have HOf := Lib.hid (fun W h hb => audit_Off W g K l k r F base gb m h hb hm hlen hlm)
  have HSt := Lib.hid (fun W h hb => audit_Stands keysC W g K l k r F base gb m h hb hm hI hr2 hr1 hf.sum hlen)
  have HNo := Lib.hid (fun W h => digest_Nodes W g K l k r F h (by omega))
  have HLd := Lib.hid (fun W A cap hS => pool_Load W K l A cap r hKl hRt hS hI (by omega))
  have HLi := Lib.hid (fun W gp Fp h => press_Light W gp K l r Fp k h hk1 hk2 (by omega))
  have HTi := Lib.hid (fun W gp Fp h => press_Tight W gp K l r Fp h (by omega) k hk1 hk2)
  have HSl := Lib.hid (fun W h => rank_Slack W g K l k r F h)
  have HN := Lib.hid (fun W h => digest_N W g K l k r F h)
  have HT := Lib.hid (fun W h => bag_Total W base gb l m h)
  have HL := Lib.hid (fun W h => digest_Len W g K l k r F h)
  have HR := Lib.hid (fun W h => digest_Room W g K l k r F h)
  have HC := Lib.hid (fun W h => digest_Conf W g K l k r F h)
  unfold CheckPost verdV
  have HD := Lib.hid h
  have HB := Lib.hid hb
  generalize hn1 : sumR r = n1 at HSl HTi HSt HN ⊢
  generalize hn2 : sumR m = n2 at HSt HT ⊢
  generalize hli : lightOf l r k = li at HLi ⊢
  clear h hb hm hI hr2 hr1 hRt hf hKl hn1 hn2 hli
  generalize hsl : (l : Int) * (n1 / k) = sl at HSl ⊢
  clear hsl
  go_enter Tryz.func60, Tryz.ntmps60
  go_upto_region 1 with fail
  have S0 : Hid (ChkS w g K l k r F base gb m w.heap.size (w.alloc (.cells #[.bool false, .bool false, .bool false, .bool false, .bool false, .int .i64 0, .int .i64 0, .int .i64 0] 106))) := Lib.hid ⟨HD.out.alloc _, HB.out.below ((Below.refl _ _).alloc (Nat.le_refl _) _), heap_alloc_new w _, Nat.le_refl _, (by repeat (first | with_reducible exact Below.refl _ _ | with_reducible assumption | ((with_reducible refine Below.setCell ?_ ?_ _); rotate_left; · (first | omega | exact Nat.le_refl _ | (simp <;> omega))) | (with_reducible refine Below.allocW ?_ _) | (with_reducible refine Below.drew ?_) | (with_reducible refine Below.extW ?_ _)))⟩
  obtain ⟨q4, hq4⟩ : ∃ q, q = w.heap.size := ⟨_, rfl⟩
  rw [← hq4] at S0 ⊢
  generalize w.alloc (.cells #[.bool false, .bool false, .bool false, .bool false, .bool false, .int .i64 0, .int .i64 0, .int .i64 0] 106) = w0 at S0 ⊢
  clear hq4 HD HB
  go_wp2_with fail
  refine (HOf.out w0 S0.out.d S0.out.b).mono ?_
  rintro e w1 ⟨S, ⟨a1, a2⟩, rfl, hS, ha, hb1⟩
  have HSA := Lib.hid (And.intro hS ha)
  have S1 := Lib.hid (S0.out.below hb1)
  clear hb1 S0 HOf hS ha
  simp only
  go_upto_region 4 with fail
  go_wp2_with fail
  refine (HC.out w1 S1.out.d).mono ?_
  rintro e w2 ⟨rfl, hb2⟩
  have al := hb2.trans (((Below.refl w2.heap.size w2).alloc (Nat.le_refl _) (.cells #[.int .i64 l, .int .i64 k, .int .i64 K] 23)).mono hb2.size)
  have XC := Lib.hid (heap_alloc_new w2 (.cells #[.int .i64 l, .int .i64 k, .int .i64 K] 23))
  have S3 := Lib.hid (S1.out.below al)
  clear hb2 al S1 HC
  go_upto_region 5 with fail
  obtain ⟨pc, hpc⟩ : ∃ q, q = w2.heap.size := ⟨_, rfl⟩
  rw [← hpc] at XC ⊢
  generalize w2.alloc (.cells #[.int .i64 l, .int .i64 k, .int .i64 K] 23) = w3 at XC S3 ⊢
  clear hpc
  refine wp_region_noPanic ?_
  refine wp_region_N (fun w' => w'.heap[pc]? = some (.cells #[.int .i64 l, .int .i64 k, .int .i64 K] 23 (0, 0))) [] (by kernel_rfl) (XC.out) (fun hHeld => ?_)
  refine wpAnyN_pure (i := 0) (v := Value.pointer (some ⟨pc, 2, none⟩)) rfl (by kernel_rfl) (by kernel_rfl) (by kernel_rfl) (fun _ _ _ h => h) (Or.inl ⟨by rfl, fun W _ => by go_simp⟩) ?_
  try simp only [List.getElem_toArray, List.getElem_cons_zero, List.getElem_cons_succ, Act.put, List.setIfInBounds_toArray, List.set_cons_zero, List.set_cons_succ]
  refine wpAnyN_take (i := 1) (v := Value.int .i64 K) rfl (by kernel_rfl) (by kernel_rfl) (by kernel_rfl) (by kernel_rfl) (fun _ _ _ h => h) (Or.inl ⟨by rfl, fun W hW => by have q1 := blk_cell hW; have q2 := lt_of_block hW; go_simp⟩) XC.out ?_
  try simp only [List.getElem_toArray, List.getElem_cons_zero, List.getElem_cons_succ, Act.put, List.setIfInBounds_toArray, List.set_cons_zero, List.set_cons_succ]
  refine wpAnyN_pure (i := 2) (v := Value.pointer (some ⟨pc, 0, none⟩)) rfl (by kernel_rfl) (by kernel_rfl) (by kernel_rfl) (fun _ _ _ h => h) (Or.inl ⟨by rfl, fun W _ => by go_simp⟩) ?_
  try simp only [List.getElem_toArray, List.getElem_cons_zero, List.getElem_cons_succ, Act.put, List.setIfInBounds_toArray, List.set_cons_zero, List.set_cons_succ]
  refine wpAnyN_take (i := 3) (v := Value.int .i64 l) rfl (by kernel_rfl) (by kernel_rfl) (by kernel_rfl) (by kernel_rfl) (fun _ _ _ h => h) (Or.inl ⟨by rfl, fun W hW => by have q1 := blk_cell hW; have q2 := lt_of_block hW; go_simp⟩) XC.out ?_
  try simp only [List.getElem_toArray, List.getElem_cons_zero, List.getElem_cons_succ, Act.put, List.setIfInBounds_toArray, List.set_cons_zero, List.set_cons_succ]
  refine wpAnyN_pure (i := 4) (v := Value.pointer (some ⟨g, 0, none⟩)) rfl (by kernel_rfl) (by kernel_rfl) (by kernel_rfl) (fun _ _ _ h => h) (Or.inl ⟨by rfl, fun W _ => by go_simp⟩) ?_
  try simp only [List.getElem_toArray, List.getElem_cons_zero, List.getElem_cons_succ, Act.put, List.setIfInBounds_toArray, List.set_cons_zero, List.set_cons_succ]
  refine wpAnyN_one (i := 5) (by kernel_rfl) rfl (fun K hK => ?_)
  go_simp
  refine (HNo.out w3.drew S3.out.drew.d).mono ?_
  rintro e w4 ⟨vN, rfl, hoN, hb4⟩
  obtain ⟨AN, cN, rfl, _⟩ := hoN.form
  have ON := Lib.hid hoN
  have S4 := Lib.hid (S3.out.drew.below hb4)
  have XC4 := Lib.hid (blk_below (w := w3.drew) XC.out hb4)
  clear hb4 hoN
  refine hK.out _ _ (fun _ _ => XC4.out) ?_
  clear hK K
  try simp only [List.getElem_toArray, List.getElem_cons_zero, List.getElem_cons_succ, Act.put, List.setIfInBounds_toArray, List.set_cons_zero, List.set_cons_succ]
  refine wpAnyN_one (i := 6) (by kernel_rfl) rfl (fun K hK => ?_)
  go_simp
  refine (HLd.out w4 AN cN ON.out.sl).mono ?_
  rintro e w5 ⟨gp, Fp, rfl, hP, _, hb5⟩
  have P5 := Lib.hid hP
  have S5 := Lib.hid (S4.out.below hb5)
  have XC5 := Lib.hid (blk_below XC4.out hb5)
  clear hb5 hP
  refine hK.out _ _ (fun _ _ => XC5.out) ?_
  clear hK K
  try simp only [List.getElem_toArray, List.getElem_cons_zero, List.getElem_cons_succ, Act.put, List.setIfInBounds_toArray, List.set_cons_zero, List.set_cons_succ]
  refine wpAnyN_pure (i := 7) (v := Value.tuple #[.pointer (some ⟨gp, 0, none⟩), .int .i64 0]) rfl (by kernel_rfl) (by kernel_rfl) (by kernel_rfl) (fun _ _ _ h => h) (Or.inl ⟨by rfl, fun W _ => by go_simp⟩) ?_
  try simp only [List.getElem_toArray, List.getElem_cons_zero, List.getElem_cons_succ, Act.put, List.setIfInBounds_toArray, List.set_cons_zero, List.set_cons_succ]
  refine wpAnyN_pure (i := 8) (v := Value.pointer (some ⟨gp, 0, none⟩)) rfl (by kernel_rfl) (by kernel_rfl) (by kernel_rfl) (fun _ _ _ h => h) (Or.inl ⟨by rfl, fun W _ => by go_simp⟩) ?_
  try simp only [List.getElem_toArray, List.getElem_cons_zero, List.getElem_cons_succ, Act.put, List.setIfInBounds_toArray, List.set_cons_zero, List.set_cons_succ]
  refine wpAnyN_pure (i := 9) (v := Value.int .i64 0) rfl (by kernel_rfl) (by kernel_rfl) (by kernel_rfl) (fun _ _ _ h => h) (Or.inl ⟨by rfl, fun W _ => by go_simp⟩) ?_
  try simp only [List.getElem_toArray, List.getElem_cons_zero, List.getElem_cons_succ, Act.put, List.setIfInBounds_toArray, List.set_cons_zero, List.set_cons_succ]
  refine wpAnyN_pure (i := 10) (v := Value.pointer (some ⟨gp, 0, none⟩)) rfl (by kernel_rfl) (by kernel_rfl) (by kernel_rfl) (fun _ _ _ h => h) (Or.inl ⟨by rfl, fun W _ => by go_simp⟩) ?_
  try simp only [List.getElem_toArray, List.getElem_cons_zero, List.getElem_cons_succ, Act.put, List.setIfInBounds_toArray, List.set_cons_zero, List.set_cons_succ]
  refine wpAnyN_one (i := 11) (by kernel_rfl) rfl (fun K hK => ?_)
  go_simp
  refine hK.out _ _ (fun _ _ => XC5.out) ?_
  clear hK K
  try simp only [List.getElem_toArray, List.getElem_cons_zero, List.getElem_cons_succ, Act.put, List.setIfInBounds_toArray, List.set_cons_zero, List.set_cons_succ]
  refine wpAnyN_done (by kernel_rfl) ?_ _
  refine NoPanic.normal ?_
  clear XC XC4 S3 S4 ON HNo HLd
  go_upto_region 8 with fail
  go_wp2_with fail
  refine (HSl.out w5 S5.out.d).mono ?_
  rintro e w6 ⟨rfl, hb6⟩
  have V8 : Hid (VerS w6 w6.heap.size #[.bool false, .bool false, .bool false, .bool false, .bool false, .int .i64 a1, .int .i64 a2, .int .i64 sl] (w6.alloc (.cells #[.bool false, .bool false, .bool false, .bool false, .bool false, .int .i64 a1, .int .i64 a2, .int .i64 sl] 106))) := Lib.hid ⟨heap_alloc_new w6 _, Nat.le_refl _, (Below.refl w6.heap.size w6).alloc (Nat.le_refl _) _⟩
  have S6 := Lib.hid (S5.out.below hb6)
  have P6 := Lib.hid (P5.out.below hb6)
  have XC6 := Lib.hid (blk_below XC5.out hb6)
  clear hb6 S5 P5 XC5 HSl
  go_upto_region 9 with fail
  obtain ⟨pv, hpv⟩ : ∃ q, q = w6.heap.size := ⟨_, rfl⟩
  have V8' : Hid (VerS w6 pv #[.bool false, .bool false, .bool false, .bool false, .bool false, .int .i64 a1, .int .i64 a2, .int .i64 sl] (w6.alloc (.cells #[.bool false, .bool false, .bool false, .bool false, .bool false, .int .i64 a1, .int .i64 a2, .int .i64 sl] 106))) := by rw [hpv]; exact V8
  clear V8
  rw [← hpv]
  generalize w6.alloc (.cells #[.bool false, .bool false, .bool false, .bool false, .bool false, .int .i64 a1, .int .i64 a2, .int .i64 sl] 106) = u0 at V8' ⊢
  have V0 := V8'
  clear hpv V8'
  go_upto_region 9 with fail
  go_wp2_with fail
  refine (HN.out u0 (S6.out.below V0.out.blw).d).mono ?_
  rintro e u1 ⟨rfl, hbu⟩
  have V1 := Lib.hid (V0.out.below hbu)
  clear hbu V0
  go_wp2_with fail
  refine (HT.out u1 (S6.out.below V1.out.blw).b).mono ?_
  rintro e u2 ⟨rfl, hbu⟩
  have V2 := Lib.hid (V1.out.below hbu)
  clear hbu V1
  have y2 := blk_cell V2.out.v
  have yz2 := lt_of_block V2.out.v
  have yf2 := blk_frozen V2.out.v
  have V3 := Lib.hid (V2.out.set 0 (.bool (n1 == n2)))
  simp only [List.setIfInBounds_toArray, List.set_cons_zero, List.set_cons_succ] at V3
  go_upto_region 10 with fail
  generalize u2.setCell ⟨pv, 0, none⟩ (.bool (n1 == n2)) = u3 at V3 ⊢
  clear y2 yz2 yf2 V2
  go_upto_region 10 with fail
  have c3 := blk_cell (blk_below XC6.out V3.out.blw)
  have cz3 := lt_of_block (blk_below XC6.out V3.out.blw)
  go_wp2_with fail
  refine (HLi.out u3 gp Fp (P6.out.below V3.out.blw)).mono ?_
  rintro e u4 ⟨rfl, hbu⟩
  have V4 := Lib.hid (V3.out.below hbu)
  clear hbu V3 c3 cz3
  have y4 := blk_cell V4.out.v
  have yz4 := lt_of_block V4.out.v
  have yf4 := blk_frozen V4.out.v
  have V5 := Lib.hid (V4.out.set 1 (.bool li))
  simp only [List.setIfInBounds_toArray, List.set_cons_zero, List.set_cons_succ] at V5
  go_upto_region 11 with fail
  generalize u4.setCell ⟨pv, 1, none⟩ (.bool li) = u5 at V5 ⊢
  clear y4 yz4 yf4 V4
  go_upto_region 11 with fail
  have c5 := blk_cell (blk_below XC6.out V5.out.blw)
  have cz5 := lt_of_block (blk_below XC6.out V5.out.blw)
  go_wp2_with fail
  refine (HTi.out u5 gp Fp (P6.out.below V5.out.blw)).mono ?_
  rintro e u6 ⟨ti, rfl, hti, hbu⟩
  have HTI := Lib.hid hti
  clear hti
  have V6 := Lib.hid (V5.out.below hbu)
  clear hbu V5 c5 cz5
  have y6 := blk_cell V6.out.v
  have yz6 := lt_of_block V6.out.v
  have yf6 := blk_frozen V6.out.v
  have V7 := Lib.hid (V6.out.set 3 (.bool ti))
  simp only [List.setIfInBounds_toArray, List.set_cons_zero, List.set_cons_succ] at V7
  go_upto_region 12 with fail
  generalize u6.setCell ⟨pv, 3, none⟩ (.bool ti) = u7 at V7 ⊢
  clear y6 yz6 yf6 V6
  go_upto_region 12 with fail
  go_wp2_with fail
  refine (HL.out u7 (S6.out.below V7.out.blw).d).mono ?_
  rintro e u8 ⟨rfl, hbu⟩
  have V8 := Lib.hid (V7.out.below hbu)
  clear hbu V7
  go_wp2_with fail
  refine (HR.out u8 (S6.out.below V8.out.blw).d).mono ?_
  rintro e u9 ⟨rfl, hbu⟩
  have V9 := Lib.hid (V8.out.below hbu)
  clear hbu V8
  have y9 := blk_cell V9.out.v
  have yz9 := lt_of_block V9.out.v
  have yf9 := blk_frozen V9.out.v
  have V10 := Lib.hid (V9.out.set 2 (.bool (decide ((r.length : Int) ≤ 8 * k))))
  simp only [List.setIfInBounds_toArray, List.set_cons_zero, List.set_cons_succ] at V10
  go_upto_region 13 with fail
  generalize u9.setCell ⟨pv, 2, none⟩ (.bool (decide ((r.length : Int) ≤ 8 * k))) = u10 at V10 ⊢
  clear y9 yz9 yf9 V9
  go_upto_region 13 with fail
  go_wp2_with fail
  refine (HSt.out u10 (S6.out.below V10.out.blw).d (S6.out.below V10.out.blw).b).mono ?_
  rintro e u11 ⟨⟨c1, c2⟩, rfl, hSn, hbu⟩
  have HSn := Lib.hid hSn
  clear hSn
  simp only
  have V11 := Lib.hid (V10.out.below hbu)
  clear hbu V10
  have y11 := blk_cell V11.out.v
  have yz11 := lt_of_block V11.out.v
  have yf11 := blk_frozen V11.out.v
  have V12 := Lib.hid (V11.out.set 4 (.bool (decide (n1 = n2) && decide (c1 = 0))))
  simp only [List.setIfInBounds_toArray, List.set_cons_zero, List.set_cons_succ] at V12
  go_upto_region 14 with fail
  generalize u11.setCell ⟨pv, 4, none⟩ (.bool (decide (n1 = n2) && decide (c1 = 0))) = u12 at V12 ⊢
  clear y11 yz11 yf11 V11
  have y12 := blk_cell V12.out.v
  have yz12 := lt_of_block V12.out.v
  have x12 := blk_cell (blk_below S6.out.x V12.out.blw)
  have xz12 := lt_of_block (blk_below S6.out.x V12.out.blw)
  have xf12 := blk_frozen (blk_below S6.out.x V12.out.blw)
  go_wp2_with fail
  have BB : Below w.heap.size w u12 := S6.out.blw.trans (V12.out.blw.mono S6.out.blw.size)
  have le4 := S6.out.le
  refine bodyPost_ret (v := .tuple #[.agg #[.bool (n1 == n2), .bool li, .bool (decide ((r.length : Int) ≤ 8 * k)), .bool ti, .bool (decide (n1 = n2) && decide (c1 = 0)), .int .i64 a1, .int .i64 a2, .int .i64 sl], .int .i64 0]) (by simp only [results, Tryz.results60]; go_simp) rfl ⟨S, (a1, a2), (c1, c2), ti, rfl, HSA.out.1, HSA.out.2, HSn.out, HTI.out, ?_⟩
  exact (((((((BB.setCell le4 _).setCell le4 _).setCell le4 _).setCell le4 _).setCell le4 _).setCell le4 _).setCell le4 _).setCell le4 _
end Go.Proofs.YtcjnchjmpkapmaaGreat
/- A digest that stands for a bag: its ranks hold. Plain law. -/
namespace Go.Proofs.YtcjnchjmpkapmaaGreat
open Go.ChangeShapes Go.WideShapes Go.ChangeAt Go.RowKit
set_option linter.unusedVariables false

end Go.Proofs.YtcjnchjmpkapmaaGreat
/- A digest that holds what was accepted stands for it; what Check tells of it. -/
namespace Go.Proofs.YtcjnchjmpkapmaaGreat
open Go.ChangeShapes Go.WideShapes Go.ChangeAt Go.RowKit
set_option linter.unusedVariables false
set_option linter.unusedSimpArgs false
set_option maxRecDepth 100000

theorem held_own {l : Nat} {k : Int} {r m : List Nd} (h : Held l k r m) (hl : 1 ≤ l ∧ l ≤ 48) (hk : 1 ≤ k) {id : Int} (hn : isNode l id = true) : mrN l r m id ≤ 0 := by
  have e : ownN r id = betwLow l r (loN l id) (hiN l id) := by
    unfold ownN betwLow
    rw [weighR_ids]
    refine wIds_congr fun x hx => ?_
    have hx2 := h.fits.nodes hl x hx
    have hi := abv_iff hn hx2
    rw [Bool.eq_iff_iff, hi]
    simp only [inLow, loN, hiN, Bool.and_eq_true, decide_eq_true_eq]
    exact ⟨fun h => ⟨decide_eq_true h.1, decide_eq_true h.2⟩, fun h => ⟨of_decide_eq_true h.1, of_decide_eq_true h.2⟩⟩
  have hb := h.betw hl hk (lo_hi hn)
  unfold mrN
  rw [e]
  unfold loN hiN at hb ⊢
  omega
theorem held_stands {l : Nat} {k : Int} {r m : List Nd} (h : Held l k r m) (hl : 1 ≤ l ∧ l ≤ 48) (hk : 1 ≤ k) {c : Int × Int} (hS : Seen (mrN l r m) (upOf r) c) : c.1 = 0 := by
  obtain ⟨L, hL, hc, hp⟩ := hS
  rcases hc with ⟨rfl, _⟩ | ⟨hm, _, hpos, _⟩
  · rfl
  · obtain ⟨x, hx, hab⟩ := (hL _).1 hm
    have h1 := (abv_pos hab).1
    have h2 := abv_le hab
    have h3 := h.fits.lt x hx
    have hn : isNode l c.1 = true := by
      simp only [isNode, decide_eq_true_eq, Int.toNat_natCast]
      omega
    have := held_own h hl hk hn
    omega
theorem off_le {f : Int → Int} {B : Int} (h0 : 0 ≤ B) (hf : ∀ x, f x ≤ B) (L : List Int) : (offFold f L).2 ≤ B := by
  unfold offFold
  suffices h : ∀ (L : List Int) (a : Int × Int), a.2 ≤ B → (L.foldl (offStep f) a).2 ≤ B from h L (0, 0) h0
  intro L
  induction L with
  | nil => intro a h; exact h
  | cons x L ih =>
    intro a h
    simp only [List.foldl_cons]
    refine ih _ ?_
    unfold offStep
    split
    · exact hf x
    · exact h
theorem held_far {l : Nat} {k : Int} {r m : List Nd} (h : Held l k r m) (hl : 1 ≤ l ∧ l ≤ 48) (hk : 1 ≤ k) (x : Int) : farN l r m x ≤ l * (sumR r / k) := by
  have := h.rank hl hk x
  rw [h.sum]
  unfold farN
  omega
theorem bag_ints {l : Nat} {m : List Nd} (h : BagL l m) (hl : 1 ≤ l ∧ l ≤ 48) : ints m := by
  have key : ∀ {m : List Nd}, (∀ x ∈ m, 0 ≤ x.1 ∧ x.1 < 2 ^ l ∧ 1 ≤ x.2) → ∀ x ∈ m, x.2 ≤ sumR m := by
    intro m
    induction m with
    | nil => intro _ x hx; simp at hx
    | cons z m ih =>
      intro h x hx
      have h1 := (h z (by simp)).2.2
      have h2 := (sumR_pos fun y hy => (h y (List.mem_cons_of_mem _ hy)).2.2).1
      simp only [sumR]
      rcases List.mem_cons.1 hx with rfl | hx
      · omega
      · have := ih (fun y hy => h y (by simp [hy])) x hx; omega
  intro x hx
  have h48 := pow_48 hl.2
  have hv := h.val x hx
  have hs := key h.val x hx
  have := h.sum
  unfold i64
  omega
theorem fits_ints {l : Nat} {r : List Nd} (h : Fits l r) (hl : 1 ≤ l ∧ l ≤ 48) : ints r := by
  have key : ∀ {m : List Nd}, (∀ x ∈ m, 1 ≤ x.1 ∧ 1 ≤ x.2) → ∀ x ∈ m, x.2 ≤ sumR m := by
    intro m
    induction m with
    | nil => intro _ x hx; simp at hx
    | cons z m ih =>
      intro h x hx
      have h1 := (h z (by simp)).2
      have h2 := (sumR_pos fun y hy => (h y (List.mem_cons_of_mem _ hy)).2).1
      simp only [sumR]
      rcases List.mem_cons.1 hx with rfl | hx
      · omega
      · have := ih (fun y hy => h y (by simp [hy])) x hx; omega
  intro x hx
  have h48 := pow_48 hl.2
  have hv := h.roll.2 x hx
  have h2 := h.lt x hx
  have hs := key h.roll.2 x hx
  have := h.sum
  unfold i64
  omega
theorem check_good (w : World) (g K l : Nat) (k : Int) (r : List Nd) (F : Nat → Prop) (base gb : Nat) (m : List Nd) (h : DigAt w g K l k r F) (hb : BagAt w base gb l m) (hH : Held l k r m) (hlen : r.length ≤ 65536) (hlm : m.length ≤ 65536) (h8 : (r.length : Int) ≤ 8 * k) :
    Calls Tryz.prog 60 #[.pointer (some ⟨g, 0, none⟩), .pointer (some ⟨gb, 0, none⟩)] w fun e w' => ∃ (t : Bool) (z1 z2 : Int), e = .returned (.tuple #[.agg #[.bool true, .bool true, .bool true, .bool t, .bool true, .int .i64 z1, .int .i64 z2, .int .i64 ((l : Int) * (sumR r / k))], .int .i64 0]) ∧ z2 ≤ (l : Int) * (sumR r / k) ∧ Below w.heap.size w w' := by
  have hl := h.l_le
  refine (audit_Check w g K l k r F base gb m h hb hH.bag (fits_ints hH.fits hl) hlen hlm).mono ?_
  rintro e w' ⟨S, a, c, t, rfl, hS, ha, hSn, ht, hB⟩
  have hc := held_stands hH hl h.1 hSn
  have hs := hH.sum
  have h0 : (0 : Int) ≤ l * (sumR r / k) := Int.mul_nonneg (by omega) (Int.ediv_nonneg (sumR_nonneg hH.fits.roll) (by have := h.1; omega))
  refine ⟨t, a.1, a.2, ?_, ?_, hB⟩
  · unfold verdV
    rw [hH.light, hs, hc, decide_eq_true h8]
    simp
  · rw [ha]
    exact off_le h0 (fun x => held_far hH hl h.1 x) _
theorem check_bad (w : World) (g K l : Nat) (k : Int) (r : List Nd) (F : Nat → Prop) (base gb : Nat) (m : List Nd) (h : DigAt w g K l k r F) (hb : BagAt w base gb l m) (hm : BagL l m) (hne : sumR r ≠ sumR m) (hlen : r.length ≤ 65536) (hlm : m.length ≤ 65536) :
    Calls Tryz.prog 60 #[.pointer (some ⟨g, 0, none⟩), .pointer (some ⟨gb, 0, none⟩)] w fun e w' => ∃ (b1 b2 b3 : Bool) (z1 z2 z3 : Int), e = .returned (.tuple #[.agg #[.bool false, .bool b1, .bool b2, .bool b3, .bool false, .int .i64 z1, .int .i64 z2, .int .i64 z3], .int .i64 0]) ∧ Below w.heap.size w w' := by
  have hl := h.l_le
  refine (audit_Check w g K l k r F base gb m h hb hm (fits_ints h.fits hl) hlen hlm).mono ?_
  rintro e w' ⟨S, a, c, t, rfl, hS, ha, hSn, ht, hB⟩
  refine ⟨lightOf l r k, decide ((r.length : Int) ≤ 8 * k), t, a.1, a.2, (l : Int) * (sumR r / k), ?_, hB⟩
  unfold verdV
  have e1 : (sumR r == sumR m) = false := by simpa using hne
  have e2 : decide (sumR r = sumR m) = false := by simpa using hne
  rw [e1, e2]
  rfl
theorem stands_bad (w : World) (g K l : Nat) (k : Int) (r : List Nd) (F : Nat → Prop) (base gb : Nat) (m : List Nd) (h : DigAt w g K l k r F) (hb : BagAt w base gb l m) (hm : BagL l m) (hne : sumR r ≠ sumR m) (hlen : r.length ≤ 65536) :
    Calls Tryz.prog 70 #[.pointer (some ⟨g, 0, none⟩), .pointer (some ⟨gb, 0, none⟩)] w fun e w' => e = .returned (.tuple #[.bool false, .int .i64 0]) ∧ Below w.heap.size w w' := by
  have hl := h.l_le
  have hf := h.fits
  refine (audit_Stands keysC w g K l k r F base gb m h hb hm (fits_ints hf hl) (fun x hx => (hf.roll.2 x hx).2) (fun x hx => (hf.roll.2 x hx).1) hf.sum hlen).mono ?_
  rintro e w' ⟨a, rfl, _, hB⟩
  have e2 : decide (sumR r = sumR m) = false := by simpa using hne
  rw [e2]
  exact ⟨rfl, hB⟩
end Go.Proofs.YtcjnchjmpkapmaaGreat
/- Chapter 34: its example. -/
namespace Go.Proofs.YtcjnchjmpkapmaaGreat
open Go.ChangeShapes Go.WideShapes Go.ChangeAt Go.RowKit
set_option linter.unusedVariables false
set_option linter.unusedSimpArgs false
set_option maxRecDepth 100000

def nodes34 : List Nd := [(1, 1), (4, 2)]
def readA : List Nd := [(0, 2), (3, 1)]
def readB : List Nd := [(0, 1), (3, 2)]
theorem ints_of {r : List Nd} (h : ∀ x ∈ r, (-9223372036854775808 ≤ x.1 ∧ x.1 ≤ 9223372036854775807) ∧ (-9223372036854775808 ≤ x.2 ∧ x.2 ≤ 9223372036854775807)) : ints r := h
theorem nodes34_ints : ints nodes34 := ints_of (by decide)
theorem readA_ints : ints readA := ints_of (by decide)
theorem readB_ints : ints readB := ints_of (by decide)
theorem load34 : loadErr 2 3 2 nodes34 = 0 := by decide +kernel
theorem madeA : madeB 2 readA = readA := by decide +kernel
theorem madeB' : madeB 2 readB = readB := by decide +kernel
theorem anc34 (z : Int) : z ∈ allAnc nodes34 ↔ upOf nodes34 z := allAnc_mem (by decide) z
theorem pos34 : ∀ z ∈ allAnc nodes34, 1 ≤ z := by decide +kernel
theorem seenA : Seen (mrN 2 nodes34 readA) (upOf nodes34) (0, 0) := ⟨allAnc nodes34, anc34, culIs_none (by decide +kernel), pos34⟩
theorem seenB : Seen (mrN 2 nodes34 readB) (upOf nodes34) (2, 1) := ⟨allAnc nodes34, anc34, .inr ⟨by decide +kernel, by decide +kernel, by decide +kernel, by decide +kernel⟩, pos34⟩
set_option maxHeartbeats 4000000 in
theorem alive34 (w : World) : Calls Tryz.prog 59 #[] w fun e w' => e = .returned (.bool true) ∧ Below w.heap.size w w' := by
  have HS := Lib.hid (sl_lit w encN nodes34 153 _ rfl)
  have HC := Lib.hid (digest_Load · 2 2 3 (some ⟨w.heap.size, 0, none⟩) 2 nodes34 load34 · nodes34_ints (by decide))
  go_enter Tryz.func59, Tryz.ntmps59
  go_wp2_with fail
  refine (HC.out _ (HS.out.keep (by simp) fun p hp => rfl)).mono ?_
  rintro e w1 ⟨g, F, rfl, hD, _, hb1⟩
  have B1 : Below w.heap.size w w1 := Below.then_ (by repeat (first | with_reducible exact Below.refl _ _ | with_reducible assumption | ((with_reducible refine Below.setCell ?_ ?_ _); rotate_left; · (first | omega | exact Nat.le_refl _ | (simp <;> omega))) | (with_reducible refine Below.allocW ?_ _) | (with_reducible refine Below.drew ?_) | (with_reducible refine Below.extW ?_ _))) hb1
  have s1 : w.heap.size ≤ w1.heap.size := B1.size
  have KD := Lib.hid hD
  have HA := Lib.hid (law10_Made · 2 (some ⟨w1.heap.size, 0, none⟩) 2 readA (by decide) · readA_ints (by decide))
  rw [madeA] at HA
  unfold bagV at HA
  have SA := Lib.hid (sl_lit w1 encN readA 96 _ rfl)
  clear hD
  go_wp2_with fail
  refine (HA.out _ (SA.out.keep (by simp) fun p hp => rfl)).mono ?_
  rintro e w2 ⟨ga, A2, c2, rfl, hBa, _, hb2⟩
  have al := fun (W : World) (o : Obj) => (Below.refl W.heap.size W).alloc (Nat.le_refl _) o
  have X3 := Lib.hid (And.intro (((KD.out.below (al _ _)).below hb2).below (al _ (.cells #[.int .i64 2, .slice A2 readA.length c2] 31))) (And.intro (hBa.below (al _ (.cells #[.int .i64 2, .slice A2 readA.length c2] 31))) (Below.then_ (Below.then_ (Below.then_ B1 (al _ _)) hb2) (al _ (.cells #[.int .i64 2, .slice A2 readA.length c2] 31)))))
  clear hBa hb2 KD
  go_upto_region 3 with fail
  generalize w2.alloc (.cells #[.int .i64 2, .slice A2 readA.length c2] 31) = w3 at X3 ⊢
  have HB := Lib.hid (law10_Made · 2 (some ⟨w3.heap.size, 0, none⟩) 2 readB (by decide) · readB_ints (by decide))
  rw [madeB'] at HB
  unfold bagV at HB
  have SB := Lib.hid (sl_lit w3 encN readB 96 _ rfl)
  go_wp2_with fail
  refine (HB.out _ (SB.out.keep (by simp) fun p hp => rfl)).mono ?_
  rintro e w4 ⟨gb, A4, c4, rfl, hBb, _, hb4⟩
  have X5 := Lib.hid (And.intro (((X3.out.1.below (al _ _)).below hb4).below (al _ (.cells #[.int .i64 2, .slice A4 readB.length c4] 31))) (And.intro (((X3.out.2.1.below (al _ _)).below hb4).below (al _ (.cells #[.int .i64 2, .slice A4 readB.length c4] 31))) (And.intro (hBb.below (al _ (.cells #[.int .i64 2, .slice A4 readB.length c4] 31))) (Below.then_ (Below.then_ (Below.then_ X3.out.2.2 (al _ _)) hb4) (al _ (.cells #[.int .i64 2, .slice A4 readB.length c4] 31))))))
  clear hBb hb4 X3
  go_upto_region 4 with fail
  generalize w4.alloc (.cells #[.int .i64 2, .slice A4 readB.length c4] 31) = w5 at X5 ⊢
  have bA : BagL 2 readA := madeA ▸ madeB_bag 2 readA
  have bB : BagL 2 readB := madeB' ▸ madeB_bag 2 readB
  go_wp2_with fail
  refine (audit_Stands keysC _ g 2 2 3 nodes34 F _ ga readA X5.out.1 X5.out.2.1 bA nodes34_ints (by decide) (by decide) (by decide) (by decide)).mono ?_
  rintro e w6 ⟨a, rfl, hSa, hb6⟩
  obtain rfl := hSa.unique seenA fun z => Iff.rfl
  rw [show (decide (sumR nodes34 = sumR readA) && decide (((0 : Int), (0 : Int)).1 = 0)) = true by decide]
  have X6 := Lib.hid (And.intro (X5.out.1.below hb6) (And.intro (X5.out.2.2.1.below hb6) (Below.then_ X5.out.2.2.2 hb6)))
  clear hSa hb6
  go_wp2_with fail
  refine (audit_Culprit keysC _ g 2 2 3 nodes34 F _ gb readB X6.out.1 X6.out.2.1 bB nodes34_ints (by decide) (by decide) (by decide) (by decide)).mono ?_
  rintro e w7 ⟨a, rfl, hSa, hb7⟩
  obtain rfl := hSa.unique seenB fun z => Iff.rfl
  have B7 := Lib.hid (Below.then_ X6.out.2.2 hb7)
  clear hSa hb7
  go_wp2_with fail
  go_ret
  exact ⟨rfl, B7.out⟩
end Go.Proofs.YtcjnchjmpkapmaaGreat
/- A reading that comes in. -/
namespace Go.Proofs.YtcjnchjmpkapmaaGreat
open Go.ChangeShapes Go.WideShapes Go.ChangeAt Go.RowKit
set_option linter.unusedVariables false
set_option maxRecDepth 100000

theorem open_ReadingG {H : Type} {enc : TypeId × Value → H} {w : World} {base : Nat} {spare : Nat → Bool} {held : Bool} {r : Reach} {b0 : Nat} {v : Value} {d : DataW H} {p : List MemPlace}
    (hv : Value.okWide Tryz.prog w r b0 96 v) (h : DataW.Trod enc Tryz.prog w base spare held 96 v d p) :
    ∃ x u, v = .agg #[.int .i64 x, .int .i64 u] ∧ (Lit.int .i64 x).wf = true ∧ (Lit.int .i64 u).wf = true := by
  obtain ⟨c0, c1, y0, y1, n, rfl, _, _, hy0, hy1⟩ := Joins.open_agg2 Tryz.underlying96 (by kernel_rfl) (by kernel_rfl) hv h
  obtain ⟨a, e0, _, wa⟩ := DataW.trod_int Tryz.underlying3 hy0
  obtain ⟨b, e1, _, wb⟩ := DataW.trod_int Tryz.underlying3 hy1
  simp at e0 e1
  subst e0 e1
  exact ⟨a, b, rfl, wa, wb⟩
end Go.Proofs.YtcjnchjmpkapmaaGreat
/- Chapter 34: a digest that was made of what was accepted is good: the law. -/
namespace Go.Proofs.YtcjnchjmpkapmaaGreat
open Go.ChangeShapes Go.WideShapes Go.ChangeAt Go.RowKit
set_option linter.unusedVariables false
set_option linter.unusedSimpArgs false
set_option maxRecDepth 100000

structure GoodW (w : World) (g K l : Nat) (k : Int) (r m : List Nd) (F : Nat → Prop) (ops : List Op3) (A : Option Addr) (cap : Nat) (py : Nat) (y1 y2 : Int) (A1 : Option Addr) (W : World) : Prop where
  d : DigAt W g K l k r F
  x : W.heap[w.heap.size]? = some (.cells #[.int .i64 l, .int .i64 k, .int .i64 K, .slice A ops.length cap] 26 (0, 0))
  y : W.heap[py]? = some (.cells #[.int .i64 y1, .int .i64 y2] 96 (0, 0))
  s : Sl W W.heap.size encN A1 m
  blw : Below w.heap.size w W
structure GoodB (w w2 : World) (gb l : Nat) (m : List Nd) (W : World) : Prop where
  b : BagAt W w2.heap.size gb l m
  old : Below w2.heap.size w2 W
section
variable {w w2 : World} {g K l gb : Nat} {k : Int} {r m : List Nd} {F : Nat → Prop} {ops : List Op3} {A : Option Addr} {cap py : Nat} {y1 y2 : Int} {A1 : Option Addr} {W W' : World}
theorem GoodW.below (h : GoodW w g K l k r m F ops A cap py y1 y2 A1 W) (hb : Below W.heap.size W W') : GoodW w g K l k r m F ops A cap py y1 y2 A1 W' :=
  ⟨h.d.below hb, blk_below h.x hb, blk_below h.y hb, h.s.keep hb.size fun p hp => hb.cell hp, h.blw.trans (hb.mono h.blw.size)⟩
theorem GoodB.below (h : GoodB w w2 gb l m W) (hb : Below W.heap.size W W') : GoodB w w2 gb l m W' :=
  ⟨h.b.below hb, h.old.trans (hb.mono h.old.size)⟩
end
set_option maxHeartbeats 4000000 in
theorem law_AuditGood_big (l k K : Int) (ops : List Op3) (A : Option Addr) (cap : Nat) (y1 y2 : Int) (w : World) (h : ¬ (ops.length ≤ 100 ∧ ¬ (K = 1 ∧ 10 < l))) (hm : ops.length ≤ maxLen) :
    Calls Tryz.prog 10 #[callsV l k K A ops.length cap, .agg #[.int .i64 y1, .int .i64 y2]] w fun e w' => e = .returned (.bool true) ∧ Below w.heap.size w w' := by
  unfold maxLen at hm
  unfold callsV
  by_cases h1 : 100 < ops.length
  · have h1p : (100 : Int) < (ops.length : Int) := by omega
    clear h
    go_enter Tryz.func10, Tryz.ntmps10
    go_wp2_with fail
    refine (alive34 _).mono ?_
    rintro e w1 ⟨rfl, hb1⟩
    have B1 : Below w.heap.size w w1 := Below.then_ (by repeat (first | with_reducible exact Below.refl _ _ | with_reducible assumption | ((with_reducible refine Below.setCell ?_ ?_ _); rotate_left; · (first | omega | exact Nat.le_refl _ | (simp <;> omega))) | (with_reducible refine Below.allocW ?_ _) | (with_reducible refine Below.drew ?_) | (with_reducible refine Below.extW ?_ _))) hb1
    have s1 : w.heap.size ≤ w1.heap.size := B1.size
    go_wp2_with fail
    go_ret
    exact ⟨rfl, (by repeat (first | with_reducible exact Below.refl _ _ | with_reducible assumption | ((with_reducible refine Below.setCell ?_ ?_ _); rotate_left; · (first | omega | exact Nat.le_refl _ | (simp <;> omega))) | (with_reducible refine Below.allocW ?_ _) | (with_reducible refine Below.drew ?_) | (with_reducible refine Below.extW ?_ _)))⟩
  · have h1n : decide ((100 : Int) < (ops.length : Int)) = false := by simp; omega
    have hK : K = 1 ∧ 10 < l := Classical.byContradiction fun hc => h ⟨by omega, hc⟩
    obtain ⟨rfl, hL⟩ := hK
    clear h h1
    go_enter Tryz.func10, Tryz.ntmps10
    go_wp2_with fail
    refine (alive34 _).mono ?_
    rintro e w1 ⟨rfl, hb1⟩
    have B1 : Below w.heap.size w w1 := Below.then_ (by repeat (first | with_reducible exact Below.refl _ _ | with_reducible assumption | ((with_reducible refine Below.setCell ?_ ?_ _); rotate_left; · (first | omega | exact Nat.le_refl _ | (simp <;> omega))) | (with_reducible refine Below.allocW ?_ _) | (with_reducible refine Below.drew ?_) | (with_reducible refine Below.extW ?_ _))) hb1
    have s1 : w.heap.size ≤ w1.heap.size := B1.size
    go_wp2_with fail
    go_ret
    exact ⟨rfl, (by repeat (first | with_reducible exact Below.refl _ _ | with_reducible assumption | ((with_reducible refine Below.setCell ?_ ?_ _); rotate_left; · (first | omega | exact Nat.le_refl _ | (simp <;> omega))) | (with_reducible refine Below.allocW ?_ _) | (with_reducible refine Below.drew ?_) | (with_reducible refine Below.extW ?_ _)))⟩
set_option maxHeartbeats 4000000 in
theorem law_AuditGood_none (l k K : Int) (ops : List Op3) (A : Option Addr) (cap : Nat) (y1 y2 : Int) (w : World) (h : ops.length ≤ 100 ∧ ¬ (K = 1 ∧ 10 < l)) (hd : isDig l k K = false) :
    Calls Tryz.prog 10 #[callsV l k K A ops.length cap, .agg #[.int .i64 y1, .int .i64 y2]] w fun e w' => e = .returned (.bool true) ∧ Below w.heap.size w w' := by
  obtain ⟨h1, h4⟩ := h
  have h1n : decide ((100 : Int) < (ops.length : Int)) = false := by simp; omega
  have HM := Lib.hid (fun W v => law13_Made_no W l k K v hd)
  unfold bagV at HM
  unfold callsV
  rcases (by by_cases e : K = 1; exact .inl ⟨by simpa using e, by simp; omega⟩; exact .inr (by simpa using e) : ((K == 1) = true ∧ decide (10 < l) = false) ∨ (K == 1) = false) with ⟨g1, g2⟩ | g1
  all_goals
    clear h4 hd h1
    go_enter Tryz.func10, Tryz.ntmps10
    go_wp2_with fail
    refine (HM.out _ _).mono ?_
    rintro e w1 ⟨rfl, hb1⟩
    have B1 : Below w.heap.size w w1 := Below.then_ (by repeat (first | with_reducible exact Below.refl _ _ | with_reducible assumption | ((with_reducible refine Below.setCell ?_ ?_ _); rotate_left; · (first | omega | exact Nat.le_refl _ | (simp <;> omega))) | (with_reducible refine Below.allocW ?_ _) | (with_reducible refine Below.drew ?_) | (with_reducible refine Below.extW ?_ _))) hb1
    have s1 : w.heap.size ≤ w1.heap.size := B1.size
    go_wp2_with fail
    refine (alive34 _).mono ?_
    rintro e w2 ⟨rfl, hb2⟩
    have B2 : Below w.heap.size w w2 := Below.then_ (by repeat (first | with_reducible exact Below.refl _ _ | with_reducible assumption | ((with_reducible refine Below.setCell ?_ ?_ _); rotate_left; · (first | omega | exact Nat.le_refl _ | (simp <;> omega))) | (with_reducible refine Below.allocW ?_ _) | (with_reducible refine Below.drew ?_) | (with_reducible refine Below.extW ?_ _))) hb2
    have s2 : w.heap.size ≤ w2.heap.size := B2.size
    go_wp2_with fail
    go_ret
    exact ⟨rfl, (by repeat (first | with_reducible exact Below.refl _ _ | with_reducible assumption | ((with_reducible refine Below.setCell ?_ ?_ _); rotate_left; · (first | omega | exact Nat.le_refl _ | (simp <;> omega))) | (with_reducible refine Below.allocW ?_ _) | (with_reducible refine Below.drew ?_) | (with_reducible refine Below.extW ?_ _)))⟩
set_option maxHeartbeats 8000000 in
theorem law_AuditGood_yes (l K : Nat) (k : Int) (ops : List Op3) (A : Option Addr) (cap : Nat) (y1 y2 : Int) (w : World) (h : ops.length ≤ 100 ∧ ¬ ((K : Int) = 1 ∧ 10 < (l : Int))) (hd : isDig l k K = true) (hS : Sl w w.heap.size encO A ops) (hI : intsO ops) (hy : y2 ≤ 9223372036854775807) :
    Calls Tryz.prog 10 #[callsV l k K A ops.length cap, .agg #[.int .i64 y1, .int .i64 y2]] w fun e w' => e = .returned (.bool true) ∧ Below w.heap.size w w' := by
  obtain ⟨h1, h4⟩ := h
  have hl : 1 ≤ l ∧ l ≤ 48 := by simp only [isDig, isPool, Bool.and_eq_true, decide_eq_true_eq] at hd; omega
  have h1n : decide ((100 : Int) < (ops.length : Int)) = false := by simp; omega
  have HM := Lib.hid (fun W h => law13_Made W l K k A cap ops hd h hI (by omega))
  have BW0 : Hid (Below w.heap.size w ((w.alloc (.cells #[.int .i64 l, .int .i64 k, .int .i64 K, .slice A ops.length cap] 26)).alloc (.cells #[.int .i64 y1, .int .i64 y2] 96))) := Lib.hid (((Below.refl w.heap.size w).alloc (Nat.le_refl _) _).alloc (by simp) _)
  have X0 : Hid (((w.alloc (.cells #[.int .i64 l, .int .i64 k, .int .i64 K, .slice A ops.length cap] 26)).alloc (.cells #[.int .i64 y1, .int .i64 y2] 96)).heap[w.heap.size]? = some (.cells #[.int .i64 l, .int .i64 k, .int .i64 K, .slice A ops.length cap] 26 (0, 0))) := Lib.hid ((heap_new_lt _ _ _ (by simp)).trans (heap_alloc_new w _))
  have Y0 : Hid (((w.alloc (.cells #[.int .i64 l, .int .i64 k, .int .i64 K, .slice A ops.length cap] 26)).alloc (.cells #[.int .i64 y1, .int .i64 y2] 96)).heap[w.heap.size + 1]? = some (.cells #[.int .i64 y1, .int .i64 y2] 96 (0, 0))) := Lib.hid (heap_new_at (w.alloc _) _ _ (by simp))
  have S0 := Lib.hid (hS.keep (B' := ((w.alloc (.cells #[.int .i64 l, .int .i64 k, .int .i64 K, .slice A ops.length cap] 26)).alloc (.cells #[.int .i64 y1, .int .i64 y2] 96)).heap.size) BW0.out.size fun p hp => BW0.out.cell hp)
  unfold callsV
  rcases (by by_cases e : (K : Int) = 1; exact .inl ⟨by simpa using e, by simp; omega⟩; exact .inr (by simpa using e) : (((K : Int) == 1) = true ∧ decide (10 < (l : Int)) = false) ∨ ((K : Int) == 1) = false) with ⟨g1, g2⟩ | g1
  all_goals
    clear h4 hd hS
    go_enter Tryz.func10, Tryz.ntmps10
    go_upto_region 1 with fail
    generalize (w.alloc (.cells #[.int .i64 l, .int .i64 k, .int .i64 K, .slice A ops.length cap] 26)).alloc (.cells #[.int .i64 y1, .int .i64 y2] 96) = W0 at X0 Y0 BW0 S0 ⊢
    obtain ⟨py, hpy⟩ : ∃ q, q = w.heap.size + 1 := ⟨_, rfl⟩
    rw [← hpy] at Y0
    try rw [← hpy]
    clear hpy
    have x0 := blk_cell X0.out
    have xz := lt_of_block X0.out
    go_upto_region 3 with fail
    go_wp2_with fail
    refine (HM.out W0 S0.out).mono ?_
    rintro e w1 ⟨g, F, r, m, A1, c1, rfl, hD, _, hT, hH, hr, hml, hr8, hb1⟩
    have al := (Below.refl w1.heap.size w1).alloc (Nat.le_refl _) (.cells #[.int .i64 l, .slice A1 m.length c1] 31)
    have R2 : Hid (GoodW w g K l k r m F ops A cap py y1 y2 A1 (w1.alloc (.cells #[.int .i64 l, .slice A1 m.length c1] 31))) := Lib.hid
      ⟨hD.below al, blk_below (blk_below X0.out hb1) al, blk_below (blk_below Y0.out hb1) al, (hT.below al).sl, Below.then_ (Below.then_ BW0.out hb1) al⟩
    have XB := Lib.hid (heap_alloc_new w1 (.cells #[.int .i64 l, .slice A1 m.length c1] 31))
    have hbag := hH.bag
    have HM10 := Lib.hid (fun W hS => law10_Made W l A1 c1 m hl hS (bag_ints hbag hl) (by omega))
    rw [madeB_self hbag] at HM10
    have HCk := Lib.hid (fun W base gb h hb => check_good W g K l k r F base gb m h hb hH (by omega) (by omega) hr8)
    have HSl := Lib.hid (fun W h => rank_Slack W g K l k r F h)
    have HAd := Lib.hid (fun W base gb h hb => bag_Add W base gb l m y1 y2 hl h hbag hy (by omega) hb)
    have hAB := hbag.addB y1 y2
    have hAL := addB_len l m y1 y2
    have hAN : (addB l m y1 y2).2 = 0 → sumR r ≠ sumR (addB l m y1 y2).1 := by
      rw [hH.sum]
      unfold addB
      repeat' split
      all_goals intro h0
      all_goals first | (simp at h0; done) | (simp only [sumR_add]; omega)
    generalize addB l m y1 y2 = ab at HAd hAB hAL hAN
    obtain ⟨m', er⟩ := ab
    simp only at HAd hAB hAL hAN
    have HSb := Lib.hid (fun W base gb h hb hne => stands_bad W g K l k r F base gb m' h hb hAB hne (by omega))
    have HCb := Lib.hid (fun W base gb h hb hne => check_bad W g K l k r F base gb m' h hb hAB hne (by omega) (by omega))
    have hne := Lib.hid hAN
    generalize (l : Int) * (sumR r / k) = sl at HCk HSl
    unfold bagV at HM10 ⊢
    clear hD hT hH hb1 al x0 xz X0 Y0 BW0 S0 HM hr hml hr8 hbag hAN hAB hAL
    go_upto_region 4 with fail
    obtain ⟨pb, hpb⟩ : ∃ pb, pb = w1.heap.size := ⟨_, rfl⟩
    rw [← hpb] at XB ⊢
    generalize w1.alloc (.cells #[.int .i64 l, .slice A1 m.length c1] 31) = w2 at R2 XB ⊢
    clear hpb
    have x2 := blk_cell R2.out.x
    have xz2 := lt_of_block R2.out.x
    have b2 := blk_cell XB.out
    have bz2 := lt_of_block XB.out
    go_upto_region 6 with fail
    go_wp2_with fail
    refine (HM10.out w2 R2.out.s).mono ?_
    rintro e w3 ⟨gb, A2, c2, rfl, hB3, _, hb3⟩
    have G3 : Hid (GoodB w w2 gb l m w3) := Lib.hid ⟨hB3, hb3⟩
    have G4 := Lib.hid (G3.out.below ((Below.refl w3.heap.size w3).alloc (Nat.le_refl _) (.cells #[.int .i64 l, .slice A2 m.length c2] 31)))
    clear hb3 hB3 G3 x2 xz2 b2 bz2 XB HM10
    go_upto_region 7 with fail
    generalize w3.alloc (.cells #[.int .i64 l, .slice A2 m.length c2] 31) = w4 at G4 ⊢
    go_wp2_with fail
    refine (HCk.out w4 _ gb (R2.out.d.below G4.out.old) G4.out.b).mono ?_
    rintro e w5 ⟨tv, z1, z2, rfl, hz, hb5⟩
    have G5 := Lib.hid ((G4.out.below hb5).below ((Below.refl w5.heap.size w5).alloc (Nat.le_refl _) (.cells #[.bool true, .bool true, .bool true, .bool tv, .bool true, .int .i64 z1, .int .i64 z2, .int .i64 sl] 106)))
    have V5 := Lib.hid (heap_alloc_new w5 (.cells #[.bool true, .bool true, .bool true, .bool tv, .bool true, .int .i64 z1, .int .i64 z2, .int .i64 sl] 106))
    have HG1 := Lib.hid (fun W => audit_Good W true true true tv true z1 z2 sl)
    rw [decide_eq_true hz] at HG1
    unfold verdV at HG1
    clear hb5 G4 HCk hz
    go_upto_region 8 with fail
    obtain ⟨pv, hpv⟩ : ∃ q, q = w5.heap.size := ⟨_, rfl⟩
    rw [← hpv] at V5 ⊢
    generalize w5.alloc (.cells #[.bool true, .bool true, .bool true, .bool tv, .bool true, .int .i64 z1, .int .i64 z2, .int .i64 sl] 106) = w6 at G5 V5 ⊢
    clear hpv
    have v5 := blk_cell V5.out
    have vz5 := lt_of_block V5.out
    have hsl : (sl != sl) = false := by simp
    refine wp_region_ext (by kernel_rfl) (by kernel_rfl) ?_
    repeat (go_big_quiet_step (first | (go_at_call 61; exact quiet_ext (HG1.out _)) | (go_at_call 52; exact quiet_ext (HSl.out _ ((R2.out.d.below G5.out.old).below (ext_below _ _))))))
    refine wpQuiet_nil ?_
    intro w7 hb7
    have G7 := Lib.hid (G5.out.below (below_of_ext hb7))
    clear hb7 v5 vz5 G5 V5 hsl HSl
    go_upto_region 10 with fail
    have R7 := Lib.hid (R2.out.below G7.out.old)
    have y7 := blk_cell R7.out.y
    have yz7 := lt_of_block R7.out.y
    go_wp2_with fail
    refine (HAd.out w7 _ gb G7.out.b G7.out.old.size).mono ?_
    rintro e w8 ⟨rfl, hB8, hb8⟩
    have G8 : Hid (GoodB w w2 gb l m' w8) := Lib.hid ⟨hB8, G7.out.old.trans hb8⟩
    clear hB8 hb8 G7 R7 y7 yz7 HAd
    by_cases he : er = 0
    · subst he
      have hn := Lib.hid (hne.out rfl)
      clear hne
      go_upto_region 12 with fail
      go_wp2_with fail
      refine (HSb.out w8 _ gb (R2.out.d.below G8.out.old) G8.out.b hn.out).mono ?_
      rintro e w9 ⟨rfl, hb9⟩
      have G9 := Lib.hid (G8.out.below hb9)
      clear hb9 G8 HSb
      go_upto_region 13 with fail
      go_wp2_with fail
      refine (HCb.out w9 _ gb (R2.out.d.below G9.out.old) G9.out.b hn.out).mono ?_
      rintro e wa ⟨b1, b2, b3, z3, z4, z5, rfl, hba⟩
      have Ga := Lib.hid ((G9.out.below hba).below ((Below.refl wa.heap.size wa).alloc (Nat.le_refl _) (.cells #[.bool false, .bool b1, .bool b2, .bool b3, .bool false, .int .i64 z3, .int .i64 z4, .int .i64 z5] 106)))
      have Va := Lib.hid (heap_alloc_new wa (.cells #[.bool false, .bool b1, .bool b2, .bool b3, .bool false, .int .i64 z3, .int .i64 z4, .int .i64 z5] 106))
      have HG2 := Lib.hid (fun W => audit_Good W false b1 b2 b3 false z3 z4 z5)
      simp only [Bool.false_and] at HG2
      unfold verdV at HG2
      clear hba G9 HCb
      go_upto_region 14 with fail
      obtain ⟨pv2, hpv⟩ : ∃ q, q = wa.heap.size := ⟨_, rfl⟩
      rw [← hpv] at Va ⊢
      generalize wa.alloc (.cells #[.bool false, .bool b1, .bool b2, .bool b3, .bool false, .int .i64 z3, .int .i64 z4, .int .i64 z5] 106) = wb at Ga Va ⊢
      clear hpv
      have va := blk_cell Va.out
      have vza := lt_of_block Va.out
      go_wp2_with fail
      refine (HG2.out wb).mono ?_
      rintro e wc ⟨rfl, hbc⟩
      have Gc := Lib.hid (Ga.out.below hbc)
      clear hbc va vza Ga Va
      go_wp2_with fail
      refine (alive34 wc).mono ?_
      rintro e wd ⟨rfl, hbd⟩
      have Gd := Lib.hid (Gc.out.below hbd)
      go_wp2_with fail
      go_ret
      exact ⟨rfl, (R2.out.below Gd.out.old).blw⟩
    · have he' : (er != 0) = true := by simpa using he
      clear he hne
      go_wp2_with fail
      refine (alive34 w8).mono ?_
      rintro e w9 ⟨rfl, hb9⟩
      have G9 := Lib.hid (G8.out.below hb9)
      go_wp2_with fail
      go_ret
      exact ⟨rfl, (R2.out.below G9.out.old).blw⟩
theorem law_AuditGood (l k K : Int) (ops : List Op3) (A : Option Addr) (cap : Nat) (y1 y2 : Int) (W : World) (hS : Sl W W.heap.size encO A ops) (hI : intsO ops) (_ : i64 l) (_ : i64 k) (_ : i64 K) (hm : ops.length ≤ maxLen) (_ : (Lit.int IntKind.i64 y1).wf = true) (hy : (Lit.int IntKind.i64 y2).wf = true) :
    Calls Tryz.prog 10 #[callsV l k K A ops.length cap, .agg #[.int .i64 y1, .int .i64 y2]] W fun e W' => e = .returned (.bool true) ∧ Below W.heap.size W W' := by
  by_cases h : ops.length ≤ 100 ∧ ¬ (K = 1 ∧ 10 < l)
  · cases hd : isDig l k K
    · exact law_AuditGood_none l k K ops A cap y1 y2 W h hd
    · obtain ⟨n, m, rfl, rfl⟩ := isDig_nat hd
      exact law_AuditGood_yes n m k ops A cap y1 y2 W h hd hS hI (i64_of_wf hy).2
  · exact law_AuditGood_big l k K ops A cap y1 y2 W h hm
end Go.Proofs.YtcjnchjmpkapmaaGreat
