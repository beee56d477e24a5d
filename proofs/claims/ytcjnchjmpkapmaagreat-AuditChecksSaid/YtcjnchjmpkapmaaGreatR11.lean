/-
  Texts of this proof, one behind the other: RefBelow, Ref34, Ref34C, Ref34S, AuditHas, Made10, AuditWrong, AuditCulprit, AuditStands0, BagItems, Ref34O, SortO, AuditOff0, AuditKeys, AuditCheck, Alive34.
-/
import Derived.Maps.OwnOps
import Derived.Maps.Views
import Derived.Carry
import Derived.Test.YtcjnchjmpkapmaaGreatShelf
import Derived.Test.YtcjnchjmpkapmaaGreatLaidI
import Derived.Shelf.SlIterI.Nil
import Derived.Maps.OwnSet
import Derived.Test.YtcjnchjmpkapmaaGreatP2
import Derived.Test.YtcjnchjmpkapmaaGreatP3
import Derived.Test.YtcjnchjmpkapmaaGreatR4
import Derived.Test.YtcjnchjmpkapmaaGreatR5
import Derived.Test.YtcjnchjmpkapmaaGreatR6
import Derived.Test.YtcjnchjmpkapmaaGreatR7
import Derived.Test.YtcjnchjmpkapmaaGreatR9
/- References 2, 12: Above, Below. -/
set_option linter.unusedSimpArgs false namespace Go.Proofs.YtcjnchjmpkapmaaGreat
open Go.ChangeShapes Go.WideShapes Go.ChangeAt Go.RowKit
set_option linter.unusedVariables false
set_option linter.unusedSimpArgs false
set_option maxRecDepth 100000

theorem abv_le {p q : Int} (h : abv p q = true) : p ≤ q := by
  simp only [abv, decide_eq_true_eq] at h
  obtain ⟨h1, h2, h3, h4⟩ := h
  have := Nat.div_le_self q.toNat (2 ^ (q.toNat.log2 - p.toNat.log2))
  omega
theorem abv_self {p : Int} (h : 1 ≤ p) : abv p p = true := by simp [abv, h]
theorem abv_pos {p q : Int} (h : abv p q = true) : 1 ≤ p ∧ 1 ≤ q := by
  simp only [abv, decide_eq_true_eq] at h
  exact ⟨h.1, h.2.1⟩
theorem ref2_Above (w : World) (a b : Int) (hb : b ≤ 9223372036854775807) :
    Calls Tryz.prog 361 #[.int .i64 a, .int .i64 b] w fun e w' => e = .returned (.bool (abv a b)) ∧ Below w.heap.size w w' := by
  by_cases ha : a < 1
  · have e1 : abv a b = false := by
      cases h : abv a b
      · rfl
      · have := (abv_pos h).1; omega
    rw [e1]
    clear e1
    go_enter Tryz.func361, Tryz.ntmps361
    go_wp2_with fail
    go_ret
    exact ⟨rfl, Below.refl _ _⟩
  · have ha' : decide (a < 1) = false := by simpa using ha
    obtain ⟨v, hv⟩ : ∃ v, v = abv a b := ⟨_, rfl⟩
    rw [← hv]
    have HV := Lib.hid hv.symm
    clear hv
    go_enter Tryz.func361, Tryz.ntmps361
    go_wp2_with fail
    go_loopw [1] (fun j wr => ∃ q : Int, q ≤ 9223372036854775807 ∧ j = .int .i64 q ∧ abv a q = v ∧ Below w.heap.size w wr) (fun j _ => (intOf j).toNat)
    case atStart => exact ⟨b, hb, rfl, HV.out, Below.refl _ _⟩
    case round =>
      obtain ⟨q, hq, rfl, hE, hB⟩ := hrel
      by_cases hlt : a < q
      · have q1 : 2 ≤ q := by omega
        have hE2 : abv a (q / 2) = v := by
          rw [← hE, Bool.eq_iff_iff, abv_half (by omega : 1 ≤ q)]
          exact ⟨fun h => .inr ⟨q1, h⟩, fun h => h.elim (fun h => by omega) fun h => h.2⟩
        have HE := Lib.hid hE2
        have td : Int.tdiv q 2 = q / 2 := Int.tdiv_eq_ediv_of_nonneg (by omega)
        clear hE hE2
        go_wp2_with fail
        go_roundw
        case rel => exact ⟨q / 2, by omega, by first | rfl | rw [td] | (simp [td]), HE.out, hB⟩
        case measure => simp [intOf, td]; omega
      · have hnl : decide (a < q) = false := by simpa using hlt
        have e1 : (a == q) = v := by
          rw [← hE, Bool.eq_iff_iff, beq_iff_eq]
          exact ⟨fun h => h ▸ abv_self (by omega), fun h => by have := abv_le h; omega⟩
        clear hE
        go_wp2_with fail
        go_ret
        exact ⟨rfl, hB⟩
theorem wIds_take {p : Int → Bool} {m : List Nd} {q : Nat} (h : q < m.length) : wIds p (m.take (q + 1)) = wIds p (m.take q) + if p m[q].1 = true then m[q].2 else 0 := by
  rw [List.take_succ_eq_append_getElem h]
  generalize m.take q = L
  generalize m[q] = z
  induction L with
  | nil => simp [wIds]
  | cons y L ih => simp only [List.cons_append, wIds, ih]; omega
theorem wIds_sum {p : Int → Bool} {r : List Nd} (h : ∀ x ∈ r, 0 ≤ x.2) : wIds p r ≤ sumR r := by
  induction r with
  | nil => simp [wIds, sumR]
  | cons x r ih =>
    have := ih fun y hy => h y (by simp [hy])
    have := h x (by simp)
    simp only [wIds, sumR]
    split <;> omega
theorem ref12_Below (w : World) (l : Int) (A : Option Addr) (cap : Nat) (m : List Nd) (id : Int) (hS : Sl w w.heap.size encN A m) (hI : ints m) (hv : ∀ x ∈ m, 1 ≤ x.2) (hs : sumR m ≤ 72057594037927935) :
    Calls Tryz.prog 305 #[.agg #[.int .i64 l, .slice A m.length cap], .int .i64 id] w fun e w' => e = .returned (.int .i64 (ownN m id)) ∧ Below w.heap.size w w' := by
  have hml : (m.length : Int) ≤ 72057594037927935 := by have := (sumR_pos hv).2; omega
  have HS := Lib.hid hS
  have HV := Lib.hid hv
  have HI := Lib.hid hI
  clear hS hv hI
  have X0 : Hid ((w.alloc (.cells #[.int .i64 l, .slice A m.length cap] 61)).heap[w.heap.size]? = some (.cells #[.int .i64 l, .slice A m.length cap] 61 (0, 0))) := Lib.hid (heap_alloc_new w _)
  unfold ownN
  go_enter Tryz.func305, Tryz.ntmps305
  go_wp2_with fail
  go_loopw [5, 6] (fun n j wr => ∃ q : Nat, q ≤ m.length ∧ j = .int .i64 q ∧ n = .int .i64 (wIds (fun x => abv id x) (m.take q)) ∧ wr.heap[w.heap.size]? = some (.cells #[.int .i64 l, .slice A m.length cap] 61 (0, 0)) ∧ Below w.heap.size w wr) (fun _ j _ => m.length - (intOf j).toNat)
  case atStart => exact ⟨0, Nat.zero_le _, rfl, rfl, X0.out, (by repeat (first | with_reducible exact Below.refl _ _ | with_reducible assumption | ((with_reducible refine Below.setCell ?_ ?_ _); rotate_left; · (first | omega | exact Nat.le_refl _ | (simp <;> omega))) | (with_reducible refine Below.allocW ?_ _) | (with_reducible refine Below.drew ?_) | (with_reducible refine Below.extW ?_ _)))⟩
  case round =>
    obtain ⟨q, hq, rfl, rfl, hX, hB⟩ := hrel
    have c0 : wr.cell? ⟨w.heap.size, 1, none⟩ = some (.slice A m.length cap) := by rw [blk_cell hX]; rfl
    have z0 := lt_of_block hX
    have HX := Lib.hid hX
    clear hX
    by_cases hlt : q < m.length
    · have hE := Lib.hid (wIds_take (p := fun x => abv id x) hlt)
      obtain ⟨b, off, rfl, hb, hc⟩ := HS.out.at_ hlt
      have d0 := (hB.cell (p := ⟨b, off + q * 2 + 1, none⟩) hb).trans (hc 1 (.int .i64 m[q].2) rfl)
      have d1 := (hB.cell (p := ⟨b, off + q * 2, none⟩) hb).trans (by have := hc 0 (.int .i64 m[q].1) rfl; simpa using this)
      have lb : b < wr.heap.size := Nat.lt_of_lt_of_le hb hB.size
      have v1 := HV.out _ (List.getElem_mem hlt)
      have hi := HI.out _ (List.getElem_mem hlt)
      have s0 := wIds_0 (p := fun x => abv id x) (r := m.take q) fun u hu => by have := HV.out u (List.mem_of_mem_take hu); omega
      have s2 := wIds_sum (p := fun x => abv id x) (r := m.take q) fun u hu => by have := HV.out u (List.mem_of_mem_take hu); omega
      have s1 := (sumV_take_le HV.out (q + 1)).2
      rw [sumV_take hlt] at s1
      obtain ⟨c, hc1⟩ : ∃ c, c = m[q].2 := ⟨_, rfl⟩
      obtain ⟨v, hv1⟩ : ∃ v, v = m[q].1 := ⟨_, rfl⟩
      rw [← hc1] at d0 v1 s1
      rw [← hv1] at d1 hi
      have hE2 := hE.out
      rw [← hc1, ← hv1] at hE2
      obtain ⟨n, hn⟩ : ∃ n, n = wIds (fun x => abv id x) (m.take q) := ⟨_, rfl⟩
      rw [← hn] at s0 s2 hE2 ⊢
      have hsum : n + c ≤ 72057594037927935 := by omega
      have HA := Lib.hid (fun W => ref2_Above W id v hi.1.2)
      clear hc s1 s2 hn hc1 hv1 hE hi
      cases k1 : abv id v
      · rw [k1] at HA
        rw [if_neg (by simp [k1]), Int.add_zero] at hE2
        have HE := Lib.hid hE2
        clear hE2
        go_wp2_with fail
        refine (HA.out _).mono ?_
        rintro e w2 ⟨rfl, hb2⟩
        have HX2 := Lib.hid (blk_below HX.out hb2)
        have B2 := Lib.hid (Below.then_ hB hb2)
        clear hb2
        go_wp2_with fail
        go_roundw
        case rel => exact ⟨q + 1, by omega, by go_num, by rw [HE.out], HX2.out, B2.out⟩
        case measure => simp [intOf]; omega
      · rw [k1] at HA
        rw [if_pos k1] at hE2
        have HE := Lib.hid hE2
        clear hE2
        go_wp2_with fail
        refine (HA.out _).mono ?_
        rintro e w2 ⟨rfl, hb2⟩
        have HX2 := Lib.hid (blk_below HX.out hb2)
        have B2 := Lib.hid (Below.then_ hB hb2)
        have c02 : w2.cell? ⟨w.heap.size, 1, none⟩ = some (.slice (some ⟨b, off, none⟩) m.length cap) := by rw [blk_cell HX2.out]; rfl
        have z02 := lt_of_block HX2.out
        have d02 := (hb2.cell (p := ⟨b, off + q * 2 + 1, none⟩) lb).trans d0
        have lb2 : b < w2.heap.size := Nat.lt_of_lt_of_le lb hb2.size
        clear hb2
        go_wp2_with fail
        go_roundw
        case rel => exact ⟨q + 1, by omega, by go_num, by (rw [HE.out]; try go_num), HX2.out, B2.out⟩
        case measure => simp [intOf]; omega
    · obtain rfl : q = m.length := by omega
      rw [List.take_length]
      go_wp2_with fail
      go_ret
      exact ⟨rfl, hB⟩
end Go.Proofs.YtcjnchjmpkapmaaGreat
/- Reference 34: culprits. -/
namespace Go.Proofs.YtcjnchjmpkapmaaGreat
open Go.ChangeShapes Go.WideShapes Go.ChangeAt Go.RowKit
set_option linter.unusedVariables false
set_option linter.unusedSimpArgs false
set_option maxRecDepth 100000

def mrN (l : Int) (r m : List Nd) (id : Int) : Int := ownN r id - betwB m (endsOf l id).1 (endsOf l id).2.1
theorem mrN_bound {l : Int} {r m : List Nd} (hr : ∀ x ∈ r, 1 ≤ x.2) (hm : ∀ x ∈ m, 1 ≤ x.2) (h1 : sumR r ≤ 72057594037927935) (h2 : sumR m ≤ 72057594037927935) (id : Int) : (0 ≤ ownN r id ∧ ownN r id ≤ 72057594037927935) ∧ ∀ a b, 0 ≤ betwB m a b ∧ betwB m a b ≤ 72057594037927935 := by
  refine ⟨⟨wIds_0 fun x hx => by have := hr x hx; omega, ?_⟩, fun a b => ?_⟩
  · have := wIds_sum (p := fun x => abv id x) (r := r) fun x hx => by have := hr x hx; omega
    unfold ownN; omega
  · have := betwB_le hm a b; omega
set_option maxHeartbeats 4000000 in
theorem ref34_more (w : World) (k l : Int) (A B : Option Addr) (ca cb : Nat) (r m : List Nd) (id : Int) (hS : Sl w w.heap.size encN A r) (hSb : Sl w w.heap.size encN B m) (hI : ints r) (hr : ∀ x ∈ r, 1 ≤ x.2) (hm : ∀ x ∈ m, 1 ≤ x.2) (h1 : sumR r ≤ 72057594037927935) (h2 : sumR m ≤ 72057594037927935) (hid : id ≤ 9223372036854775807) :
    Calls Tryz.prog 244 #[.agg #[.int .i64 k, .int .i64 l, .slice A r.length ca], bagV l B m.length cb, .int .i64 id] w fun e w' => e = .returned (.int .i64 (mrN l r m id)) ∧ Below w.heap.size w w' := by
  have HE := Lib.hid (fun W => ref2_Ends W l id hid)
  have HBl := Lib.hid (fun W h => ref12_Below W l A ca r id h hI hr h1)
  have HBt := Lib.hid (fun W a b h => ref10_Between W l B cb m a b h hm h2)
  have HBd := Lib.hid (mrN_bound (l := l) hr hm h1 h2 id)
  have X0 : Hid (((w.alloc (.cells #[.int .i64 k, .int .i64 l, .slice A r.length ca] 63)).alloc (.cells #[.int .i64 l, .slice B m.length cb] 31)).heap[w.heap.size]? = some (.cells #[.int .i64 k, .int .i64 l, .slice A r.length ca] 63 (0, 0))) := Lib.hid ((heap_new_lt _ _ _ (by simp)).trans (heap_alloc_new w _))
  have X1 : Hid (((w.alloc (.cells #[.int .i64 k, .int .i64 l, .slice A r.length ca] 63)).alloc (.cells #[.int .i64 l, .slice B m.length cb] 31)).heap[w.heap.size + 1]? = some (.cells #[.int .i64 l, .slice B m.length cb] 31 (0, 0))) := Lib.hid (heap_new_at (w.alloc _) _ _ (by simp))
  have BW0 : Hid (Below w.heap.size w ((w.alloc (.cells #[.int .i64 k, .int .i64 l, .slice A r.length ca] 63)).alloc (.cells #[.int .i64 l, .slice B m.length cb] 31))) := Lib.hid (by repeat (first | with_reducible exact Below.refl _ _ | with_reducible assumption | ((with_reducible refine Below.setCell ?_ ?_ _); rotate_left; · (first | omega | exact Nat.le_refl _ | (simp <;> omega))) | (with_reducible refine Below.allocW ?_ _) | (with_reducible refine Below.drew ?_) | (with_reducible refine Below.extW ?_ _)))
  have HS := Lib.hid (And.intro hS hSb)
  unfold bagV at HBt ⊢
  unfold mrN
  clear hS hSb hI hr hm h1 h2
  obtain ⟨lo, hi, ok, he⟩ : ∃ lo hi ok, endsOf l id = (lo, hi, ok) := ⟨_, _, _, rfl⟩
  rw [he] at HE ⊢
  unfold endsV at HE
  simp only at HE ⊢
  have b1 := HBd.out.1.1
  have b2 := HBd.out.1.2
  have b3 := (HBd.out.2 lo hi).1
  have b4 := (HBd.out.2 lo hi).2
  have HB2 := Lib.hid (fun W h => HBt.out W lo hi h)
  generalize ownN r id = n1 at HBl b1 b2 ⊢
  generalize betwB m lo hi = n2 at HB2 b3 b4 ⊢
  clear HBt HBd he
  go_enter Tryz.func244, Tryz.ntmps244
  go_upto_region 1 with fail
  generalize (w.alloc (.cells #[.int .i64 k, .int .i64 l, .slice A r.length ca] 63)).alloc (.cells #[.int .i64 l, .slice B m.length cb] 31) = W0 at X0 X1 BW0 ⊢
  have q1 := blk_cell X1.out
  have q2 := lt_of_block X1.out
  go_wp2_with fail
  refine (HE.out _).mono ?_
  rintro e w1 ⟨rfl, hb1⟩
  have Y0 := blk_below X0.out hb1
  have Y1 := blk_below X1.out hb1
  have c0 := blk_cell Y0
  have z0 := lt_of_block Y0
  have c1 := blk_cell Y1
  have z1 := lt_of_block Y1
  have B1 := Lib.hid (Below.then_ BW0.out hb1)
  have S1 := Lib.hid (HS.out.1.keep (B' := w1.heap.size) B1.out.size fun p hp => B1.out.cell hp)
  have S2 := Lib.hid (HS.out.2.keep (B' := w1.heap.size) B1.out.size fun p hp => B1.out.cell hp)
  have hB1 := B1.out
  clear q1 q2 hb1 Y0 Y1 X0 X1
  go_wp2_with fail
  refine wp_region_ext (by kernel_rfl) (by kernel_rfl) ?_
  repeat (go_big_quiet_step (first
    | (go_at_call 305; exact quiet_ext (HBl.out _ (S1.out.keep (ext_below _ _).size fun p hp => (ext_below _ _).cell hp)))
    | (go_at_call 45; exact quiet_ext (HB2.out _ (S2.out.keep (ext_below _ _).size fun p hp => (ext_below _ _).cell hp)))))
  refine wpQuiet_nil ?_
  intro w2 hb2
  replace hb2 := below_of_ext hb2
  have B2 : Below w.heap.size w w2 := Below.then_ (by repeat (first | with_reducible exact Below.refl _ _ | with_reducible assumption | ((with_reducible refine Below.setCell ?_ ?_ _); rotate_left; · (first | omega | exact Nat.le_refl _ | (simp <;> omega))) | (with_reducible refine Below.allocW ?_ _) | (with_reducible refine Below.drew ?_) | (with_reducible refine Below.extW ?_ _))) hb2
  have s2 : w.heap.size ≤ w2.heap.size := B2.size
  have z2_0 : w.heap.size < w2.heap.size := by have := hb2.size; (try simp at this); omega
  have y2_0 : w.heap.size ≤ w2.heap.size := Nat.le_of_lt z2_0
  have c2_0 := fun o => hb2.cell (p := ⟨w.heap.size, o, none⟩) (by first | omega | (simp <;> omega))
  have f2_0 := fun o => hb2.frozen (p := ⟨w.heap.size, o, none⟩) (by first | omega | (simp <;> omega))
  go_wp2_with fail
  go_ret
  exact ⟨rfl, (by repeat (first | with_reducible exact Below.refl _ _ | with_reducible assumption | ((with_reducible refine Below.setCell ?_ ?_ _); rotate_left; · (first | omega | exact Nat.le_refl _ | (simp <;> omega))) | (with_reducible refine Below.allocW ?_ _) | (with_reducible refine Below.drew ?_) | (with_reducible refine Below.extW ?_ _)))⟩
end Go.Proofs.YtcjnchjmpkapmaaGreat
/- Reference 34: the culprit. -/
namespace Go.Proofs.YtcjnchjmpkapmaaGreat
open Go.ChangeShapes Go.WideShapes Go.ChangeAt Go.RowKit
set_option linter.unusedVariables false
set_option linter.unusedSimpArgs false
set_option maxRecDepth 100000

def culS (f : Int → Int) (a : Int × Int) (x : Int) : Int × Int := if 0 < f x ∧ (a.1 = 0 ∨ x < a.1) then (x, f x) else a
structure Seen (f : Int → Int) (C : Int → Prop) (a : Int × Int) : Prop where
  ex : ∃ L, (∀ z, z ∈ L ↔ C z) ∧ culIs f L a ∧ ∀ z ∈ L, 1 ≤ z
theorem Seen.step {f : Int → Int} {C D : Int → Prop} {a : Int × Int} (h : Seen f C a) {x : Int} (hx : 1 ≤ x) (hD : ∀ z, D z ↔ C z ∨ z = x) : Seen f D (culS f a x) := by
  obtain ⟨L, h1, h2, h3⟩ := h.ex
  refine ⟨L ++ [x], fun z => by rw [hD, List.mem_append, h1, List.mem_singleton], culIs_snoc h2 h3 hx, fun z hz => ?_⟩
  rcases List.mem_append.1 hz with hz | hz
  · exact h3 z hz
  · rw [List.mem_singleton.1 hz]; exact hx
theorem Seen.congr {f : Int → Int} {C D : Int → Prop} {a : Int × Int} (h : Seen f C a) (hD : ∀ z, D z ↔ C z) : Seen f D a := by
  obtain ⟨L, h1, h2⟩ := h.ex
  exact ⟨L, fun z => by rw [hD, h1], h2⟩
theorem Seen.none (f : Int → Int) : Seen f (fun _ => False) (0, 0) := ⟨[], by simp, culIs_none (by simp), by simp⟩
theorem Seen.unique {f : Int → Int} {C D : Int → Prop} {a b : Int × Int} (h : Seen f C a) (k : Seen f D b) (hD : ∀ z, C z ↔ D z) : a = b := by
  obtain ⟨L, h1, h2, _⟩ := h.ex
  obtain ⟨M, k1, k2, _⟩ := k.ex
  exact culIs_unique (fun z => by rw [h1, hD, k1]) h2 k2
def upOf (r : List Nd) (z : Int) : Prop := ∃ x ∈ r, abv z x.1 = true
theorem upOf_take {r : List Nd} {q : Nat} (h : q < r.length) (z : Int) : upOf (r.take (q + 1)) z ↔ upOf (r.take q) z ∨ abv z r[q].1 = true := by
  unfold upOf
  rw [List.take_succ_eq_append_getElem h]
  simp only [List.mem_append, List.mem_singleton]
  constructor
  · rintro ⟨x, hx | rfl, hz⟩
    · exact .inl ⟨x, hx, hz⟩
    · exact .inr hz
  · rintro (⟨x, hx, hz⟩ | hz)
    · exact ⟨x, .inl hx, hz⟩
    · exact ⟨_, .inr rfl, hz⟩
set_option maxHeartbeats 8000000 in
theorem ref34_Culprit (w : World) (k l : Int) (A B : Option Addr) (ca cb : Nat) (r m : List Nd) (hS : Sl w w.heap.size encN A r) (hSb : Sl w w.heap.size encN B m) (hI : ints r) (hr : ∀ x ∈ r, 1 ≤ x.2) (hm : ∀ x ∈ m, 1 ≤ x.2) (h1 : sumR r ≤ 72057594037927935) (h2 : sumR m ≤ 72057594037927935) (hp : ∀ x ∈ r, 1 ≤ x.1) (hlen : r.length ≤ 67108864) :
    Calls Tryz.prog 147 #[.agg #[.int .i64 k, .int .i64 l, .slice A r.length ca], bagV l B m.length cb] w fun e w' => ∃ a : Int × Int, e = .returned (.tuple #[.int .i64 a.1, .int .i64 a.2]) ∧ Seen (mrN l r m) (upOf r) a ∧ Below w.heap.size w w' := by
  have HM := Lib.hid (fun W id h h' hid => ref34_more W k l A B ca cb r m id h h' hI hr hm h1 h2 hid)
  have HBd := Lib.hid (fun id => mrN_bound (l := l) hr hm h1 h2 id)
  have HI := Lib.hid hI
  have HP := Lib.hid hp
  have X0 : Hid (((w.alloc (.cells #[.int .i64 k, .int .i64 l, .slice A r.length ca] 63)).alloc (.cells #[.int .i64 l, .slice B m.length cb] 31)).heap[w.heap.size]? = some (.cells #[.int .i64 k, .int .i64 l, .slice A r.length ca] 63 (0, 0))) := Lib.hid ((heap_new_lt _ _ _ (by simp)).trans (heap_alloc_new w _))
  have X1 : Hid (((w.alloc (.cells #[.int .i64 k, .int .i64 l, .slice A r.length ca] 63)).alloc (.cells #[.int .i64 l, .slice B m.length cb] 31)).heap[w.heap.size + 1]? = some (.cells #[.int .i64 l, .slice B m.length cb] 31 (0, 0))) := Lib.hid (heap_new_at (w.alloc _) _ _ (by simp))
  have BW0 : Hid (Below w.heap.size w ((w.alloc (.cells #[.int .i64 k, .int .i64 l, .slice A r.length ca] 63)).alloc (.cells #[.int .i64 l, .slice B m.length cb] 31))) := Lib.hid (by repeat (first | with_reducible exact Below.refl _ _ | with_reducible assumption | ((with_reducible refine Below.setCell ?_ ?_ _); rotate_left; · (first | omega | exact Nat.le_refl _ | (simp <;> omega))) | (with_reducible refine Below.allocW ?_ _) | (with_reducible refine Below.drew ?_) | (with_reducible refine Below.extW ?_ _)))
  have HS := Lib.hid (And.intro hS hSb)
  unfold bagV at HM ⊢
  clear hS hSb hI hr hm h1 h2 hp
  go_enter Tryz.func147, Tryz.ntmps147
  go_upto_region 1 with fail
  generalize (w.alloc (.cells #[.int .i64 k, .int .i64 l, .slice A r.length ca] 63)).alloc (.cells #[.int .i64 l, .slice B m.length cb] 31) = W0 at X0 X1 BW0 ⊢
  go_wp2_with fail
  go_loopw [6, 7, 8] (fun a b j wr => ∃ (q : Nat) (s : Int × Int), q ≤ r.length ∧ j = .int .i64 q ∧ a = .int .i64 s.1 ∧ b = .int .i64 s.2 ∧ Seen (mrN l r m) (upOf (r.take q)) s ∧ Below W0.heap.size W0 wr) (fun _ _ j _ => r.length - (intOf j).toNat)
  case atStart => exact ⟨0, (0, 0), Nat.zero_le _, rfl, rfl, rfl, (Seen.none _).congr (fun z => by simp [upOf]), Below.refl _ _⟩
  case round =>
    obtain ⟨q, s, hq, rfl, rfl, rfl, hSn, hB⟩ := hrel
    have HSn := Lib.hid hSn
    have HB := Lib.hid hB
    have Y0 := blk_below X0.out hB
    have c0 : wr.cell? ⟨w.heap.size, 2, none⟩ = some (.slice A r.length ca) := by rw [blk_cell Y0]; rfl
    have z0 := lt_of_block Y0
    clear hSn Y0
    by_cases hlt : q < r.length
    · have hqi : (q : Int) < (r.length : Int) := by omega
      have hU := Lib.hid (upOf_take hlt)
      obtain ⟨b, off, rfl, hb, hc⟩ := HS.out.1.at_ hlt
      have d1 := ((BW0.out.trans (hB.mono BW0.out.size)).cell (p := ⟨b, off + q * 2, none⟩) hb).trans (by have := hc 0 (.int .i64 r[q].1) rfl; simpa using this)
      have lb : b < wr.heap.size := Nat.lt_of_lt_of_le hb (Nat.le_trans BW0.out.size hB.size)
      have hx := HP.out _ (List.getElem_mem hlt)
      have hx2 := (HI.out _ (List.getElem_mem hlt)).1.2
      obtain ⟨v, hv⟩ : ∃ v, v = r[q].1 := ⟨_, rfl⟩
      rw [← hv] at d1 hx hx2 hU
      clear hc hv hB
      go_wp2_with fail
      go_loopw [6, 7, 9] (fun a b j wx => ∃ (i : Int) (s : Int × Int), i ≤ 9223372036854775807 ∧ 0 ≤ i ∧ j = .int .i64 i ∧ a = .int .i64 s.1 ∧ b = .int .i64 s.2 ∧ (∃ C : Int → Prop, Seen (mrN l r m) C s ∧ ∀ z, upOf (r.take (q + 1)) z ↔ C z ∨ abv z i = true) ∧ Below W0.heap.size W0 wx) (fun _ _ j _ => (intOf j).toNat)
      case atStart => exact ⟨v, s, hx2, by omega, rfl, rfl, rfl, ⟨_, HSn.out, hU.out⟩, HB.out⟩
      case round =>
        obtain ⟨i, t, hi, hi0, rfl, rfl, rfl, ⟨C, hC, hCz⟩, hBx⟩ := hrel
        have HC := Lib.hid (And.intro hC hCz)
        have HBx := Lib.hid hBx
        have Y0 := blk_below X0.out hBx
        have Y1 := blk_below X1.out hBx
        have k0 := blk_cell Y0
        have y0 := lt_of_block Y0
        have k1 := blk_cell Y1
        have y1 := lt_of_block Y1
        have BT := Lib.hid (BW0.out.trans (hBx.mono BW0.out.size))
        have S1 := Lib.hid (HS.out.1.keep (B' := wr.heap.size) BT.out.size fun p hp => BT.out.cell hp)
        have S2 := Lib.hid (HS.out.2.keep (B' := wr.heap.size) BT.out.size fun p hp => BT.out.cell hp)
        clear hC hCz Y0 Y1 hBx
        by_cases hi1 : 1 ≤ i
        · have hD : ∀ z, abv z i = true ↔ z = i ∨ abv z (i / 2) = true := fun z => by
            rw [abv_half hi1]
            exact ⟨fun h => h.elim .inl fun h => .inr h.2, fun h => h.elim .inl fun h => .inr ⟨by have := (abv_pos h).2; omega, h⟩⟩
          have HD := Lib.hid hD
          have td : Int.tdiv i 2 = i / 2 := Int.tdiv_eq_ediv_of_nonneg (by omega)
          have HM2 := Lib.hid (fun W h h' => HM.out W i h h' hi)
          have HN := Lib.hid (HC.out.1.step hi1 fun z => Iff.rfl)
          obtain ⟨n, hn⟩ : ∃ n, n = mrN l r m i := ⟨_, rfl⟩
          rw [← hn] at HM2
          have HN2 : Hid (∀ s', s' = (if 0 < n ∧ (t.1 = 0 ∨ i < t.1) then (i, n) else t) → Seen (mrN l r m) (fun z => C z ∨ z = i) s') := Lib.hid fun s' hs' => by rw [hs', hn]; exact HN.out
          have HZ : Hid (∀ z, upOf (r.take (q + 1)) z ↔ (C z ∨ z = i) ∨ abv z (i / 2) = true) := Lib.hid fun z => by rw [HC.out.2, HD.out, or_assoc]
          obtain ⟨t1, t2⟩ := t
          simp only at HN2 ⊢
          clear hD hn HN HC HD
          go_wp2_with fail
          refine (HM2.out _ S1.out S2.out).mono ?_
          rintro e wy ⟨rfl, hby⟩
          have B3 := Lib.hid (HBx.out.trans (hby.mono HBx.out.size))
          clear hby
          by_cases n0 : 0 < n
          · by_cases t0 : t1 = 0
            · have HN3 := Lib.hid (HN2.out (i, n) (by rw [if_pos ⟨n0, .inl t0⟩]))
              clear HN2
              subst t0
              go_wp2_with fail
              go_roundw
              case rel => exact ⟨i / 2, (i, n), by omega, by omega, by first | rfl | rw [td] | (simp [td]), rfl, rfl, ⟨_, HN3.out, HZ.out⟩, B3.out⟩
              case measure => simp [intOf, td]; omega
            · have t0' : (t1 == 0) = false := by simpa using t0
              by_cases t3 : i < t1
              · have HN3 := Lib.hid (HN2.out (i, n) (by rw [if_pos ⟨n0, .inr t3⟩]))
                clear HN2
                go_wp2_with fail
                go_roundw
                case rel => exact ⟨i / 2, (i, n), by omega, by omega, by first | rfl | rw [td] | (simp [td]), rfl, rfl, ⟨_, HN3.out, HZ.out⟩, B3.out⟩
                case measure => simp [intOf, td]; omega
              · have t3' : decide (i < t1) = false := by simpa using t3
                have HN3 := Lib.hid (HN2.out (t1, t2) (by rw [if_neg (by omega)]))
                clear HN2
                go_wp2_with fail
                go_roundw
                case rel => exact ⟨i / 2, (t1, t2), by omega, by omega, by first | rfl | rw [td] | (simp [td]), rfl, rfl, ⟨_, HN3.out, HZ.out⟩, B3.out⟩
                case measure => simp [intOf, td]; omega
          · have n0' : decide (0 < n) = false := by simpa using n0
            have HN3 := Lib.hid (HN2.out (t1, t2) (by rw [if_neg (by omega)]))
            clear HN2
            go_wp2_with fail
            go_roundw
            case rel => exact ⟨i / 2, (t1, t2), by omega, by omega, by first | rfl | rw [td] | (simp [td]), rfl, rfl, ⟨_, HN3.out, HZ.out⟩, B3.out⟩
            case measure => simp [intOf, td]; omega
        · have hi1' : decide (1 ≤ i) = false := by simpa using hi1
          have HZ : Hid (Seen (mrN l r m) (upOf (r.take (q + 1))) t) := Lib.hid (HC.out.1.congr fun z => by
            rw [HC.out.2]
            exact ⟨fun h => h.elim id fun h => by have := (abv_pos h).2; omega, .inl⟩)
          clear HC
          go_wp2_with fail
          go_roundw
          case rel => exact ⟨q + 1, t, by omega, by go_num, rfl, rfl, HZ.out, HBx.out⟩
          case measure => simp [intOf]; omega
    · obtain rfl : q = r.length := by omega
      rw [List.take_length] at HSn
      have hqi : decide ((r.length : Int) < (r.length : Int)) = false := by simp
      go_wp2_with fail
      go_ret2
      exact ⟨s, rfl, HSn.out, BW0.out.trans (HB.out.mono BW0.out.size)⟩
end Go.Proofs.YtcjnchjmpkapmaaGreat
/- Reference 34: Stands. -/
namespace Go.Proofs.YtcjnchjmpkapmaaGreat
open Go.ChangeShapes Go.WideShapes Go.ChangeAt Go.RowKit
set_option linter.unusedVariables false
set_option linter.unusedSimpArgs false
set_option maxRecDepth 100000

theorem ref34_Stands (w : World) (k l : Int) (A B : Option Addr) (ca cb : Nat) (r m : List Nd) (hS : Sl w w.heap.size encN A r) (hSb : Sl w w.heap.size encN B m) (hI : ints r) (hr : ∀ x ∈ r, 1 ≤ x.2) (hm : ∀ x ∈ m, 1 ≤ x.2) (h1 : sumR r ≤ 72057594037927935) (h2 : sumR m ≤ 72057594037927935) (hp : ∀ x ∈ r, 1 ≤ x.1) (hlen : r.length ≤ 67108864) (ht : (totalOf r).1 = sumR r) :
    Calls Tryz.prog 66 #[.agg #[.int .i64 k, .int .i64 l, .slice A r.length ca], bagV l B m.length cb] w fun e w' => ∃ a : Int × Int, e = .returned (.bool (decide (sumR r = sumR m) && decide (a.1 = 0))) ∧ Seen (mrN l r m) (upOf r) a ∧ Below w.heap.size w w' := by
  have HC := Lib.hid (fun W h h' => ref34_Culprit W k l A B ca cb r m h h' hI hr hm h1 h2 hp hlen)
  have HW := Lib.hid (fun W h => ref13_Weight W k l A ca r h hI (by simp only [maxLen]; omega))
  rw [ht] at HW
  have HT := Lib.hid (fun W h => ref10_Total W l B cb m h hm h2)
  have X0 : Hid (((w.alloc (.cells #[.int .i64 k, .int .i64 l, .slice A r.length ca] 63)).alloc (.cells #[.int .i64 l, .slice B m.length cb] 31)).heap[w.heap.size]? = some (.cells #[.int .i64 k, .int .i64 l, .slice A r.length ca] 63 (0, 0))) := Lib.hid ((heap_new_lt _ _ _ (by simp)).trans (heap_alloc_new w _))
  have X1 : Hid (((w.alloc (.cells #[.int .i64 k, .int .i64 l, .slice A r.length ca] 63)).alloc (.cells #[.int .i64 l, .slice B m.length cb] 31)).heap[w.heap.size + 1]? = some (.cells #[.int .i64 l, .slice B m.length cb] 31 (0, 0))) := Lib.hid (heap_new_at (w.alloc _) _ _ (by simp))
  have BW0 : Hid (Below w.heap.size w ((w.alloc (.cells #[.int .i64 k, .int .i64 l, .slice A r.length ca] 63)).alloc (.cells #[.int .i64 l, .slice B m.length cb] 31))) := Lib.hid (by repeat (first | with_reducible exact Below.refl _ _ | with_reducible assumption | ((with_reducible refine Below.setCell ?_ ?_ _); rotate_left; · (first | omega | exact Nat.le_refl _ | (simp <;> omega))) | (with_reducible refine Below.allocW ?_ _) | (with_reducible refine Below.drew ?_) | (with_reducible refine Below.extW ?_ _)))
  have HS := Lib.hid (And.intro hS hSb)
  unfold bagV at HC HT ⊢
  clear hS hSb hI hr hm h1 h2 hp ht
  generalize sumR r = n1 at HW ⊢
  generalize sumR m = n2 at HT ⊢
  go_enter Tryz.func66, Tryz.ntmps66
  go_upto_region 1 with fail
  generalize (w.alloc (.cells #[.int .i64 k, .int .i64 l, .slice A r.length ca] 63)).alloc (.cells #[.int .i64 l, .slice B m.length cb] 31) = W0 at X0 X1 BW0 ⊢
  have c0 := blk_cell X0.out
  have z0 := lt_of_block X0.out
  have c1 := blk_cell X1.out
  have z1 := lt_of_block X1.out
  have S1 := Lib.hid (HS.out.1.keep (B' := W0.heap.size) BW0.out.size fun p hp => BW0.out.cell hp)
  have S2 := Lib.hid (HS.out.2.keep (B' := W0.heap.size) BW0.out.size fun p hp => BW0.out.cell hp)
  go_wp2_with fail
  refine (HC.out _ S1.out S2.out).mono ?_
  rintro e w1 ⟨a, rfl, hSn, hb1⟩
  have HSn := Lib.hid hSn
  have Y0 := blk_below X0.out hb1
  have Y1 := blk_below X1.out hb1
  have B1 := Lib.hid (Below.then_ BW0.out hb1)
  have hB1 := B1.out
  clear c0 z0 c1 z1 S1 S2 hSn hb1 X0 X1
  have c0 := blk_cell Y0
  have z0 := lt_of_block Y0
  have c1 := blk_cell Y1
  have z1 := lt_of_block Y1
  have S1 := Lib.hid (HS.out.1.keep (B' := w1.heap.size) B1.out.size fun p hp => B1.out.cell hp)
  have S2 := Lib.hid (HS.out.2.keep (B' := w1.heap.size) B1.out.size fun p hp => B1.out.cell hp)
  clear Y0 Y1
  obtain ⟨a1, a2⟩ := a
  simp only
  by_cases he : n1 = n2
  · subst he
    go_wp2_with fail
    refine wp_region_ext (by kernel_rfl) (by kernel_rfl) ?_
    repeat (go_big_quiet_step (first
      | (go_at_call 63; exact quiet_ext (HW.out _ (S1.out.keep (ext_below _ _).size fun p hp => (ext_below _ _).cell hp)))
      | (go_at_call 33; exact quiet_ext (HT.out _ (S2.out.keep (ext_below _ _).size fun p hp => (ext_below _ _).cell hp)))))
    refine wpQuiet_nil ?_
    intro w2 hb2
    replace hb2 := below_of_ext hb2
    have B2 : Below w.heap.size w w2 := Below.then_ (by repeat (first | with_reducible exact Below.refl _ _ | with_reducible assumption | ((with_reducible refine Below.setCell ?_ ?_ _); rotate_left; · (first | omega | exact Nat.le_refl _ | (simp <;> omega))) | (with_reducible refine Below.allocW ?_ _) | (with_reducible refine Below.drew ?_) | (with_reducible refine Below.extW ?_ _))) hb2
    have s2 : w.heap.size ≤ w2.heap.size := B2.size
    have z2_0 : w.heap.size < w2.heap.size := by have := hb2.size; (try simp at this); omega
    have y2_0 : w.heap.size ≤ w2.heap.size := Nat.le_of_lt z2_0
    have c2_0 := fun o => hb2.cell (p := ⟨w.heap.size, o, none⟩) (by first | omega | (simp <;> omega))
    have f2_0 := fun o => hb2.frozen (p := ⟨w.heap.size, o, none⟩) (by first | omega | (simp <;> omega))
    go_wp2_with fail
    first | exact bodyPost_ret (v := .bool (a1 == 0)) (by simp only [results, Tryz.results66]; go_simp) rfl ⟨a1, a2, by simp [BEq.beq], HSn.out, (by repeat (first | with_reducible exact Below.refl _ _ | with_reducible assumption | ((with_reducible refine Below.setCell ?_ ?_ _); rotate_left; · (first | omega | exact Nat.le_refl _ | (simp <;> omega))) | (with_reducible refine Below.allocW ?_ _) | (with_reducible refine Below.drew ?_) | (with_reducible refine Below.extW ?_ _)))⟩ | exact bodyPost_ret (v := .bool (a1 == 0)) (by simp only [results, Tryz.results66]; go_simp) rfl ⟨a1, by first | rfl | simp [BEq.beq], a2, HSn.out, (by repeat (first | with_reducible exact Below.refl _ _ | with_reducible assumption | ((with_reducible refine Below.setCell ?_ ?_ _); rotate_left; · (first | omega | exact Nat.le_refl _ | (simp <;> omega))) | (with_reducible refine Below.allocW ?_ _) | (with_reducible refine Below.drew ?_) | (with_reducible refine Below.extW ?_ _)))⟩ | trace_state
  · have he' : (n1 == n2) = false := by simpa using he
    go_wp2_with fail
    refine wp_region_ext (by kernel_rfl) (by kernel_rfl) ?_
    repeat (go_big_quiet_step (first
      | (go_at_call 63; exact quiet_ext (HW.out _ (S1.out.keep (ext_below _ _).size fun p hp => (ext_below _ _).cell hp)))
      | (go_at_call 33; exact quiet_ext (HT.out _ (S2.out.keep (ext_below _ _).size fun p hp => (ext_below _ _).cell hp)))))
    refine wpQuiet_nil ?_
    intro w2 hb2
    replace hb2 := below_of_ext hb2
    have B2 : Below w.heap.size w w2 := Below.then_ (by repeat (first | with_reducible exact Below.refl _ _ | with_reducible assumption | ((with_reducible refine Below.setCell ?_ ?_ _); rotate_left; · (first | omega | exact Nat.le_refl _ | (simp <;> omega))) | (with_reducible refine Below.allocW ?_ _) | (with_reducible refine Below.drew ?_) | (with_reducible refine Below.extW ?_ _))) hb2
    have s2 : w.heap.size ≤ w2.heap.size := B2.size
    have z2_0 : w.heap.size < w2.heap.size := by have := hb2.size; (try simp at this); omega
    have y2_0 : w.heap.size ≤ w2.heap.size := Nat.le_of_lt z2_0
    have c2_0 := fun o => hb2.cell (p := ⟨w.heap.size, o, none⟩) (by first | omega | (simp <;> omega))
    have f2_0 := fun o => hb2.frozen (p := ⟨w.heap.size, o, none⟩) (by first | omega | (simp <;> omega))
    go_wp2_with fail
    exact bodyPost_ret (v := .bool false) (by simp only [results, Tryz.results66]; go_simp) rfl ⟨(a1, a2), by simp [he], HSn.out, (by repeat (first | with_reducible exact Below.refl _ _ | with_reducible assumption | ((with_reducible refine Below.setCell ?_ ?_ _); rotate_left; · (first | omega | exact Nat.le_refl _ | (simp <;> omega))) | (with_reducible refine Below.allocW ?_ _) | (with_reducible refine Below.drew ?_) | (with_reducible refine Below.extW ?_ _)))⟩
end Go.Proofs.YtcjnchjmpkapmaaGreat
/- Package audit: has (a map that the call makes). -/
namespace Go.Proofs.YtcjnchjmpkapmaaGreat
open Go.ChangeShapes Go.WideShapes Go.ChangeAt Go.RowKit Go.Maps
set_option linter.unusedVariables false
set_option linter.unusedSimpArgs false
set_option maxRecDepth 100000

structure MapIs (D : DataW Unit) (f : Int → Int) (C : Int → Prop) : Prop where
  map : IsMap D
  at_ : ∀ z, D.atKey (.int .i64 z) (.lit (.int .i64 0)) = .lit (.int .i64 (f z))
  has : ∀ z, Go.Maps.has D (.int .i64 z) = true ↔ C z
theorem MapIs.empty : MapIs (.map []) (fun _ => 0) (fun _ => False) := ⟨isMap_empty, fun z => rfl, fun z => by simp [Go.Maps.has]⟩
theorem MapIs.put {D : DataW Unit} {f g : Int → Int} {C E : Int → Prop} (h : MapIs D f C) (i v : Int) (hg : ∀ z, g z = if z = i then v else f z) (hE : ∀ z, E z ↔ C z ∨ z = i) : MapIs (D.put (.int .i64 i) (.lit (.int .i64 v))) g E := by
  refine ⟨h.map.put _ _, fun z => ?_, fun z => ?_⟩
  · by_cases hz : z = i
    · subst hz
      rw [atKey_put_same h.map (by simp [WideAt.IsKeyLit]), hg, if_pos rfl]
    · rw [atKey_put_other (by simp [hz]), h.at_, hg, if_neg hz]
  · by_cases hz : z = i
    · subst hz
      rw [has_put_same h.map (by simp [WideAt.IsKeyLit]), hE]; simp
    · rw [has_put_other (by simp [hz]), h.has, hE]; simp [hz]
theorem MapIs.congr {D : DataW Unit} {f g : Int → Int} {C E : Int → Prop} (h : MapIs D f C) (hg : ∀ z, g z = f z) (hE : ∀ z, E z ↔ C z) : MapIs D g E :=
  ⟨h.map, fun z => by rw [hg, h.at_], fun z => by rw [hE, h.has]⟩
theorem keyI : Keyed Tryz.prog 3 := int_keyed Tryz.underlying3
theorem zeroI (w : World) : (zeroValue 3).run Tryz.prog w = .ok (.int .i64 0) w := by kernel_rfl
theorem abv_not_half {i : Int} (h : 1 ≤ i) : abv i (i / 2) = false := by
  cases hh : abv i (i / 2)
  · rfl
  · have := abv_le hh; omega
theorem ownsMap_below {w w' : World} {b n : Nat} {D : DataW Unit} {R : Value → Option (DataW Unit × List MemPlace)} (h : w.ownsMap Tryz.prog 3 R b n D) (hb : Below w.heap.size w w') : w'.ownsMap Tryz.prog 3 R b n D := by
  have hl := h.lt
  obtain ⟨es, clock, h1, h2⟩ := h
  exact ⟨es, clock, (hb.block b hl).trans h1, h2⟩
theorem own_take {r : List Nd} {q : Nat} (h : q < r.length) (z : Int) : ownN (r.take (q + 1)) z = ownN (r.take q) z + if abv z r[q].1 = true then r[q].2 else 0 := wIds_take h
set_option maxHeartbeats 4000000 in
theorem audit_has (w : World) (g K l : Nat) (k : Int) (r : List Nd) (F : Nat → Prop) (h : DigAt w g K l k r F) (hI : ints r) (hr : ∀ x ∈ r, 1 ≤ x.2) (hp : ∀ x ∈ r, 1 ≤ x.1) (hs : sumR r ≤ 72057594037927935) (hlen : r.length ≤ 65536) :
    Calls Tryz.prog 226 #[.pointer (some ⟨g, 0, none⟩)] w fun e w' => ∃ b n D, e = .returned (.map (some b)) ∧ w'.ownsMap Tryz.prog 3 (plainElem Tryz.prog 3) b n D ∧ MapIs D (ownN r) (upOf r) ∧ w.heap.size ≤ b ∧ n ≤ 4194304 ∧ Below w.heap.size w w' := by
  have hmm := @run_makeMap Tryz.prog
  have HN := Lib.hid (fun W h => digest_Nodes W g K l k r F h (by omega))
  have HD := Lib.hid h
  have HI := Lib.hid hI
  have HR := Lib.hid hr
  have HP := Lib.hid hp
  clear h hI hr hp
  go_enter Tryz.func226, Tryz.ntmps226
  go_wp2_with fail
  have M0 := Lib.hid (World.ownsMap_made w Tryz.prog 3 (plainElem (H := Unit) Tryz.prog 3))
  refine (HN.out _ (HD.out.below ((Below.refl _ _).alloc (Nat.le_refl _) _))).mono ?_
  rintro e w1 ⟨v, rfl, ho, hb1⟩
  obtain ⟨A, cap, rfl, _⟩ := ho.form
  have hz1 := hb1.size
  simp only [World.size_alloc] at hz1 ho
  have M1 := Lib.hid (ownsMap_below M0.out hb1)
  have O1 := Lib.hid ho
  have B1 : Below w.heap.size w w1 := Below.then_ (by repeat (first | with_reducible exact Below.refl _ _ | with_reducible assumption | ((with_reducible refine Below.setCell ?_ ?_ _); rotate_left; · (first | omega | exact Nat.le_refl _ | (simp <;> omega))) | (with_reducible refine Below.allocW ?_ _) | (with_reducible refine Below.drew ?_) | (with_reducible refine Below.extW ?_ _))) hb1
  clear ho hb1 M0 HN
  go_wp2_with fail
  go_loopw [11] (fun j wr => ∃ (q n : Nat) (D : DataW Unit), q ≤ r.length ∧ j = .int .i64 q ∧ wr.ownsMap Tryz.prog 3 (plainElem Tryz.prog 3) w.heap.size n D ∧ MapIs D (ownN (r.take q)) (upOf (r.take q)) ∧ n ≤ 64 * q ∧ Own wr (w.heap.size + 1) 153 encN (.slice A r.length cap) r ∧ w.heap.size + 1 ≤ wr.heap.size ∧ Below w.heap.size w wr) (fun j _ => r.length - (intOf j).toNat)
  case atStart => exact ⟨0, 0, _, Nat.zero_le _, rfl, M1.out, MapIs.empty.congr (fun z => rfl) (fun z => by simp [upOf]), by omega, O1.out, hz1, B1⟩
  case round =>
    obtain ⟨q, n, D, hq, rfl, hM, hMI, hn, hO, hz, hB⟩ := hrel
    have M := Lib.hid (And.intro hM hMI)
    have O := Lib.hid hO
    have HB := Lib.hid hB
    clear hM hMI M1 O1 B1
    by_cases hlt : q < r.length
    · have hqi : (q : Int) < (r.length : Int) := by omega
      obtain ⟨b, off, rfl, hb, hc⟩ := hO.sl.at_ hlt
      have d0 := hc 1 (.int .i64 r[q].2) rfl
      have d1 := hc 0 (.int .i64 r[q].1) rfl
      simp only [Nat.add_zero] at d1
      have hx := HP.out _ (List.getElem_mem hlt)
      have hx2 := (HI.out _ (List.getElem_mem hlt)).1.2
      have hc1 := HR.out _ (List.getElem_mem hlt)
      have HT := Lib.hid (fun z => own_take hlt z)
      have HU := Lib.hid (upOf_take hlt)
      have HS : Hid (∀ z, 0 ≤ ownN (r.take (q + 1)) z ∧ ownN (r.take (q + 1)) z ≤ 72057594037927935) := Lib.hid fun z => by
        refine ⟨wIds_0 fun y hy => by have := HR.out y (List.mem_of_mem_take hy); omega, ?_⟩
        have := wIds_sum (p := fun y => abv z y) (r := r.take (q + 1)) fun y hy => by have := HR.out y (List.mem_of_mem_take hy); omega
        have := (sumV_take_le HR.out (q + 1)).2
        unfold ownN; omega
      obtain ⟨x, hx0⟩ : ∃ x, x = r[q].1 := ⟨_, rfl⟩
      obtain ⟨c, hc0⟩ : ∃ c, c = r[q].2 := ⟨_, rfl⟩
      rw [← hx0] at d1 hx hx2 HU
      rw [← hc0] at d0 hc1
      have HT : Hid (∀ z, ownN (r.take (q + 1)) z = ownN (r.take q) z + if abv z x = true then c else 0) := Lib.hid fun z => by rw [HT.out, hx0, hc0]
      clear hc hO hx0 hc0
      have NX := heap_alloc_new wr (.cells #[.int .i64 x, .int .i64 c] 153)
      have ON := Lib.hid (O.out.alloc (.cells #[.int .i64 x, .int .i64 c] 153))
      have MN := Lib.hid (ownsMap_below M.out.1 ((Below.refl _ _).alloc (Nat.le_refl _) (.cells #[.int .i64 x, .int .i64 c] 153)))
      have BN := Lib.hid (show Below w.heap.size w (wr.alloc (.cells #[.int .i64 x, .int .i64 c] 153)) from (by repeat (first | with_reducible exact Below.refl _ _ | with_reducible assumption | ((with_reducible refine Below.setCell ?_ ?_ _); rotate_left; · (first | omega | exact Nat.le_refl _ | (simp <;> omega))) | (with_reducible refine Below.allocW ?_ _) | (with_reducible refine Below.drew ?_) | (with_reducible refine Below.extW ?_ _))))
      obtain ⟨xb, hxb⟩ : ∃ xb, xb = wr.heap.size := ⟨_, rfl⟩
      have NX := Lib.hid (hxb ▸ NX)
      have hxz : w.heap.size < xb := by omega
      go_upto_region 5 with fail
      rw [← hxb]
      generalize wr.alloc (.cells #[.int .i64 x, .int .i64 c] 153) = W1 at NX ON MN BN ⊢
      have nx := blk_cell NX.out
      have nz := lt_of_block NX.out
      clear hB hz hxb d0 d1 hb
      go_wp2_with fail
      go_loopw [6] (fun j wr => ∃ (i : Int) (n d : Nat) (D : DataW Unit) (f : Int → Int) (C : Int → Prop), j = .int .i64 i ∧ 0 ≤ i ∧ i < 2 ^ d ∧ n + d ≤ 64 * (q + 1) ∧ d ≤ 63 ∧ wr.ownsMap Tryz.prog 3 (plainElem Tryz.prog 3) w.heap.size n D ∧ MapIs D f C ∧ ((∀ z, f z + (if abv z i = true then c else 0) = ownN (r.take (q + 1)) z) ∧ ∀ z, upOf (r.take (q + 1)) z ↔ C z ∨ abv z i = true) ∧ Own wr (w.heap.size + 1) 153 encN (.slice (some ⟨b, off, none⟩) r.length cap) r ∧ wr.heap[xb]? = some (.cells #[.int .i64 x, .int .i64 c] 153 (0, 0)) ∧ w.heap.size + 1 ≤ wr.heap.size ∧ Below w.heap.size w wr) (fun j _ => (intOf j).toNat)
      case atStart => exact ⟨x, n, 63, D, _, _, rfl, by omega, by omega, by omega, by omega, MN.out, M.out.2, ⟨fun z => (HT.out z).symm, HU.out⟩, ON.out, NX.out, by omega, BN.out⟩
      case round =>
        obtain ⟨i, n1, d, D1, f, C, rfl, hi0, hid, hnd, hd, hM, hMI, hfC, hO, hX, hz, hB⟩ := hrel
        have HM := Lib.hid (And.intro hM hMI)
        have HF := Lib.hid hfC
        have HO := Lib.hid hO
        have HX := Lib.hid hX
        have HB := Lib.hid hB
        have k0 := blk_cell hX
        have z0 := lt_of_block hX
        have hp63 : (2 : Int) ^ d ≤ 2 ^ 63 := by
          have : (2 : Nat) ^ d ≤ 2 ^ 63 := Nat.pow_le_pow_right (by decide) hd
          exact_mod_cast this
        have hi63 : i < 9223372036854775808 := by omega
        clear hMI hfC hO hX hp63 nx nz
        by_cases hi1 : 1 ≤ i
        · have hd1 : 1 ≤ d := by
            rcases Nat.eq_zero_or_pos d with rfl | h
            · simp at hid; omega
            · exact h
          have hid2 : i / 2 < 2 ^ (d - 1) := by
            obtain ⟨e, rfl⟩ : ∃ e, d = e + 1 := ⟨d - 1, by omega⟩
            rw [Int.pow_succ] at hid
            simp only [Nat.add_sub_cancel]; omega
          have hkey : keyOf Tryz.prog 3 (.int .i64 i) = some (.int .i64 i) := keyOf_int_mk Tryz.underlying3 (WalkArith.wf_i64 (by omega))
          have hD : ∀ z, abv z i = true ↔ z = i ∨ abv z (i / 2) = true := fun z => by
            rw [abv_half hi1]
            exact ⟨fun h => h.elim .inl fun h => .inr h.2, fun h => h.elim .inl fun h => .inr ⟨by have := (abv_pos h).2; omega, h⟩⟩
          have fi : f i + c = ownN (r.take (q + 1)) i := by have := HF.out.1 i; rw [if_pos (abv_self hi1)] at this; exact this
          have fb := (HS.out i).2
          have fb0 := (HS.out i).1
          rw [← fi] at fb fb0
          have HNew : Hid (∀ v, v = f i + c → MapIs (D1.put (.int .i64 i) (.lit (.int .i64 v))) (fun z => if z = i then v else f z) (fun z => C z ∨ z = i)) := Lib.hid fun v _ => HM.out.2.put i v (fun z => rfl) fun z => Iff.rfl
          have HF2 : Hid ((∀ z, (if z = i then f i + c else f z) + (if abv z (i / 2) = true then c else 0) = ownN (r.take (q + 1)) z) ∧ ∀ z, upOf (r.take (q + 1)) z ↔ (C z ∨ z = i) ∨ abv z (i / 2) = true) := Lib.hid ⟨fun z => by
            by_cases hz : z = i
            · subst hz
              rw [if_pos rfl, abv_not_half hi1, if_neg (by simp), Int.add_zero, fi]
            · rw [if_neg hz, ← HF.out.1 z]
              have : abv z i = abv z (i / 2) := by rw [Bool.eq_iff_iff, hD]; simp [hz]
              rw [this], fun z => by rw [HF.out.2, hD, or_assoc]⟩
          have hat0 := HM.out.2.at_ i
          have HAT := Lib.hid hat0
          clear hD fi hat0
          go_wp2_with (first
            | (at_lookup; refine wpList_lookup_own_int _ rfl _ _ 278 rfl 3 3 .i64 keyI Tryz.underlying278 Tryz.underlying3 (zeroI _) w.heap.size n1 _ rfl HM.out.1 _ _ rfl hkey ?_; intro cv hat hwc; obtain rfl : cv = f i := (by have h9 := hat.symm.trans HAT.out; simpa using h9); clear hat hwc)
            | (at_mapUpdate; refine wpList_mapUpdate_own _ rfl _ _ _ 278 rfl 3 3 keyI Tryz.underlying278 _ w.heap.size n1 _ rfl HM.out.1 (by unfold maxLen; omega) _ _ _ rfl rfl hkey _ [] (plainElem_int Tryz.underlying3 (WalkArith.wf_i64 (by omega))) ?_; intro w2 hown2 hgrow2)
            | go_in)
          go_roundw
          case rel => exact ⟨i / 2, n1 + 1, d - 1, _, _, _, rfl, by omega, hid2, by omega, by omega, hown2, HNew.out _ rfl, HF2.out, HO.out.kept hgrow2 (.inr fun e => by have := (HO.out.lt _ e).1; omega), blk_grown_not HX.out hgrow2 (by simp; omega), Nat.le_trans hz hgrow2.size, HB.out.grown hgrow2 HB.out.size fun j hj => by cases hj; exact Nat.le_refl _⟩
          case measure => simp [intOf]; omega
        · have hi1' : decide (1 ≤ i) = false := by simpa using hi1
          have HZ : Hid (MapIs D1 (ownN (r.take (q + 1))) (upOf (r.take (q + 1)))) := Lib.hid (HM.out.2.congr (fun z => by
            have := HF.out.1 z
            rw [if_neg (fun h => by have := (abv_pos h).2; omega), Int.add_zero] at this
            exact this.symm) fun z => by
            rw [HF.out.2]
            exact ⟨fun h => h.elim id fun h => by have := (abv_pos h).2; omega, .inl⟩)
          go_wp2_with fail
          go_roundw
          case rel => exact ⟨q + 1, n1, D1, by omega, by go_num, HM.out.1, HZ.out, by omega, HO.out, hz, HB.out⟩
          case measure => simp [intOf]; omega
    · obtain rfl : q = r.length := by omega
      rw [List.take_length] at M
      have hqi : decide ((r.length : Int) < (r.length : Int)) = false := by simp
      go_wp2_with fail
      go_ret
      exact ⟨w.heap.size, n, D, rfl, M.out.1, M.out.2, Nat.le_refl _, by omega, HB.out⟩
end Go.Proofs.YtcjnchjmpkapmaaGreat
/- Chapter 10: Made. -/
namespace Go.Proofs.YtcjnchjmpkapmaaGreat
open Go.ChangeShapes Go.WideShapes Go.ChangeAt Go.RowKit
set_option linter.unusedVariables false
set_option linter.unusedSimpArgs false
set_option maxRecDepth 100000

theorem BagS.setCellB {w : World} {base g : Nat} {l s : Int} {m : List Nd} (h : BagS w base g l s m) {p : Addr} (hp : p.block < base) (u : Value) : BagS (w.setCell p u) base g l s m := by
  obtain ⟨v, hh, hg, ho⟩ := h
  exact ⟨v, (Below.heap_setCell _ _ _ _ (by omega)).trans hh, hg, ho.setCellB hp⟩
set_option maxHeartbeats 4000000 in
theorem law10_Made (w : World) (l : Nat) (A : Option Addr) (cap : Nat) (r : List Nd) (hl : 1 ≤ l ∧ l ≤ 48) (hS : Sl w w.heap.size encN A r) (hI : ints r) (hlen : r.length ≤ 65536) :
    Calls Tryz.prog 68 #[.int .i64 l, .slice A r.length cap] w fun e w' => ∃ g A' cap', e = .returned (.tuple #[.pointer (some ⟨g, 0, none⟩), bagV l A' (madeB l r).length cap']) ∧ BagAt w' w.heap.size g l (madeB l r) ∧ SlT w' 96 encN A' (madeB l r) ∧ Below w.heap.size w w' := by
  have HN := Lib.hid (fun W => bag_New W l (by omega) (by omega))
  have HO := Lib.hid (fun W h => ref10_Of W l A cap r hl h hI hlen)
  have HS := Lib.hid hS
  have HI := Lib.hid hI
  have BW0 : Hid (Below w.heap.size w (w.alloc (.cells #[.int .i64 0, .slice none 0 0] 31))) := Lib.hid (by repeat (first | with_reducible exact Below.refl _ _ | with_reducible assumption | ((with_reducible refine Below.setCell ?_ ?_ _); rotate_left; · (first | omega | exact Nat.le_refl _ | (simp <;> omega))) | (with_reducible refine Below.allocW ?_ _) | (with_reducible refine Below.drew ?_) | (with_reducible refine Below.extW ?_ _)))
  have X0 : Hid ((w.alloc (.cells #[.int .i64 0, .slice none 0 0] 31)).heap[w.heap.size]? = some (.cells #[.int .i64 0, .slice none 0 0] 31 (0, 0))) := Lib.hid (heap_alloc_new w _)
  have Z0 : Hid ((w.alloc (.cells #[.int .i64 0, .slice none 0 0] 31)).heap.size = w.heap.size + 1) := Lib.hid (by simp)
  unfold bagV at HO ⊢
  clear hS hI
  go_enter Tryz.func68, Tryz.ntmps68
  go_upto_region 1 with fail
  generalize w.alloc (.cells #[.int .i64 0, .slice none 0 0] 31) = W0 at X0 BW0 Z0 ⊢
  go_wp2_with fail
  refine (HN.out _).mono ?_
  rintro e w1 ⟨rfl, hB1, hb1⟩
  have Y1 := Lib.hid (blk_below X0.out hb1)
  have z1 := hb1.size
  obtain ⟨g, hg⟩ : ∃ g, g = W0.heap.size := ⟨_, rfl⟩
  have B1 := Lib.hid (And.intro (show BagAt w1 W0.heap.size g l [] by rw [hg]; exact hB1) hb1)
  have G := Lib.hid (And.intro hg Z0.out)
  rw [show (Value.tuple #[.pointer (some ⟨W0.heap.size, 0, none⟩), .int .i64 0]) = .tuple #[.pointer (some ⟨g, 0, none⟩), .int .i64 0] by rw [hg]]
  clear hB1 hb1 hg
  have rl : (r.length : Int) ≤ 65536 := by omega
  go_wp2_with fail
  go_loopw [24] (fun j wr => ∃ q : Nat, q ≤ r.length ∧ j = .int .i64 q ∧ BagAt wr W0.heap.size g l (madeB l (r.take q)) ∧ Below W0.heap.size W0 wr) (fun j _ => r.length - (intOf j).toNat)
  case atStart => exact ⟨0, Nat.zero_le _, rfl, B1.out.1, B1.out.2⟩
  case round =>
    obtain ⟨q, hq, rfl, hA, hB⟩ := hrel
    have HA := Lib.hid hA
    have HB := Lib.hid hB
    have hz := hB.size
    have hBw := Lib.hid (BW0.out.trans (hB.mono BW0.out.size))
    clear hA
    by_cases hlt : q < r.length
    · have hqi : (q : Int) < (r.length : Int) := by omega
      have HE := Lib.hid (madeB_snoc (l := l) hlt)
      obtain ⟨b, off, rfl, hb, hc2⟩ := HS.out.at_ hlt
      have d0 := (hBw.out.cell (p := ⟨b, off + q * 2 + 1, none⟩) hb).trans (hc2 1 (.int .i64 r[q].2) rfl)
      have d1 := (hBw.out.cell (p := ⟨b, off + q * 2, none⟩) hb).trans (by have := hc2 0 (.int .i64 r[q].1) rfl; simpa using this)
      have lb : b < wr.heap.size := Nat.lt_of_lt_of_le hb hBw.out.size
      have hi := HI.out _ (List.getElem_mem hlt)
      have hml : (madeB l (r.take q)).length ≤ 65536 := by have := madeB_len l (r.take q); simp at this; omega
      have HAdd := Lib.hid (fun W h hb => bag_Add W W0.heap.size g l (madeB l (r.take q)) r[q].1 r[q].2 hl h (madeB_bag l _) hi.2.2 hml hb)
      generalize r[q].1 = u at d1 HE HAdd
      generalize r[q].2 = v at d0 HE HAdd
      clear hc2 hi hB
      go_wp2_with fail
      refine (HAdd.out _ (HA.out.below ((Below.refl _ _).alloc (Nat.le_refl _) _)) (by simp; omega)).mono ?_
      rintro e w2 ⟨rfl, hB2, hb2⟩
      have B2 := Lib.hid (And.intro hB2 ((HB.out.alloc (by omega) _).trans hb2))
      clear hB2 hb2
      go_wp2_with fail
      go_roundw
      case rel => exact ⟨q + 1, by omega, by go_num, by rw [HE.out]; exact B2.out.1, B2.out.2⟩
      case measure => simp [intOf]; omega
    · obtain rfl : q = r.length := by omega
      rw [List.take_length] at HA
      have hqi : decide ((r.length : Int) < (r.length : Int)) = false := by simp
      have S1 := Lib.hid (HS.out.keep (B' := wr.heap.size) hBw.out.size fun p hp => hBw.out.cell hp)
      have Y := blk_below X0.out hB
      have HY := Lib.hid Y
      clear Y hB
      go_wp2_with fail
      refine (HO.out _ S1.out).mono ?_
      rintro e w2 ⟨A2, c2, rfl, hS2, hb2⟩
      have Y2 := blk_below HY.out hb2
      have k2 := blk_cell Y2
      have f2 := blk_frozen Y2
      have z2 := lt_of_block Y2
      have T2 : TypeAt w2 w.heap.size 31 := TypeAt.of Y2
      have HA2 := Lib.hid (HA.out.below hb2)
      have B2 := Lib.hid (Below.then_ hBw.out hb2)
      have S2 := Lib.hid hS2
      clear Y2 hS2 hb2
      go_wp2_with fail
      exact bodyPost_ret (v := .tuple #[.pointer (some ⟨g, 0, none⟩), .agg #[.int .i64 l, .slice A2 (madeB l r).length c2]]) (by simp only [results, Tryz.results68]; go_simp) rfl ⟨g, A2, c2, rfl, ((HA2.out.setCellB (p := ⟨w.heap.size, 0, none⟩) (by have := G.out; simp only; omega) (.int .i64 l)).setCellB (p := ⟨w.heap.size, 1, none⟩) (by have := G.out; simp only; omega) _).mono (by have := G.out; omega), (S2.out.setCellT (p := ⟨w.heap.size, 0, none⟩) (u := .int .i64 l) T2 (by decide)).setCellT (p := ⟨w.heap.size, 1, none⟩) T2.setCell (by decide), Below.setCell (p := ⟨w.heap.size, 1, none⟩) (Below.setCell (p := ⟨w.heap.size, 0, none⟩) B2.out (by simp) _) (by simp) _⟩
end Go.Proofs.YtcjnchjmpkapmaaGreat
/- Package audit: wrong. -/
namespace Go.Proofs.YtcjnchjmpkapmaaGreat
open Go.ChangeShapes Go.WideShapes Go.ChangeAt Go.RowKit
set_option linter.unusedVariables false
set_option linter.unusedSimpArgs false
set_option maxRecDepth 100000

theorem audit_wrong (w : World) (g K l : Nat) (k : Int) (r : List Nd) (F : Nat → Prop) (base gb lb : Nat) (m : List Nd) (h : DigAt w g K l k r F) (hb : BagAt w base gb lb m) :
    Calls Tryz.prog 225 #[.pointer (some ⟨g, 0, none⟩), .pointer (some ⟨gb, 0, none⟩)] w fun e w' => e = .returned (.int .i64 (if l = lb then 0 else 6)) ∧ Below w.heap.size w w' := by
  have HC := Lib.hid (fun W h => digest_Conf W g K l k r F h)
  have HL := Lib.hid (fun W h => bag_L W base gb lb m h)
  have HD := Lib.hid h
  have HB := Lib.hid hb
  clear h hb
  by_cases he : l = lb
  · subst he
    rw [if_pos rfl]
    go_enter Tryz.func225, Tryz.ntmps225
    go_wp2_with fail
    refine (HC.out _ HD.out).mono ?_
    rintro e w1 ⟨rfl, hb1⟩
    go_wp2_with fail
    refine (HL.out _ (HB.out.below hb1)).mono ?_
    rintro e w2 ⟨rfl, hb2⟩
    go_wp2_with fail
    go_ret
    exact ⟨rfl, Below.then_ hb1 hb2⟩
  · rw [if_neg he]
    have he' : ((l : Int) == (lb : Int)) = false := by simp; omega
    have he2 : (l == lb) = false := by simpa using he
    go_enter Tryz.func225, Tryz.ntmps225
    go_wp2_with fail
    refine (HC.out _ HD.out).mono ?_
    rintro e w1 ⟨rfl, hb1⟩
    go_wp2_with fail
    refine (HL.out _ (HB.out.below hb1)).mono ?_
    rintro e w2 ⟨rfl, hb2⟩
    go_wp2_with fail
    go_ret
    exact ⟨rfl, Below.then_ hb1 hb2⟩
end Go.Proofs.YtcjnchjmpkapmaaGreat
/- Package audit: Culprit. (KeysC: what slices.Sorted(maps.Keys(m)) gives: to be proved by the kit's SlIterI.) -/
namespace Go.Proofs.YtcjnchjmpkapmaaGreat
open Go.ChangeShapes Go.WideShapes Go.ChangeAt Go.RowKit Go.Maps
set_option linter.unusedVariables false
set_option linter.unusedSimpArgs false
set_option maxRecDepth 100000

def KeysC : Prop := ∀ (w : World) (b n : Nat) (D : DataW Unit), w.ownsMap Tryz.prog 3 (plainElem Tryz.prog 3) b n D → n ≤ 4194304 →
  Calls Tryz.prog 228 #[.map (some b)] w fun e w1 => ∃ fv, e = .returned fv ∧ Below w.heap.size w w1 ∧
    Calls Tryz.prog 227 #[fv] w1 fun e2 w2 => ∃ (A : Option Addr) (cap : Nat) (ss : List Int), e2 = .returned (.slice A ss.length cap) ∧ Sl w2 w2.heap.size encZ A ss ∧ ss.Pairwise (· ≤ ·) ∧ (∀ z, z ∈ ss ↔ Go.Maps.has D (.int .i64 z) = true) ∧ ss.length ≤ 4194304 ∧ Below w1.heap.size w1 w2
theorem upOf_pos {r : List Nd} {z : Int} (h : upOf r z) : 1 ≤ z := by obtain ⟨x, _, hz⟩ := h; exact (abv_pos hz).1
theorem upOf_le {r : List Nd} (hr : ints r) {z : Int} (h : upOf r z) : z ≤ 9223372036854775807 := by
  obtain ⟨x, hx, hz⟩ := h
  have := abv_le hz
  have := (hr x hx).1.2
  omega
set_option maxHeartbeats 4000000 in
theorem audit_Culprit (HK : KeysC) (w : World) (g K l : Nat) (k : Int) (r : List Nd) (F : Nat → Prop) (base gb : Nat) (m : List Nd) (h : DigAt w g K l k r F) (hb : BagAt w base gb l m) (hm : BagL l m) (hI : ints r) (hr : ∀ x ∈ r, 1 ≤ x.2) (hp : ∀ x ∈ r, 1 ≤ x.1) (hs : sumR r ≤ 72057594037927935) (hlen : r.length ≤ 65536) :
    Calls Tryz.prog 133 #[.pointer (some ⟨g, 0, none⟩), .pointer (some ⟨gb, 0, none⟩)] w fun e w' => ∃ a : Int × Int, e = .returned (.tuple #[.int .i64 a.1, .int .i64 a.2, .int .i64 0]) ∧ Seen (mrN l r m) (upOf r) a ∧ Below w.heap.size w w' := by
  have HW := Lib.hid (fun W h hb => audit_wrong W g K l k r F base gb l m h hb)
  simp only [if_true] at HW
  have HH := Lib.hid (fun W h => audit_has W g K l k r F h hI hr hp hs hlen)
  have HL := Lib.hid (fun W h => bag_L W base gb l m h)
  have HE := Lib.hid (fun W id hid => twig_Ends W l id hid)
  have HBt := Lib.hid (fun W x y h => bag_Between W base gb l m x y h hm)
  have HD := Lib.hid h
  have HB := Lib.hid hb
  have HUl := Lib.hid (fun z => upOf_le (z := z) hI)
  have HBd := Lib.hid (fun id => mrN_bound (l := l) hr (fun x hx => (hm.val x hx).2.2) hs hm.sum id)
  have HK := Lib.hid HK
  clear h hb hm hI hr hp hs
  go_enter Tryz.func133, Tryz.ntmps133
  go_wp2_with fail
  refine (HW.out _ HD.out HB.out).mono ?_
  rintro e w1 ⟨rfl, hb1⟩
  go_wp2_with fail
  refine (HH.out _ (HD.out.below hb1)).mono ?_
  rintro e w2 ⟨b, n, D, rfl, hM, hMI, _, hn, hb2⟩
  have M2 := Lib.hid hM
  have MI := Lib.hid hMI
  have B2 := Below.then_ hb1 hb2
  clear hM hMI hb1 hb2
  go_wp2_with fail
  refine (HK.out _ b n D M2.out hn).mono ?_
  rintro e w3 ⟨fv, rfl, hb3, hS⟩
  go_wp2_with fail
  refine hS.mono ?_
  rintro e w4 ⟨A, cap, ss, rfl, hSl, hup, hmem, hsl, hb4⟩
  have B4 := Lib.hid (Below.then_ (Below.then_ B2 hb3) hb4)
  have M4 := Lib.hid (ownsMap_below (ownsMap_below M2.out hb3) hb4)
  have S4 := Lib.hid hSl
  have HU := Lib.hid hup
  have HMm := Lib.hid (fun z => (hmem z).trans (MI.out.has z))
  clear hb3 hS hSl hup hmem hb4 B2 M2
  go_wp2_with fail
  go_loopw [27] (fun j wr => ∃ q : Nat, q ≤ ss.length ∧ j = .int .i64 q ∧ (∀ x ∈ ss.take q, mrN l r m x ≤ 0) ∧ Below w4.heap.size w4 wr) (fun j _ => ss.length - (intOf j).toNat)
  case atStart => exact ⟨0, Nat.zero_le _, rfl, by simp, Below.refl _ _⟩
  case round =>
    obtain ⟨q, hq, rfl, hle, hBr⟩ := hrel
    have HLe := Lib.hid hle
    have BR := Lib.hid hBr
    have BW := Lib.hid (B4.out.trans (hBr.mono B4.out.size))
    have DR := Lib.hid (HB.out.below BW.out)
    have MR := Lib.hid (ownsMap_below M4.out hBr)
    clear hle
    by_cases hlt : q < ss.length
    · have hqi : (q : Int) < (ss.length : Int) := by omega
      obtain ⟨bb, off, rfl, hbb, hc⟩ := S4.out.at_ hlt
      have d0 := (hBr.cell (p := ⟨bb, off + q, none⟩) hbb).trans (by have := hc 0 (.int .i64 ss[q]) rfl; simpa using this)
      have lb : bb < wr.heap.size := Nat.lt_of_lt_of_le hbb hBr.size
      have hx := (HMm.out ss[q]).1 (List.getElem_mem hlt)
      have hx1 := upOf_pos hx
      have hx2 := HUl.out _ hx
      have HF : Hid (0 < mrN l r m ss[q] → culIs (mrN l r m) ss (ss[q], mrN l r m ss[q])) := Lib.hid fun h => culIs_first HU.out hlt HLe.out h
      have HN : Hid (mrN l r m ss[q] ≤ 0 → ∀ y ∈ ss.take (q + 1), mrN l r m y ≤ 0) := Lib.hid fun h y hy => by
        rw [List.take_succ_eq_append_getElem hlt] at hy
        rcases List.mem_append.1 hy with hy | hy
        · exact HLe.out y hy
        · rw [List.mem_singleton.1 hy]; exact h
      have hkey : keyOf Tryz.prog 3 (.int .i64 ss[q]) = some (.int .i64 ss[q]) := keyOf_int_mk Tryz.underlying3 (WalkArith.wf_i64 (by omega))
      have HLk : Hid (∀ W, W.ownsMap Tryz.prog 3 (plainElem (H := Unit) Tryz.prog 3) b n D → (Instr.lookup 278 (.map (some b)) (.int .i64 ss[q]) false).run Tryz.prog W = .ok (.int .i64 (ownN r ss[q])) W) := Lib.hid fun W hW => by
        obtain ⟨c, h1, h2, _⟩ := hW.lookup_int keyI Tryz.underlying278 Tryz.underlying3 (zeroI W) hkey
        have h9 := h2.symm.trans (MI.out.at_ ss[q])
        obtain rfl : c = ownN r ss[q] := by simpa using h9
        exact h1
      have hbd := HBd.out ss[q]
      have HV : Hid (mrN l r m ss[q] = ownN r ss[q] - betwB m (endsOf l ss[q]).1 (endsOf l ss[q]).2.1) := Lib.hid rfl
      have HE2 := Lib.hid (fun W => HE.out W ss[q] hx2)
      obtain ⟨lo, hi, ok, he⟩ : ∃ lo hi ok, endsOf l ss[q] = (lo, hi, ok) := ⟨_, _, _, rfl⟩
      rw [he] at HE2 HV
      unfold endsV at HE2
      simp only at HE2 HV
      have b1 := hbd.1.1
      have b2 := hbd.1.2
      have b3 := (hbd.2 lo hi).1
      have b4 := (hbd.2 lo hi).2
      have HB2 := Lib.hid (fun W h => HBt.out W lo hi h)
      generalize betwB m lo hi = n2 at b3 b4 HB2 HV
      generalize ownN r ss[q] = n1 at b1 b2 HLk HV
      obtain ⟨v, hv⟩ : ∃ v, v = mrN l r m ss[q] := ⟨_, rfl⟩
      rw [← hv] at HF HN HV
      have vv := HV.out
      subst vv
      have HPos := Lib.hid (And.intro hx1 trivial)
      obtain ⟨x, hx0⟩ : ∃ x, x = ss[q] := ⟨_, rfl⟩
      rw [← hx0] at d0 HF HE2 HLk hx1 hx2
      clear hc hx hbd hv hx0 hkey he HV hBr
      go_wp2_with fail
      refine (HL.out _ DR.out).mono ?_
      rintro e w5 ⟨rfl, hb5⟩
      go_wp2_with fail
      refine (HE2.out _).mono ?_
      rintro e w6 ⟨rfl, hb6⟩
      have D6 := Lib.hid ((DR.out.below hb5).below hb6)
      have M6 := Lib.hid (ownsMap_below (ownsMap_below MR.out hb5) hb6)
      have B6 := Lib.hid (Below.then_ (Below.then_ BR.out hb5) hb6)
      have hlk : ∀ x', (Instr.lookup 278 (.map (some b)) (.int .i64 x) false).run Tryz.prog (ext w6 x') = .ok (.int .i64 n1) (ext w6 x') := fun x' => HLk.out _ (ownsMap_below M6.out (ext_below _ _))
      clear hb5 hb6
      go_wp2_with fail
      refine wp_region_ext (by kernel_rfl) (by kernel_rfl) ?_
      repeat (go_big_quiet_step ((go_at_call 230; exact quiet_ext (HB2.out _ (D6.out.below (ext_below _ _))))))
      refine wpQuiet_nil ?_
      intro w7 h7
      have B7 := Lib.hid (Below.then_ B6.out (below_of_ext h7))
      have BW7 := Lib.hid (B4.out.trans (B7.out.mono B4.out.size))
      clear h7 hlk
      by_cases hv : 0 < n1 - n2
      · have HF2 := HF.out hv
        go_wp2_with fail
        go_ret3
        exact ⟨(x, n1 - n2), rfl, ⟨ss, HMm.out, HF2, fun z hz => upOf_pos ((HMm.out z).1 hz)⟩, BW7.out⟩
      · have HN2 := Lib.hid (HN.out (by omega))
        have hv' : decide (0 < n1 - n2) = false := by simpa using hv
        go_wp2_with fail
        go_roundw
        case rel => exact ⟨q + 1, by omega, by go_num, HN2.out, B7.out⟩
        case measure => simp [intOf]; omega
    · obtain rfl : q = ss.length := by omega
      rw [List.take_length] at HLe
      have hqi : decide ((ss.length : Int) < (ss.length : Int)) = false := by simp
      go_wp2_with fail
      go_ret3
      exact ⟨(0, 0), rfl, ⟨ss, HMm.out, culIs_none HLe.out, fun z hz => upOf_pos ((HMm.out z).1 hz)⟩, BW.out⟩
end Go.Proofs.YtcjnchjmpkapmaaGreat
/- Package audit: Stands, and what cannot be held against one another. -/
namespace Go.Proofs.YtcjnchjmpkapmaaGreat
open Go.ChangeShapes Go.WideShapes Go.ChangeAt Go.RowKit Go.Maps
set_option linter.unusedVariables false
set_option linter.unusedSimpArgs false
set_option maxRecDepth 100000

theorem audit_Stands (HK : KeysC) (w : World) (g K l : Nat) (k : Int) (r : List Nd) (F : Nat → Prop) (base gb : Nat) (m : List Nd) (h : DigAt w g K l k r F) (hb : BagAt w base gb l m) (hm : BagL l m) (hI : ints r) (hr : ∀ x ∈ r, 1 ≤ x.2) (hp : ∀ x ∈ r, 1 ≤ x.1) (hs : sumR r ≤ 72057594037927935) (hlen : r.length ≤ 65536) :
    Calls Tryz.prog 70 #[.pointer (some ⟨g, 0, none⟩), .pointer (some ⟨gb, 0, none⟩)] w fun e w' => ∃ a : Int × Int, e = .returned (.tuple #[.bool (decide (sumR r = sumR m) && decide (a.1 = 0)), .int .i64 0]) ∧ Seen (mrN l r m) (upOf r) a ∧ Below w.heap.size w w' := by
  have HC := Lib.hid (fun W h hb => audit_Culprit HK W g K l k r F base gb m h hb hm hI hr hp hs hlen)
  have HN := Lib.hid (fun W h => digest_N W g K l k r F h)
  have HT := Lib.hid (fun W h => bag_Total W base gb l m h)
  have HD := Lib.hid h
  have HB := Lib.hid hb
  clear h hb hm hI hr hp hs HK
  generalize hn1 : sumR r = n1 at HN ⊢
  generalize hn2 : sumR m = n2 at HT ⊢
  go_enter Tryz.func70, Tryz.ntmps70
  go_wp2_with fail
  refine (HC.out _ HD.out HB.out).mono ?_
  rintro e w1 ⟨⟨a1, a2⟩, rfl, hSn, hb1⟩
  have HSn := Lib.hid hSn
  have B1 := Lib.hid hb1
  clear hSn
  simp only
  by_cases h0 : a1 = 0
  · subst h0
    go_wp2_with fail
    refine (HN.out _ (HD.out.below B1.out)).mono ?_
    rintro e w2 ⟨rfl, hb2⟩
    go_wp2_with fail
    refine (HT.out _ ((HB.out.below B1.out).below hb2)).mono ?_
    rintro e w3 ⟨rfl, hb3⟩
    have B3 := Lib.hid (Below.then_ (Below.then_ B1.out hb2) hb3)
    go_wp2_with fail
    go_ret2
    first | exact ⟨0, a2, by simp [BEq.beq], HSn.out, B3.out⟩ | exact ⟨(0, a2), by simp [BEq.beq], HSn.out, B3.out⟩ | trace_state
  · have h0' : (a1 == 0) = false := by simpa using h0
    go_wp2_with fail
    go_ret2
    first | exact ⟨a1, a2, by simp [h0], HSn.out, B1.out⟩ | exact ⟨(a1, a2), by simp [h0], HSn.out, B1.out⟩ | trace_state
end Go.Proofs.YtcjnchjmpkapmaaGreat
/- Package bag: Items. -/
namespace Go.Proofs.YtcjnchjmpkapmaaGreat
open Go.ChangeShapes Go.WideShapes Go.ChangeAt Go.RowKit
set_option linter.unusedVariables false
set_option linter.unusedSimpArgs false
set_option maxRecDepth 100000

@[go_sem] theorem run_eqRd_nil (w : World) (A : Option Addr) (n c : Nat) : (binOp .eql 29 (.slice A n c) (.slice none 0 0)).run Tryz.prog w = .ok (.bool A.isNone) w := Lib.run_eql_slice_nil w _ _ A n c 0 0 Tryz.underlying29
theorem clone_Rd (w : World) (A : Option Addr) (cap : Nat) (l : List Nd) (hS : Sl w w.heap.size encN A l) (hn : l.length ≤ 67108864) :
    Calls Tryz.prog 295 #[.slice A l.length cap] w (OwnPost 96 encN l w) := by
  rcases A with _ | a
  · have h0 : l = [] := by
      rcases hS with h | ⟨b, off, hA, _⟩
      · exact h
      · cases hA
    subst h0
    go_enter Tryz.func295, Tryz.ntmps295
    go_wp2_with fail
    go_ret
    exact ⟨_, rfl, Own.nil _ _ _ _, (by repeat (first | with_reducible exact Below.refl _ _ | with_reducible assumption | ((with_reducible refine Below.setCell ?_ ?_ _); rotate_left; · (first | omega | exact Nat.le_refl _ | (simp <;> omega))) | (with_reducible refine Below.allocW ?_ _) | (with_reducible refine Below.drew ?_) | (with_reducible refine Below.extW ?_ _)))⟩
  · have HS := Lib.hid hS
    clear hS
    go_enter Tryz.func295, Tryz.ntmps295
    go_wp2_with ((at_builtin; refine wpList_app tyRd2 rfl _ _ rfl encN w.heap.size (.slice (some ⟨w.heap.size, 0, none⟩) 0 0) [] rfl ?ho (some a) cap l w.heap.size rfl ?hs ?c1 ?c2 ?c3 ?c4))
    case ho => exact .inr ⟨w.heap.size, 0, 0, #[], rfl, Nat.le_refl _, heap_alloc_new w _, Nat.le_refl _, by simp, by simp, fun j u hj => by simp at hj⟩
    case hs => exact HS.out.keep (Nat.le_refl _) fun p hp => ((Below.refl w.heap.size w).alloc (Nat.le_refl _) _).cell hp
    case c1 => simp; omega
    case c2 => simp [maxLen]; omega
    case c3 => simp
    case c4 =>
      intro v' w1 ho1 _ _ hb1 _
      have B1 : Below w.heap.size w w1 := ((Below.refl w.heap.size w).alloc (Nat.le_refl _) _).trans hb1
      have HO1 := Lib.hid (show Own w1 w.heap.size 96 encN v' l by simpa using ho1)
      clear ho1
      go_wp2_with fail
      go_ret
      exact ⟨_, rfl, HO1.out, B1⟩
theorem bag_Items (w : World) (base g : Nat) (l : Int) (m : List Nd) (h : BagAt w base g l m) (hm : m.length ≤ 67108864) :
    Calls Tryz.prog 231 #[.pointer (some ⟨g, 0, none⟩)] w (OwnPost 96 encN m w) := by
  obtain ⟨v, hh, hg, ho⟩ := h
  obtain ⟨A, cap, rfl, _⟩ := ho.form
  have HC := Lib.hid (clone_Rd w A cap m ho.sl hm)
  have c := blk_cell hh
  have z := lt_of_block hh
  clear hh ho hg
  go_enter Tryz.func231, Tryz.ntmps231
  go_wp2_with fail
  refine HC.out.mono ?_
  rintro e w1 ⟨v, rfl, ho, hb⟩
  have HO := Lib.hid ho
  clear ho
  go_wp2_with fail
  go_ret
  exact ⟨_, rfl, HO.out, hb⟩
end Go.Proofs.YtcjnchjmpkapmaaGreat
/- Reference 34: far. -/
namespace Go.Proofs.YtcjnchjmpkapmaaGreat
open Go.ChangeShapes Go.WideShapes Go.ChangeAt Go.RowKit
set_option linter.unusedVariables false
set_option linter.unusedSimpArgs false
set_option maxRecDepth 100000

theorem own_atZ {w : World} {base : Nat} {A : Option Addr} {n cap : Nat} {l : List Int} (h : Own w base 3 encZ (.slice A n cap) l) {k : Nat} (hk : k < l.length) : ∃ b off, A = some ⟨b, off, none⟩ ∧ b < w.heap.size ∧ w.cell? ⟨b, off + k, none⟩ = some (.int .i64 l[k]) := by
  obtain ⟨b, off, hA, hb, hc⟩ := h.sl.at_ hk
  refine ⟨b, off, hA, hb, ?_⟩
  have := hc 0 (.int .i64 l[k]) rfl
  simpa using this
def farN (l : Int) (r m : List Nd) (x : Int) : Int := max (lowOf l r x - betwB m 0 x) (-(lowOf l r x - betwB m 0 x))
theorem farN_abs (l : Int) (r m : List Nd) (x : Int) : farN l r m x = if lowOf l r x - betwB m 0 x < 0 then 0 - (lowOf l r x - betwB m 0 x) else lowOf l r x - betwB m 0 x := by
  unfold farN
  split <;> omega
theorem farN_nonneg (l : Int) (r m : List Nd) (x : Int) : 0 ≤ farN l r m x := by unfold farN; omega
theorem ref34_far (w : World) (k l : Int) (A B : Option Addr) (ca cb : Nat) (r m : List Nd) (x : Int) (hS : Sl w w.heap.size encN A r) (hSb : Sl w w.heap.size encN B m) (hI : ints r) (hroll : Roll r) (hm : ∀ x ∈ m, 1 ≤ x.2) (h1 : sumR r ≤ 72057594037927935) (h2 : sumR m ≤ 72057594037927935) (hlen : r.length ≤ 67108864) (hm0 : ∀ z ∈ m, 0 ≤ z.1)
    (hlow : 0 ≤ lowOf l r x ∧ lowOf l r x ≤ 72057594037927935) :
    Calls Tryz.prog 141 #[.agg #[.int .i64 k, .int .i64 l, .slice A r.length ca], bagV l B m.length cb, .int .i64 x] w fun e w' => e = .returned (.int .i64 (farN l r m x)) ∧ Below w.heap.size w w' := by
  have HLo := Lib.hid (fun W h => ref16_Low W l A ca r x h hI hlen hroll h1)
  have HRk := Lib.hid (fun W h => ref10_Rank W l B cb m x h hm h2)
  have hcase : (lowOf l r x - betwB m 0 x < 0 ∧ farN l r m x = 0 - (lowOf l r x - betwB m 0 x)) ∨ (decide (lowOf l r x - betwB m 0 x < 0) = false ∧ farN l r m x = lowOf l r x - betwB m 0 x) := by
    by_cases hn : lowOf l r x - betwB m 0 x < 0
    · exact .inl ⟨hn, by rw [farN_abs, if_pos hn]⟩
    · exact .inr ⟨by simpa using hn, by rw [farN_abs, if_neg hn]⟩
  generalize farN l r m x = v at hcase ⊢
  have hb := betwB_le hm 0 x
  have hb0 := hb.1
  have hb1 : betwB m 0 x ≤ 72057594037927935 := by omega
  have hl0 := hlow.1
  have hl1 := hlow.2
  have X0 : Hid (((w.alloc (.cells #[.int .i64 k, .int .i64 l, .slice A r.length ca] 63)).alloc (.cells #[.int .i64 l, .slice B m.length cb] 31)).heap[w.heap.size]? = some (.cells #[.int .i64 k, .int .i64 l, .slice A r.length ca] 63 (0, 0))) := Lib.hid ((heap_new_lt _ _ _ (by simp)).trans (heap_alloc_new w _))
  have X1 : Hid (((w.alloc (.cells #[.int .i64 k, .int .i64 l, .slice A r.length ca] 63)).alloc (.cells #[.int .i64 l, .slice B m.length cb] 31)).heap[w.heap.size + 1]? = some (.cells #[.int .i64 l, .slice B m.length cb] 31 (0, 0))) := Lib.hid (heap_new_at (w.alloc _) _ _ (by simp))
  have BW0 : Hid (Below w.heap.size w ((w.alloc (.cells #[.int .i64 k, .int .i64 l, .slice A r.length ca] 63)).alloc (.cells #[.int .i64 l, .slice B m.length cb] 31))) := Lib.hid (by repeat (first | with_reducible exact Below.refl _ _ | with_reducible assumption | ((with_reducible refine Below.setCell ?_ ?_ _); rotate_left; · (first | omega | exact Nat.le_refl _ | (simp <;> omega))) | (with_reducible refine Below.allocW ?_ _) | (with_reducible refine Below.drew ?_) | (with_reducible refine Below.extW ?_ _)))
  have HS := Lib.hid (And.intro hS hSb)
  unfold bagV at HRk ⊢
  generalize lowOf l r x = n1 at HLo hl0 hl1 hcase
  generalize betwB m 0 x = n2 at HRk hb0 hb1 hcase
  clear hS hSb hI hroll hm h1 h2 hb hlow hm0
  go_enter Tryz.func141, Tryz.ntmps141
  go_upto_region 1 with fail
  generalize (w.alloc (.cells #[.int .i64 k, .int .i64 l, .slice A r.length ca] 63)).alloc (.cells #[.int .i64 l, .slice B m.length cb] 31) = W0 at X0 X1 BW0 ⊢
  have c0 := blk_cell X0.out
  have z0 := lt_of_block X0.out
  have c1 := blk_cell X1.out
  have z1 := lt_of_block X1.out
  have S1 := Lib.hid (HS.out.1.keep (B' := W0.heap.size) BW0.out.size fun p hp => BW0.out.cell hp)
  have S2 := Lib.hid (HS.out.2.keep (B' := W0.heap.size) BW0.out.size fun p hp => BW0.out.cell hp)
  refine wp_region_ext (by kernel_rfl) (by kernel_rfl) ?_
  repeat (go_big_quiet_step (first
    | (go_at_call 30; exact quiet_ext (HLo.out _ (S1.out.keep (ext_below _ _).size fun p hp => (ext_below _ _).cell hp)))
    | (go_at_call 37; exact quiet_ext (HRk.out _ (S2.out.keep (ext_below _ _).size fun p hp => (ext_below _ _).cell hp)))))
  refine wpQuiet_nil ?_
  intro w2 h2
  have B2 := Lib.hid (Below.then_ BW0.out (below_of_ext h2))
  clear h2 c0 z0 c1 z1
  rcases hcase with ⟨hn, hv⟩ | ⟨hn, hv⟩
  · go_wp2_with fail
    go_ret
    exact ⟨ret_int (by omega), B2.out⟩
  · go_wp2_with fail
    go_ret
    exact ⟨ret_int (by omega), B2.out⟩
def offL (S : List Int) (m : List Nd) : List Int := S ++ m.map (·.1)
theorem offL_take {S : List Int} {m : List Nd} {q : Nat} (h : q < m.length) : S ++ (m.take (q + 1)).map (·.1) = (S ++ (m.take q).map (·.1)) ++ [m[q].1] := by
  rw [List.take_succ_eq_append_getElem h, List.map_append, List.append_assoc]; rfl
theorem low_bounds {l : Int} {r : List Nd} (hr : Roll r) (hs : sumR r ≤ 72057594037927935) (x : Int) : 0 ≤ lowOf l r x ∧ lowOf l r x ≤ 72057594037927935 := by
  have h0 : ∀ y ∈ r, 0 ≤ y.2 := fun y hy => by have := (hr.2 y hy).2; omega
  unfold lowOf
  rw [weighR_ids]
  exact ⟨wIds_0 h0, Int.le_trans (wIds_sum h0) hs⟩
set_option maxHeartbeats 8000000 in
theorem ref34_Off (w : World) (k l : Int) (A B : Option Addr) (ca cb : Nat) (r m : List Nd) (hS : Sl w w.heap.size encN A r) (hSb : Sl w w.heap.size encN B m) (hI : ints r) (hroll : Roll r) (hm : ∀ x ∈ m, 1 ≤ x.2) (h1 : sumR r ≤ 72057594037927935) (h2 : sumR m ≤ 72057594037927935) (hlen : r.length ≤ 65536) (hlm : m.length ≤ 65536) (hm0 : ∀ z ∈ m, 0 ≤ z.1) :
    Calls Tryz.prog 62 #[.agg #[.int .i64 k, .int .i64 l, .slice A r.length ca], bagV l B m.length cb] w fun e w' => ∃ (S : List Int) (a : Int × Int), e = .returned (.tuple #[.int .i64 a.1, .int .i64 a.2]) ∧ StepsIs l r S ∧ a = offFoldR (farN l r m) (offL S m) ∧ Below w.heap.size w w' := by
  have HF := Lib.hid (fun W x h h' => ref34_far W k l A B ca cb r m x h h' hI hroll hm h1 h2 (by omega) hm0 (low_bounds hroll h1 x))
  have HSt := Lib.hid (fun W h => ref16_Steps W l A ca r h hI hlen)
  have X0 : Hid (((w.alloc (.cells #[.int .i64 k, .int .i64 l, .slice A r.length ca] 63)).alloc (.cells #[.int .i64 l, .slice B m.length cb] 31)).heap[w.heap.size]? = some (.cells #[.int .i64 k, .int .i64 l, .slice A r.length ca] 63 (0, 0))) := Lib.hid ((heap_new_lt _ _ _ (by simp)).trans (heap_alloc_new w _))
  have X1 : Hid (((w.alloc (.cells #[.int .i64 k, .int .i64 l, .slice A r.length ca] 63)).alloc (.cells #[.int .i64 l, .slice B m.length cb] 31)).heap[w.heap.size + 1]? = some (.cells #[.int .i64 l, .slice B m.length cb] 31 (0, 0))) := Lib.hid (heap_new_at (w.alloc _) _ _ (by simp))
  have BW0 : Hid (Below w.heap.size w ((w.alloc (.cells #[.int .i64 k, .int .i64 l, .slice A r.length ca] 63)).alloc (.cells #[.int .i64 l, .slice B m.length cb] 31))) := Lib.hid (by repeat (first | with_reducible exact Below.refl _ _ | with_reducible assumption | ((with_reducible refine Below.setCell ?_ ?_ _); rotate_left; · (first | omega | exact Nat.le_refl _ | (simp <;> omega))) | (with_reducible refine Below.allocW ?_ _) | (with_reducible refine Below.drew ?_) | (with_reducible refine Below.extW ?_ _)))
  have HS := Lib.hid (And.intro hS hSb)
  unfold bagV at HF ⊢
  clear hS hSb hI hroll hm h1 h2 hm0
  go_enter Tryz.func62, Tryz.ntmps62
  go_upto_region 1 with fail
  generalize (w.alloc (.cells #[.int .i64 k, .int .i64 l, .slice A r.length ca] 63)).alloc (.cells #[.int .i64 l, .slice B m.length cb] 31) = W0 at X0 X1 BW0 ⊢
  obtain ⟨p0, hp0⟩ : ∃ p, p = w.heap.size := ⟨_, rfl⟩
  have c0 := blk_cell X0.out
  have z0 := lt_of_block X0.out
  have S1 := Lib.hid (HS.out.1.keep (B' := W0.heap.size) BW0.out.size fun p hp => BW0.out.cell hp)
  have S2 := Lib.hid (HS.out.2.keep (B' := W0.heap.size) BW0.out.size fun p hp => BW0.out.cell hp)
  go_wp2_with fail
  refine (HSt.out _ S1.out).mono ?_
  rintro e w1 ⟨A1, c1, S, rfl, ho1, hst, hSl, hb1⟩
  have HSI := Lib.hid hst
  have O1 := Lib.hid ho1
  have B1 := Lib.hid hb1
  have hSl2 : S.length ≤ 65536 := by omega
  clear c0 z0 ho1 hst hb1 HSt
  go_wp2_with fail
  go_loopw [6, 7] (fun o j wr => ∃ q : Nat, q ≤ m.length ∧ j = .int .i64 q ∧ Own wr W0.heap.size 3 encZ o (S ++ (m.take q).map (·.1)) ∧ Below W0.heap.size W0 wr) (fun _ j _ => m.length - (intOf j).toNat)
  case atStart => exact ⟨0, Nat.zero_le _, rfl, by simpa using O1.out, B1.out⟩
  case round =>
    obtain ⟨q, hq, rfl, ho, hB⟩ := hrel
    obtain ⟨Ao, co, rfl, _⟩ := ho.form
    have HO := Lib.hid ho
    have HB := Lib.hid hB
    have Y0 := Lib.hid ((hB.block _ (lt_of_block X0.out)).trans X0.out)
    have Y1 := Lib.hid ((hB.block _ (lt_of_block X1.out)).trans X1.out)
    have c0 := blk_cell Y0.out
    have z0 := lt_of_block Y0.out
    have c1 := blk_cell Y1.out
    have z1 := lt_of_block Y1.out
    clear ho
    by_cases hlt : q < m.length
    · obtain ⟨b, off, rfl, hb, hc⟩ := S2.out.at_ hlt
      have d0 := (hB.cell (p := ⟨b, off + q * 2, none⟩) hb).trans (by have := hc 0 (.int .i64 m[q].1) rfl; simpa using this)
      have lb : b < wr.heap.size := Nat.lt_of_lt_of_le hb hB.size
      have HTk := Lib.hid (offL_take (S := S) hlt)
      have hlq : (S ++ (m.take q).map (·.1)).length ≤ 131072 := by rw [List.length_append, List.length_map, List.length_take]; omega
      have HLq := Lib.hid hlq
      have sB := hB.size
      obtain ⟨x, hx⟩ : ∃ x, x = m[q].1 := ⟨_, rfl⟩
      rw [← hx] at d0 HTk
      clear hc hx hlq hB
      generalize S ++ (m.take q).map (·.1) = L at HO HTk HLq ⊢
      go_wp2_with ((at_builtin; refine wpList_push tyZ rfl _ _ rfl encZ wr W0.heap.size (.slice Ao L.length co) L rfl HO.out x rfl rfl ?a1 ?a2 ?a3 ?a4))
      case a1 => have := HLq.out; omega
      case a2 => have := HLq.out; simp only [maxLen]; omega
      case a3 => exact sB
      case a4 =>
        intro v5 w5 ho5 _ _ _ hb5 _
        have H5 := Lib.hid (And.intro ho5 (HB.out.trans hb5))
        clear ho5 hb5
        go_wp2_with fail
        go_roundw
        case rel => exact ⟨q + 1, by omega, by go_num, by rw [HTk.out]; exact H5.out.1, H5.out.2⟩
        case measure => simp [intOf]; omega
    · obtain rfl : q = m.length := by omega
      rw [List.take_length] at HO ⊢
      have hL : (S ++ m.map (·.1)).length ≤ 131072 := by rw [List.length_append, List.length_map]; omega
      have HLL := Lib.hid hL
      have hqi : decide ((m.length : Int) < (m.length : Int)) = false := by simp
      have T1 := Lib.hid (S1.out.keep (B' := wr.heap.size) hB.size fun p hp => hB.cell hp)
      have T2 := Lib.hid (S2.out.keep (B' := wr.heap.size) hB.size fun p hp => hB.cell hp)
      have HFa : Hid (∀ L, offFoldR (farN l r m) L = L.foldl (offStepR (farN l r m)) (0, farN l r m 0)) := Lib.hid fun L => rfl
      have hfd : offL S m = S ++ m.map (·.1) := rfl
      have HFd := Lib.hid hfd
      clear hL hB hfd
      generalize hLe : S ++ m.map (·.1) = L at HO HLL HFd ⊢
      have hLL := HLL.out
      clear hLe
      go_wp2_with fail
      refine (HF.out _ 0 T1.out T2.out).mono ?_
      rintro e w6 ⟨rfl, hb6⟩
      have O6 := Lib.hid (HO.out.below hb6)
      have B6 := Lib.hid (HB.out.trans (hb6.mono HB.out.size))
      clear hb6 c0 z0 c1 z1 Y0 Y1 T1 T2 HO HB
      go_wp2_with fail
      go_loopw [8, 9, 10] (fun at_ o j W => ∃ q : Nat, q ≤ L.length ∧ j = .int .i64 q ∧ at_ = .int .i64 ((L.take q).foldl (offStepR (farN l r m)) (0, farN l r m 0)).1 ∧ o = .int .i64 ((L.take q).foldl (offStepR (farN l r m)) (0, farN l r m 0)).2 ∧ Below w6.heap.size w6 W) (fun _ _ j _ => L.length - (intOf j).toNat)
      case atStart => exact ⟨0, Nat.zero_le _, rfl, rfl, rfl, Below.refl _ _⟩
      case round =>
        obtain ⟨q, hq, rfl, rfl, rfl, hB⟩ := hrel
        have HB := Lib.hid (B6.out.trans (hB.mono B6.out.size))
        have HBl := Lib.hid hB
        have Y0 := Lib.hid ((HB.out.block _ (lt_of_block X0.out)).trans X0.out)
        have Y1 := Lib.hid ((HB.out.block _ (lt_of_block X1.out)).trans X1.out)
        have c0 := blk_cell Y0.out
        have z0 := lt_of_block Y0.out
        have c1 := blk_cell Y1.out
        have z1 := lt_of_block Y1.out
        have O7 := Lib.hid (O6.out.below hB)
        have T1 := Lib.hid (S1.out.keep (B' := wr.heap.size) HB.out.size fun p hp => HB.out.cell hp)
        have T2 := Lib.hid (S2.out.keep (B' := wr.heap.size) HB.out.size fun p hp => HB.out.cell hp)
        clear hB
        by_cases hlt : q < L.length
        · have hqi : (q : Int) < (L.length : Int) := by omega
          have HStep : Hid ((L.take (q + 1)).foldl (offStepR (farN l r m)) (0, farN l r m 0) = offStepR (farN l r m) ((L.take q).foldl (offStepR (farN l r m)) (0, farN l r m 0)) L[q]) := Lib.hid (by rw [List.take_succ_eq_append_getElem hlt, List.foldl_append]; rfl)
          obtain ⟨b, off, rfl, hb, d0⟩ := own_atZ O7.out hlt
          obtain ⟨x, hx⟩ : ∃ x, x = L[q] := ⟨_, rfl⟩
          rw [← hx] at d0 HStep
          have HFx := Lib.hid (fun W h h' => HF.out W x h h')
          have HDd : Hid (wr.cell? ⟨b, off + q, none⟩ = some (.int .i64 x)) := Lib.hid d0
          generalize (L.take q).foldl (offStepR (farN l r m)) (0, farN l r m 0) = a at HStep ⊢
          obtain ⟨a1, a2⟩ := a
          have HStep : Hid ((L.take (q + 1)).foldl (offStepR (farN l r m)) (0, farN l r m 0) = if a2 < farN l r m x ∨ (farN l r m x = a2 ∧ x < a1) then (x, farN l r m x) else (a1, a2)) := Lib.hid HStep.out
          generalize hLq : (L.take (q + 1)).foldl (offStepR (farN l r m)) (0, farN l r m 0) = aq at HStep
          have HLq2 := Lib.hid hLq
          clear hLq
          (try simp only)
          generalize farN l r m x = n at HFx HStep
          clear hx
          go_upto_region 10 with fail
          refine wp_region_ext (by kernel_rfl) (by kernel_rfl) ?_
          repeat (go_big_quiet_step ((go_at_call 141; exact quiet_ext (HFx.out _ (T1.out.keep (ext_below _ _).size fun p hp => (ext_below _ _).cell hp) (T2.out.keep (ext_below _ _).size fun p hp => (ext_below _ _).cell hp)))))
          refine wpQuiet_nil ?_
          intro w8 h8
          have hb8 := below_of_ext h8
          have HB8 := Lib.hid (HBl.out.trans (hb8.mono HBl.out.size))
          have d8 := (hb8.cell (p := ⟨b, off + q, none⟩) hb).trans HDd.out
          have zb8 : b < w8.heap.size := Nat.lt_of_lt_of_le hb hb8.size
          clear h8 hb8 c0 z0 c1 z1 d0
          by_cases k1 : a2 < n
          · rw [if_pos (.inl k1)] at HStep
            go_wp2_with fail
            go_roundw
            case rel => exact ⟨q + 1, by omega, by go_num, by rw [HLq2.out, HStep.out], by rw [HLq2.out, HStep.out], HB8.out⟩
            case measure => simp [intOf]; omega
          · have k1' : decide (a2 < n) = false := by simpa using k1
            by_cases k2 : n = a2
            · have k2' : (n == a2) = true := by simpa using k2
              by_cases k3 : x < a1
              · rw [if_pos (.inr ⟨k2, k3⟩)] at HStep
                clear k1
                go_wp2_with fail
                go_roundw
                case rel => exact ⟨q + 1, by omega, by go_num, by rw [HLq2.out, HStep.out], by rw [HLq2.out, HStep.out], HB8.out⟩
                case measure => simp [intOf]; omega
              · rw [if_neg (by rintro (h | ⟨_, h⟩); exact k1 h; exact k3 h)] at HStep
                have k3' : decide (x < a1) = false := by simpa using k3
                clear k1 k3
                go_wp2_with fail
                go_roundw
                case rel => exact ⟨q + 1, by omega, by go_num, by rw [HLq2.out, HStep.out], by rw [HLq2.out, HStep.out], HB8.out⟩
                case measure => simp [intOf]; omega
            · rw [if_neg (by rintro (h | ⟨h, _⟩); exact k1 h; exact k2 h)] at HStep
              have k2' : (n == a2) = false := by simpa using k2
              clear k1 k2
              go_wp2_with fail
              go_roundw
              case rel => exact ⟨q + 1, by omega, by go_num, by rw [HLq2.out, HStep.out], by rw [HLq2.out, HStep.out], HB8.out⟩
              case measure => simp [intOf]; omega
        · obtain rfl : q = L.length := by omega
          have hqi : decide ((L.length : Int) < (L.length : Int)) = false := by simp
          have hfin : (L.take L.length).foldl (offStepR (farN l r m)) (0, farN l r m 0) = offFoldR (farN l r m) (offL S m) := by rw [List.take_length, HFd.out, HFa.out]
          rw [hfin]
          clear hfin
          go_wp2_with fail
          go_ret2
          exact ⟨S, _, rfl, HSI.out, rfl, BW0.out.trans (HB.out.mono BW0.out.size)⟩
end Go.Proofs.YtcjnchjmpkapmaaGreat
/- slices.Sort on a list of ints that the call owns. -/
namespace Go.Proofs.YtcjnchjmpkapmaaGreat
open Go.ChangeShapes Go.WideShapes Go.ChangeAt Go.RowKit
set_option linter.unusedVariables false

theorem flatZ (l : List Int) : l.flatMap encZ.enc = l.map (Value.int .i64) := by
  induction l with
  | nil => rfl
  | cons x l ih => rw [List.flatMap_cons, ih]; rfl
theorem Own.holdsZ {w : World} {base g off cap : Nat} {l : List Int} (h : Own w base 3 encZ (.slice (some ⟨g, off, none⟩) l.length cap) l) : Go.Sort.Holds (Value.int .i64) w g off l.toArray := by
  intro j hj
  have hj : j < l.length := by simpa using hj
  rcases h with ⟨h, _⟩ | ⟨g', off', cap', cur, hv, hb, hh, h1, h2, h3, hc⟩
  · cases h
  · injection hv with hv _ _
    injection hv with hv
    injection hv with e1 e2
    subst e1 e2
    rw [blk_cell hh, blk_frozen hh]
    refine ⟨hc j _ ?_, rfl⟩
    rw [flatZ, List.getElem?_map, List.getElem?_eq_getElem hj]
    simp [hj]
theorem Own.putZ {w : World} {base g off cap : Nat} {l : List Int} (h : Own w base 3 encZ (.slice (some ⟨g, off, none⟩) l.length cap) l) (d l' : List Int) (hd : d.length = l.length) (rest : List Int) (hr : d = l' ++ rest) (n : Nat) (os : Array Obj) :
    Own (Go.Sort.grow (Go.Sort.putRow (Value.int .i64) (Go.Sort.ahead w n) g off d.toArray) os) base 3 encZ (.slice (some ⟨g, off, none⟩) l'.length cap) l' ∧ Turn (fun b => b = g) w (Go.Sort.grow (Go.Sort.putRow (Value.int .i64) (Go.Sort.ahead w n) g off d.toArray) os) ∧ base ≤ g := by
  have hl : l'.length ≤ l.length := by rw [← hd, hr, List.length_append]; omega
  rcases h with ⟨h, _⟩ | ⟨g', off', cap', cur, hv, hb, hh, h1, h2, h3, hc⟩
  · cases h
  · injection hv with hv _ hcap
    injection hv with hv
    injection hv with e1 e2
    subst e1 e2 hcap
    have hlt : g < w.heap.size := lt_of_block hh
    have hg : (Go.Sort.grow (Go.Sort.putRow (Value.int .i64) (Go.Sort.ahead w n) g off d.toArray) os).heap[g]? = some (.cells (Go.Sort.putCells (Value.int .i64) off d.toArray cur) 3 (0, 0)) := by
      rw [Go.Sort.heap_grow_old _ _ (by simp [Go.Sort.putRow, Go.Sort.mapBlock, Go.Sort.ahead]; exact hlt)]
      simp [Go.Sort.putRow, Go.Sort.mapBlock, Go.Sort.ahead, Array.getElem?_modify, Go.Sort.onCells, hh]
    refine ⟨.inr ⟨g, off, cap, _, rfl, hb, hg, by omega, h2, by simpa [Go.Sort.putCells] using h3, fun j u hj => ?_⟩, ⟨rfl, rfl, rfl, ?_, fun b hlb hn => ?_⟩, hb⟩
    · rw [flatZ, List.getElem?_map] at hj
      obtain ⟨x, hx, rfl⟩ := Option.map_eq_some_iff.1 hj
      have hjl : j < l'.length := (List.getElem?_eq_some_iff.1 hx).1
      have hcur : cur[off + j]? = some cur[off + j] := Array.getElem?_eq_getElem (by omega)
      simp only [Go.Sort.putCells, Array.getElem?_mapIdx, hcur, Option.map_some]
      rw [if_pos ⟨by omega, by simp [hd]; omega⟩]
      have hdj : d[j]? = some x := by rw [hr, List.getElem?_append_left hjl]; exact hx
      have e : d.toArray[off + j - off]! = x := by
        rw [Nat.add_sub_cancel_left, getElem!_pos _ _ (by simpa using (List.getElem?_eq_some_iff.1 hdj).1)]
        simpa using (List.getElem?_eq_some_iff.1 hdj).2
      rw [e]
    · simp [Go.Sort.grow, Go.Sort.putRow, Go.Sort.mapBlock, Go.Sort.ahead]
    · rw [Go.Sort.heap_grow_old _ _ (by simp [Go.Sort.putRow, Go.Sort.mapBlock, Go.Sort.ahead]; exact hlb)]
      simp only [Go.Sort.putRow, Go.Sort.mapBlock, Go.Sort.ahead, Array.getElem?_modify]
      rw [if_neg (by intro h; exact hn h.symm)]
theorem sort_own (w : World) (base g off cap : Nat) (l : List Int) (h : Own w base 3 encZ (.slice (some ⟨g, off, none⟩) l.length cap) l) (hb : base ≤ w.heap.size) (hm : l.length ≤ 1000000000000) :
    Calls Tryz.prog 232 #[.slice (some ⟨g, off, none⟩) l.length cap] w fun e w' => e = .returned (.tuple #[]) ∧ Own w' base 3 encZ (.slice (some ⟨g, off, none⟩) l.length cap) (l.mergeSort fun x y => decide (x ≤ y)) ∧ Turn (fun b => b = g) w w' ∧ base ≤ g := by
  refine (Go.Proofs.Tryz.slices_Sort_int g off cap l w h.holdsZ ((h.lt g rfl).2) (by omega)).mono ?_
  rintro e w' ⟨rfl, n, os, rfl⟩
  have hl : (l.mergeSort fun x y => decide (x ≤ y)).length = l.length := List.length_mergeSort _
  obtain ⟨h1, h2, h3⟩ := h.putZ (l.mergeSort fun x y => decide (x ≤ y)) (l.mergeSort fun x y => decide (x ≤ y)) hl [] (by simp) n os
  rw [hl] at h1
  exact ⟨rfl, h1, h2, h3⟩
end Go.Proofs.YtcjnchjmpkapmaaGreat
/- Package audit: Off. -/
namespace Go.Proofs.YtcjnchjmpkapmaaGreat
open Go.ChangeShapes Go.WideShapes Go.ChangeAt Go.RowKit
set_option linter.unusedVariables false
set_option linter.unusedSimpArgs false
set_option maxRecDepth 100000

def allL (S : List Int) (m : List Nd) : List Int := (S ++ [0]) ++ m.map (·.1)
theorem allL_nil (S : List Int) : allL S [] = S ++ [0] := by simp [allL]
theorem allL_take {S : List Int} {m : List Nd} {q : Nat} (h : q < m.length) : allL S (m.take (q + 1)) = allL S (m.take q) ++ [m[q].1] := offL_take h
theorem allL_len (S : List Int) (m : List Nd) : (allL S m).length = S.length + 1 + m.length := by simp [allL]; omega
def sortL (L : List Int) : List Int := L.mergeSort fun x y => decide (x ≤ y)
theorem sortL_len (L : List Int) : (sortL L).length = L.length := List.length_mergeSort _
theorem sortL_up (L : List Int) : (sortL L).Pairwise (· ≤ ·) := by
  have := List.pairwise_mergeSort (le := fun x y : Int => decide (x ≤ y)) (fun a b c h1 h2 => by simp only [decide_eq_true_eq] at *; omega) (fun a b => by simp only [Bool.or_eq_true, decide_eq_true_eq]; omega) L
  exact this.imp fun h => by simpa using h
theorem sortL_mem (L : List Int) (z : Int) : z ∈ sortL L ↔ z ∈ L := (List.mergeSort_perm L _).mem_iff
theorem off_same {l : Nat} (hl : l ≤ 48) {r m : List Nd} (hr : ∀ x ∈ r, isNode l x.1 = true) (hm : ∀ x ∈ m, 0 ≤ x.1) {S T : List Int} (hS : StepsIs l r S) (hT : StepsIs l r T) :
    offFold (farN l r m) (sortL (allL S m)) = offFoldR (farN l r m) (offL T m) := by
  obtain rfl := hS.unique hT
  have h1 := offFold_is (f := farN l r m) (farN_nonneg l r m) (L := sortL (allL S m)) (sortL_up _) ((sortL_mem _ _).2 (by simp [allL])) (fun x hx => by
    have hx := (sortL_mem _ _).1 hx
    unfold allL at hx
    rcases List.mem_append.1 hx with hx | hx
    · rcases List.mem_append.1 hx with hx | hx
      · obtain ⟨y, hy, rfl⟩ := (hS.mem x).1 hx
        have := ends_48 hl (hr y hy)
        omega
      · rw [List.mem_singleton.1 hx]; omega
    · obtain ⟨y, hy, rfl⟩ := List.mem_map.1 hx
      exact hm y hy)
  have h2 := offFoldR_is (farN l r m) (offL S m)
  refine offIs_unique (fun x => ?_) h1 h2
  rw [sortL_mem]
  unfold offL
  simp only [allL, List.mem_append, List.mem_cons, List.mem_singleton, List.not_mem_nil, or_false]
  constructor
  · rintro ((h | h) | h)
    · exact .inr (.inl h)
    · exact .inl h
    · exact .inr (.inr h)
  · rintro (h | (h | h))
    · exact .inl (.inr h)
    · exact .inl (.inl h)
    · exact .inr h
theorem audit_Off_err (w : World) (dv bv : Value) (c : Int) (hc : c ≠ 0) (h : Calls Tryz.prog 225 #[dv, bv] w fun e w' => e = .returned (.int .i64 c) ∧ Below w.heap.size w w') :
    Calls Tryz.prog 134 #[dv, bv] w fun e w' => e = .returned (.tuple #[.int .i64 0, .int .i64 0, .int .i64 c]) ∧ Below w.heap.size w w' := by
  have H := Lib.hid h
  have hc' : (c == 0) = false := by simpa using hc
  clear h hc
  go_enter Tryz.func134, Tryz.ntmps134
  go_wp2_with fail
  refine H.out.mono ?_
  rintro e w1 ⟨rfl, hb1⟩
  go_wp2_with fail
  go_ret3
  exact ⟨rfl, hb1⟩
set_option maxHeartbeats 8000000 in
theorem audit_Off (w : World) (g K l : Nat) (k : Int) (r : List Nd) (F : Nat → Prop) (base gb : Nat) (m : List Nd) (h : DigAt w g K l k r F) (hb : BagAt w base gb l m) (hm : BagL l m) (hlen : r.length ≤ 65536) (hlm : m.length ≤ 65536) :
    Calls Tryz.prog 134 #[.pointer (some ⟨g, 0, none⟩), .pointer (some ⟨gb, 0, none⟩)] w fun e w' => ∃ (S : List Int) (a : Int × Int), e = .returned (.tuple #[.int .i64 a.1, .int .i64 a.2, .int .i64 0]) ∧ StepsIs l r S ∧ a = offFold (farN l r m) (sortL (allL S m)) ∧ Below w.heap.size w w' := by
  have HW := Lib.hid (fun W h hb => audit_wrong W g K l k r F base gb l m h hb)
  simp only [if_true] at HW
  have hfr := h.fits
  have HOf := Lib.hid (fun W h => rank_Of W g K l k r F h (by omega))
  have HIt := Lib.hid (fun W h => bag_Items W base gb l m h (by omega))
  have HRk := Lib.hid (fun W x h => bag_Rank W base gb l m x h hm)
  have HB := Lib.hid hb
  have HD := Lib.hid h
  have HLw := Lib.hid (fun x => low_bounds (l := l) hfr.roll hfr.sum x)
  have HBw := Lib.hid (fun x => betwB_le (fun y hy => (hm.val y hy).2.2) 0 x)
  have hms := hm.sum
  clear h hb hm hfr
  go_enter Tryz.func134, Tryz.ntmps134
  go_wp2_with fail
  refine (HW.out _ HD.out HB.out).mono ?_
  rintro e w1 ⟨rfl, hb1⟩
  have B1 := Lib.hid hb1
  go_wp2_with fail
  refine (HOf.out _ (HD.out.below hb1)).mono ?_
  rintro e w2 ⟨gt, lt, ft, rfl, hT, hlt, _, hltl, _, hb2⟩
  have HT2 := Lib.hid hT
  have HTb := Lib.hid hlt
  have B2 := Lib.hid (Below.then_ B1.out hb2)
  have HB2 := Lib.hid (HB.out.below B2.out)
  have hltl2 : lt.length ≤ 65536 := by omega
  clear hb1 hb2 hT hlt HOf HD HW
  go_wp2_with fail
  refine (table_Steps HT2.out (by omega)).mono ?_
  rintro e w3 ⟨v3, rfl, ho3, hb3⟩
  have O3 := Lib.hid ho3
  have B3 := Lib.hid hb3
  have s3 := hb3.size
  have hSL : (lt.map (·.1)).length ≤ 65536 := by rw [List.length_map]; omega
  have HSt := Lib.hid (tab_steps HTb.out)
  generalize hSe : lt.map (·.1) = S at O3 hSL HSt
  clear ho3 hb3 hSe
  go_wp2_with ((at_builtin; refine wpList_push tyZ rfl _ _ rfl encZ w3 w2.heap.size v3 S rfl O3.out 0 rfl rfl ?a1 ?a2 ?a3 ?a4))
  case a1 => omega
  case a2 => simp only [maxLen]; omega
  case a3 => exact s3
  case a4 =>
    intro v4 w4 ho4 _ _ _ hb4 _
    have O4 := Lib.hid ho4
    have B4 := Lib.hid (B3.out.trans hb4)
    clear ho4 hb4
    have HB4 := Lib.hid (HB2.out.below B4.out)
    go_wp2_with fail
    refine (HIt.out _ HB4.out).mono ?_
    rintro e w5 ⟨v5, rfl, ho5, hb5⟩
    obtain ⟨A5, c5, rfl, _⟩ := ho5.form
    have I5 := Lib.hid (ho5.base_le (Nat.zero_le _))
    have O5 := Lib.hid (O4.out.below hb5)
    have B5 := Lib.hid (B4.out.trans (hb5.mono B4.out.size))
    clear ho5 hb5
    go_wp2_with fail
    go_loopw [9, 30] (fun v j wr => ∃ q : Nat, q ≤ m.length ∧ j = .int .i64 q ∧ Own wr w2.heap.size 3 encZ v (allL S (m.take q)) ∧ Below w2.heap.size w2 wr ∧ Own wr 0 96 encN (.slice A5 m.length c5) m) (fun _ j _ => m.length - (intOf j).toNat)
    case atStart => exact ⟨0, Nat.zero_le _, rfl, by rw [List.take_zero, allL_nil]; exact O5.out, B5.out, I5.out⟩
    case round =>
      obtain ⟨q, hq, rfl, ho, hB, hI⟩ := hrel
      obtain ⟨Ao, co, rfl, _⟩ := ho.form
      have HO := Lib.hid ho
      have HBB := Lib.hid hB
      have HI := Lib.hid hI
      clear ho hI
      have sB := hB.size
      by_cases hlt : q < m.length
      · have hqi : (q : Int) < (m.length : Int) := by omega
        obtain ⟨b, off, rfl, hb, hc⟩ := HI.out.sl.at_ hlt
        have d1 := hc 1 (.int .i64 m[q].2) rfl
        have d0 := hc 0 (.int .i64 m[q].1) rfl
        simp only [Nat.add_zero] at d0
        have HTk := Lib.hid (allL_take (S := S) hlt)
        have hlq : (allL S (m.take q)).length ≤ 131073 := by rw [allL_len, List.length_take]; omega
        have HLq := Lib.hid hlq
        obtain ⟨x, hx⟩ : ∃ x, x = m[q].1 := ⟨_, rfl⟩
        obtain ⟨c, hcc⟩ : ∃ c, c = m[q].2 := ⟨_, rfl⟩
        rw [← hx] at d0 HTk
        rw [← hcc] at d1
        clear hc hx hcc hlq
        generalize allL S (m.take q) = L at HO HTk HLq ⊢
        have HX := heap_alloc_new wr (.cells #[.int .i64 x, .int .i64 c] 96)
        have OA := Lib.hid (HO.out.alloc (.cells #[.int .i64 x, .int .i64 c] 96))
        have IA := Lib.hid (HI.out.alloc (.cells #[.int .i64 x, .int .i64 c] 96))
        have BA := Lib.hid (hB.alloc sB (.cells #[.int .i64 x, .int .i64 c] 96))
        obtain ⟨xb, hxb⟩ : ∃ xb, xb = wr.heap.size := ⟨_, rfl⟩
        have hxz : w2.heap.size ≤ xb := by omega
        go_upto_region 9 with fail
        rw [← hxb] at HX ⊢
        generalize wr.alloc (.cells #[.int .i64 x, .int .i64 c] 96) = W1 at HX OA IA BA ⊢
        have nx := blk_cell HX
        have nz := lt_of_block HX
        have s1 := BA.out.size
        clear hB d0 d1 hb HX hxb
        go_wp2_with ((at_builtin; refine wpList_push tyZ rfl _ _ rfl encZ W1 w2.heap.size (.slice Ao L.length co) L rfl OA.out x rfl rfl ?b1 ?b2 ?b3 ?b4))
        case b1 => have := HLq.out; omega
        case b2 => have := HLq.out; simp only [maxLen]; omega
        case b3 => exact s1
        case b4 =>
          intro v6 w6 ho6 hg6 _ _ hb6 _
          have O6 := Lib.hid ho6
          have B6 := Lib.hid (BA.out.trans hb6)
          have I6 := Lib.hid (IA.out.kept hg6 (own_ne IA.out OA.out (by decide)))
          clear ho6 hg6 hb6
          go_wp2_with fail
          go_roundw
          case rel => exact ⟨q + 1, by omega, by go_num, by rw [HTk.out]; exact O6.out, B6.out, I6.out⟩
          case measure => simp [intOf]; omega
      · obtain rfl : q = m.length := by omega
        rw [List.take_length] at HO ⊢
        have hqi : decide ((m.length : Int) < (m.length : Int)) = false := by simp
        have hL : (allL S m).length ≤ 131073 := by rw [allL_len]; omega
        have hL0 : 0 < (allL S m).length := by rw [allL_len]; omega
        generalize hLe : allL S m = L at HO hL hL0 ⊢
        have HLe := Lib.hid hLe
        clear hLe HI
        obtain ⟨gl, ol, cl, hv, hcl⟩ := own_at0 HO.out hL0
        injection hv with hv1 hv2 hv3
        subst hv1 hv3
        go_wp2_with fail
        refine (sort_own wr w2.heap.size gl ol co L HO.out sB (by omega)).mono ?_
        rintro e w7 ⟨rfl, ho7, ht7, hbg⟩
        have B7 := Lib.hid (HBB.out.trans (ht7.below (base := w2.heap.size) (fun b hb => by rw [hb]; exact hbg) sB))
        have O7 := Lib.hid ho7
        have hsl : (L.mergeSort fun x y => decide (x ≤ y)) = sortL L := rfl
        rw [hsl] at O7
        have hsl2 := sortL_len L
        have HT7 := Lib.hid (HT2.out.below B7.out)
        have HB7 := Lib.hid (HB2.out.below B7.out)
        clear ho7 ht7 hB HO HBB hsl
        have hsl3 : (sortL L).length ≤ 131073 := by omega
        rw [← hsl2] at O7 ⊢
        generalize hT : sortL L = T at O7 hsl3 ⊢
        have HTe := Lib.hid hT
        clear hsl2 hT hL hL0
        go_wp2_with fail
        go_loopw [4, 5, 44] (fun at_ o j W => ∃ q : Nat, q ≤ T.length ∧ j = .int .i64 q ∧ at_ = .int .i64 (offFold (farN l r m) (T.take q)).1 ∧ o = .int .i64 (offFold (farN l r m) (T.take q)).2 ∧ Below w7.heap.size w7 W) (fun _ _ j _ => T.length - (intOf j).toNat)
        case atStart => exact ⟨0, Nat.zero_le _, rfl, rfl, rfl, Below.refl _ _⟩
        case round =>
          obtain ⟨q, hq, rfl, rfl, rfl, hB⟩ := hrel
          have HBl := Lib.hid hB
          have O8 := Lib.hid (O7.out.below hB)
          have HT8 := Lib.hid (HT7.out.below (hB.mono B7.out.size))
          have HB8 := Lib.hid (HB7.out.below hB)
          clear hB
          by_cases hlt : q < T.length
          · have hqi : (q : Int) < (T.length : Int) := by omega
            have HStep := Lib.hid (show offFold (farN l r m) (T.take (q + 1)) = offStep (farN l r m) (offFold (farN l r m) (T.take q)) T[q] by rw [List.take_succ_eq_append_getElem hlt, offFold_snoc])
            obtain ⟨b, off, hv, hb, d0⟩ := own_atZ O8.out hlt
            injection hv with hv
            injection hv with hv1 hv2 _
            subst hv1 hv2
            obtain ⟨x, hx⟩ : ∃ x, x = T[q] := ⟨_, rfl⟩
            rw [← hx] at d0 HStep
            have HLx := Lib.hid (fun W (h : TabAt W w1.heap.size w2.heap.size gt (sumR r) lt ft) => table_Low x h (by omega) HTb.out.rise)
            rw [HTb.out.upT x, low_up] at HLx
            have HRx := Lib.hid (fun W h => HRk.out W x h)
            have hlw := HLw.out x
            have hbw := HBw.out x
            have hfd : farN l r m x = max (lowOf l r x - betwB m 0 x) (-(lowOf l r x - betwB m 0 x)) := rfl
            have HFd := Lib.hid hfd
            generalize lowOf l r x = n1 at HLx hlw HFd
            generalize betwB m 0 x = n2 at HRx hbw HFd
            have hl0 := hlw.1
            have hl1 := hlw.2
            have hb0 := hbw.1
            have hb1 : n2 ≤ 72057594037927935 := by omega
            generalize offFold (farN l r m) (T.take q) = a at HStep ⊢
            obtain ⟨a1, a2⟩ := a
            have HStep : Hid (offFold (farN l r m) (T.take (q + 1)) = if a2 < farN l r m x then (x, farN l r m x) else (a1, a2)) := Lib.hid HStep.out
            rw [HFd.out] at HStep
            generalize hLq : offFold (farN l r m) (T.take (q + 1)) = aq at HStep
            have HLq2 := Lib.hid hLq
            clear hLq hx hlw hbw hfd
            (try simp only)
            go_wp2_with fail
            refine (HLx.out _ HT8.out).mono ?_
            rintro e w8 ⟨rfl, hb8⟩
            have B8 := Lib.hid (HBl.out.trans (hb8.mono HBl.out.size))
            go_wp2_with fail
            refine (HRx.out _ (HB8.out.below hb8)).mono ?_
            rintro e w9 ⟨rfl, hb9⟩
            have B9 := Lib.hid (B8.out.trans (hb9.mono B8.out.size))
            clear hb8 hb9 d0 hb
            go_upto_region 17 with fail
            by_cases k1 : a2 < max (n1 - n2) (-(n1 - n2))
            · rw [if_pos k1] at HStep
              go_wp2_with fail
              go_roundw
              case rel => exact ⟨q + 1, by omega, by go_num, by rw [HLq2.out, HStep.out], by rw [HLq2.out, HStep.out], B9.out⟩
              case measure => simp [intOf]; omega
            · rw [if_neg k1] at HStep
              have k1' : decide (a2 < max (n1 - n2) (-(n1 - n2))) = false := by simpa using k1
              clear k1
              go_wp2_with fail
              go_roundw
              case rel => exact ⟨q + 1, by omega, by go_num, by rw [HLq2.out, HStep.out], by rw [HLq2.out, HStep.out], B9.out⟩
              case measure => simp [intOf]; omega
          · obtain rfl : q = T.length := by omega
            have hqi : decide ((T.length : Int) < (T.length : Int)) = false := by simp
            have hfin : offFold (farN l r m) (T.take T.length) = offFold (farN l r m) (sortL (allL S m)) := by rw [List.take_length, ← HTe.out, HLe.out]
            have HFin := Lib.hid hfin
            clear hfin
            generalize offFold (farN l r m) (T.take T.length) = a at HFin ⊢
            go_wp2_with fail
            go_ret3
            exact ⟨S, a, rfl, HSt.out, HFin.out, B2.out.trans ((B7.out.trans (HBl.out.mono B7.out.size)).mono B2.out.size)⟩
end Go.Proofs.YtcjnchjmpkapmaaGreat
/- The sorted keys of a map of the call's own. -/
namespace Go.Proofs.YtcjnchjmpkapmaaGreat
open Go.ChangeShapes Go.WideShapes Go.ChangeAt Go.RowKit Go.Maps Go.Sort Go.Shelf
set_option linter.unusedVariables false
set_option linter.unusedSimpArgs false
set_option maxRecDepth 100000

theorem mem_intKeys {w : World} {b n : Nat} {D : DataW Unit} {R : Value → Option (DataW Unit × List MemPlace)} (hown : w.ownsMap Tryz.prog 3 R b n D) (z : Int) : z ∈ intKeys D ↔ Go.Maps.has D (.int .i64 z) = true := by
  obtain ⟨es, rfl, hko⟩ := hown.keysOf
  have hk : ∀ p ∈ es, ∃ x, p.1 = .int .i64 x := fun p hp => by
    obtain ⟨v, hv⟩ := hko p hp
    obtain ⟨x, _, hx, _⟩ := Maps.keyOf_i64 Tryz.underlying3 hv
    exact ⟨x, hx⟩
  rw [has_eq, List.any_eq_true]
  unfold intKeys
  rw [List.mem_map]
  constructor
  · rintro ⟨p, hp, rfl⟩
    obtain ⟨a, ha⟩ := hk p hp
    exact ⟨p, hp, by rw [ha]; simp [Lit.sameKey, Go.intOf]⟩
  · rintro ⟨p, hp, hs⟩
    obtain ⟨a, ha⟩ := hk p hp
    rw [ha] at hs
    exact ⟨p, hp, by rw [ha]; simpa [Lit.sameKey, Go.intOf] using hs⟩
theorem flatZ1 (l : List Int) : l.flatMap Go.Proofs.YtcjnchjmpkapmaaGreat.encZ.enc = l.map (Value.int .i64) := by
  induction l with
  | nil => rfl
  | cons x l ih => rw [List.flatMap_cons, ih]; rfl
theorem sortsI (m : Nat) : AnyZI.SortsIn Tryz.prog Go.Proofs.Tryz.sortedI_ren Fence.wide m :=
  ⟨fun blk off cap ss W hH hblk hsz => callsIn_wide.2 (Go.Proofs.Tryz.slices_Sort_int blk off cap ss W hH hblk hsz),
   fun p cap W => callsIn_wide.2 (Go.Proofs.Tryz.slices_Sort_int_none p cap W)⟩
set_option maxHeartbeats 4000000 in
theorem keysC : KeysC := by
  intro w b n D hown hn
  have hbl := hown.lt
  have hsz : Maps.size D ≤ 4194304 := Nat.le_trans hown.size_le hn
  have hseq : SeqGives Fence.wide 2 Tryz.prog 292 #[.pointer (some ⟨w.heap.size, 0, none⟩)] (Value.int .i64) (fun ss => ss.Perm (intKeys D)) (Maps.size D) (w.alloc (.cells #[.map (some b)] 278)) :=
    AnyZI.keys_gives (ρ := Go.Proofs.Tryz.keysI_ren) { Go.Proofs.Tryz.keysI with } Fence.wide _ trivial rfl (by omega) w.heap.size b n D _ (by simp) (by simp) (ownsMap_below hown ((Below.refl _ w).alloc (Nat.le_refl _) _))
  have cK := AnyZI.keys_in Go.Proofs.Tryz.keysI Fence.wide 5 trivial rfl (some b) w
  have cS := AnyZI.sorted_in Go.Proofs.Tryz.sortedI Fence.wide 5 trivial trivial trivial trivial rfl (by omega) (sortsI _) (enters_of Tryz.func232 (by kernel_rfl) rfl) 292 #[.pointer (some ⟨w.heap.size, 0, none⟩)] trivial (enters_of Tryz.func292 (by kernel_rfl) rfl) _ _ (by simp only [maxLen]; omega) (by omega) _ hseq
  refine (callsIn_wide.1 cK).mono ?_
  rintro e w1 ⟨rfl, rfl⟩
  refine ⟨_, rfl, (Below.refl _ w).alloc (Nat.le_refl _) _, ?_⟩
  refine (callsIn_wide.1 cS).mono ?_
  rintro e w2 ⟨v, ss, rfl, hperm, hrow, hnil, hb⟩
  have hl : (ss.mergeSort (fun x y => decide (x ≤ y))).length = ss.length := List.length_mergeSort ss
  have hrow2 : w2.ownsRow (w.alloc (.cells #[.map (some b)] 278)).heap.size 3 1 v (ss.mergeSort (fun x y => decide (x ≤ y))).length ((ss.mergeSort (fun x y => decide (x ≤ y))).flatMap Go.Proofs.YtcjnchjmpkapmaaGreat.encZ.enc) := by
    rw [hl, flatZ1]
    exact hrow
  have ho := Own.of_row hrow2 rfl (by decide)
  obtain ⟨A, cap, rfl, _, _, hSl, _⟩ := ho.form
  refine ⟨A, cap, ss.mergeSort (fun x y => decide (x ≤ y)), rfl, hSl, ?_, fun z => ?_, ?_, hb⟩
  · have := List.pairwise_mergeSort (le := fun x y : Int => decide (x ≤ y)) (fun a b c h1 h2 => by simp only [decide_eq_true_eq] at *; omega) (fun a b => by simp only [Bool.or_eq_true, decide_eq_true_eq]; omega) ss
    exact this.imp fun h => by simpa using h
  · rw [(List.mergeSort_perm ss _).mem_iff, hperm.mem_iff, mem_intKeys hown]
  · rw [hl, hperm.length_eq]
    obtain ⟨es, rfl, _⟩ := hown.keysOf
    simp only [intKeys, List.length_map]
    exact hsz
end Go.Proofs.YtcjnchjmpkapmaaGreat
/- Package audit: Check, Good; digest.Room. -/
namespace Go.Proofs.YtcjnchjmpkapmaaGreat
open Go.ChangeShapes Go.WideShapes Go.ChangeAt Go.RowKit
set_option linter.unusedVariables false
set_option linter.unusedSimpArgs false
set_option maxRecDepth 100000

theorem digest_Room (w : World) (g K l : Nat) (k : Int) (r : List Nd) (F : Nat → Prop) (h : DigAt w g K l k r F) : Calls Tryz.prog 140 #[.pointer (some ⟨g, 0, none⟩)] w fun e w' => e = .returned (.int .i64 (8 * k)) ∧ Below w.heap.size w w' := by
  obtain ⟨h1, h2, p, F0, rfl, hh, hP⟩ := h
  have c := blk_cell hh
  have z := lt_of_block hh
  clear hh hP
  go_enter Tryz.func140, Tryz.ntmps140
  go_wp2_with fail
  refine (made_room _ k h1 h2).mono ?_
  rintro e w1 ⟨rfl, hb1⟩
  have B1 : Below w.heap.size w w1 := Below.then_ (by repeat (first | with_reducible exact Below.refl _ _ | with_reducible assumption | ((with_reducible refine Below.setCell ?_ ?_ _); rotate_left; · (first | omega | exact Nat.le_refl _ | (simp <;> omega))) | (with_reducible refine Below.allocW ?_ _) | (with_reducible refine Below.drew ?_) | (with_reducible refine Below.extW ?_ _))) hb1
  have s1 : w.heap.size ≤ w1.heap.size := B1.size
  go_wp2_with fail
  go_ret
  exact ⟨rfl, (by repeat (first | with_reducible exact Below.refl _ _ | with_reducible assumption | ((with_reducible refine Below.setCell ?_ ?_ _); rotate_left; · (first | omega | exact Nat.le_refl _ | (simp <;> omega))) | (with_reducible refine Below.allocW ?_ _) | (with_reducible refine Below.drew ?_) | (with_reducible refine Below.extW ?_ _)))⟩
theorem dig_pool {w : World} {g K l : Nat} {k : Int} {r : List Nd} {F : Nat → Prop} (h : DigAt w g K l k r F) : isPool K l = true := by
  obtain ⟨_, _, p, F0, rfl, _, a, b, _, q, F1, _, hk⟩ := h
  simp only [isPool, decide_eq_true_eq]
  rcases hk with ⟨hk, h16, _⟩ | ⟨hk, _⟩ <;> omega
def verdV (a b c d e : Bool) (x y z : Int) : Value := .agg #[.bool a, .bool b, .bool c, .bool d, .bool e, .int .i64 x, .int .i64 y, .int .i64 z]
theorem audit_Good (w : World) (a b c d e : Bool) (x y z : Int) :
    Calls Tryz.prog 61 #[verdV a b c d e x y z] w fun en w' => en = .returned (.bool (e && b && c && decide (y ≤ z))) ∧ Below w.heap.size w w' := by
  unfold verdV
  by_cases hyz : y ≤ z
  · cases e <;> cases b <;> cases c <;>
    · go_enter Tryz.func61, Tryz.ntmps61
      go_wp2_with fail
      go_ret
      exact ⟨ret_bool (by simp [hyz]), (by repeat (first | with_reducible exact Below.refl _ _ | with_reducible assumption | ((with_reducible refine Below.setCell ?_ ?_ _); rotate_left; · (first | omega | exact Nat.le_refl _ | (simp <;> omega))) | (with_reducible refine Below.allocW ?_ _) | (with_reducible refine Below.drew ?_) | (with_reducible refine Below.extW ?_ _)))⟩
  · have hyz' : decide (y ≤ z) = false := by simpa using hyz
    clear hyz
    cases e <;> cases b <;> cases c <;>
    · go_enter Tryz.func61, Tryz.ntmps61
      go_wp2_with fail
      go_ret
      exact ⟨ret_bool (by simp [hyz']), (by repeat (first | with_reducible exact Below.refl _ _ | with_reducible assumption | ((with_reducible refine Below.setCell ?_ ?_ _); rotate_left; · (first | omega | exact Nat.le_refl _ | (simp <;> omega))) | (with_reducible refine Below.allocW ?_ _) | (with_reducible refine Below.drew ?_) | (with_reducible refine Below.extW ?_ _)))⟩
structure ChkS (w : World) (g K l : Nat) (k : Int) (r : List Nd) (F : Nat → Prop) (base gb : Nat) (m : List Nd) (q4 : Nat) (W : World) : Prop where
  d : DigAt W g K l k r F
  b : BagAt W base gb l m
  x : W.heap[q4]? = some (.cells #[.bool false, .bool false, .bool false, .bool false, .bool false, .int .i64 0, .int .i64 0, .int .i64 0] 106 (0, 0))
  le : w.heap.size ≤ q4
  blw : Below w.heap.size w W
structure VerS (w8 : World) (pv : Nat) (vals : Array Value) (W : World) : Prop where
  v : W.heap[pv]? = some (.cells vals 106 (0, 0))
  le : w8.heap.size ≤ pv
  blw : Below w8.heap.size w8 W
section
variable {w w8 : World} {g K l : Nat} {k : Int} {r : List Nd} {F : Nat → Prop} {base gb : Nat} {m : List Nd} {q4 pv : Nat} {vals : Array Value} {W W' : World}
theorem ChkS.below (h : ChkS w g K l k r F base gb m q4 W) (hb : Below W.heap.size W W') : ChkS w g K l k r F base gb m q4 W' :=
  ⟨h.d.below hb, h.b.below hb, blk_below h.x hb, h.le, h.blw.trans (hb.mono h.blw.size)⟩
theorem ChkS.drew (h : ChkS w g K l k r F base gb m q4 W) : ChkS w g K l k r F base gb m q4 W.drew := h.below (Below.drew (Below.refl _ _))
theorem VerS.below (h : VerS w8 pv vals W) (hb : Below W.heap.size W W') : VerS w8 pv vals W' :=
  ⟨blk_below h.v hb, h.le, h.blw.trans (hb.mono h.blw.size)⟩
theorem VerS.set (h : VerS w8 pv vals W) (i : Nat) (u : Value) : VerS w8 pv (vals.setIfInBounds i u) (W.setCell ⟨pv, i, none⟩ u) :=
  ⟨heap_set_at h.v u, h.le, h.blw.setCell h.le u⟩
end
def CheckPost (l : Nat) (k : Int) (r m : List Nd) (w : World) (e : Ending) (w' : World) : Prop :=
  ∃ (S : List Int) (a c : Int × Int) (t : Bool), e = .returned (.tuple #[verdV (sumR r == sumR m) (lightOf l r k) (decide ((r.length : Int) ≤ 8 * k)) t (decide (sumR r = sumR m) && decide (c.1 = 0)) a.1 a.2 ((l : Int) * (sumR r / k)), .int .i64 0]) ∧
    StepsIs l r S ∧ a = offFold (farN l r m) (sortL (allL S m)) ∧ Seen (mrN l r m) (upOf r) c ∧ (t = true ↔ ∀ p, readyR l r p (sumR r / k) = false) ∧ Below w.heap.size w w'
theorem audit_Check_err (w : World) (dv bv : Value) (c : Int) (hc : c ≠ 0) (h : Calls Tryz.prog 225 #[dv, bv] w fun e w' => e = .returned (.int .i64 c) ∧ Below w.heap.size w w') (hw : ∀ W, Below w.heap.size w W → Calls Tryz.prog 225 #[dv, bv] W fun e w' => e = .returned (.int .i64 c) ∧ Below W.heap.size W w') :
    Calls Tryz.prog 60 #[dv, bv] w fun e w' => e = .returned (.tuple #[verdV false false false false false 0 0 0, .int .i64 c]) ∧ Below w.heap.size w w' := by
  have H := Lib.hid (fun W (hb : Below w.heap.size w W) => audit_Off_err W dv bv c hc (hw W hb))
  have hc' : (c == 0) = false := by simpa using hc
  have hc2 : (c != 0) = true := by simpa using hc
  unfold verdV
  clear h hw hc
  go_enter Tryz.func60, Tryz.ntmps60
  go_upto_region 1 with fail
  have X0 := Lib.hid (heap_alloc_new w (.cells #[.bool false, .bool false, .bool false, .bool false, .bool false, .int .i64 0, .int .i64 0, .int .i64 0] 106))
  have B0 : Hid (Below w.heap.size w (w.alloc (.cells #[.bool false, .bool false, .bool false, .bool false, .bool false, .int .i64 0, .int .i64 0, .int .i64 0] 106))) := Lib.hid (by repeat (first | with_reducible exact Below.refl _ _ | with_reducible assumption | ((with_reducible refine Below.setCell ?_ ?_ _); rotate_left; · (first | omega | exact Nat.le_refl _ | (simp <;> omega))) | (with_reducible refine Below.allocW ?_ _) | (with_reducible refine Below.drew ?_) | (with_reducible refine Below.extW ?_ _)))
  generalize w.alloc (.cells #[.bool false, .bool false, .bool false, .bool false, .bool false, .int .i64 0, .int .i64 0, .int .i64 0] 106) = w0 at X0 B0 ⊢
  go_wp2_with fail
  refine (H.out w0 B0.out).mono ?_
  rintro e w1 ⟨rfl, hb1⟩
  have X1 := Lib.hid (blk_below X0.out hb1)
  have B1 := Lib.hid (Below.then_ B0.out hb1)
  clear hb1 X0 B0
  have x1 := blk_cell X1.out
  have xz1 := lt_of_block X1.out
  have xf1 := blk_frozen X1.out
  go_wp2_with fail
  exact bodyPost_ret (v := .tuple #[.agg #[.bool false, .bool false, .bool false, .bool false, .bool false, .int .i64 0, .int .i64 0, .int .i64 0], .int .i64 c]) (by simp only [results, Tryz.results60]; go_simp) rfl ⟨rfl, B1.out.trans (by repeat (first | with_reducible exact Below.refl _ _ | with_reducible assumption | ((with_reducible refine Below.setCell ?_ ?_ _); rotate_left; · (first | omega | exact Nat.le_refl _ | (simp <;> omega))) | (with_reducible refine Below.allocW ?_ _) | (with_reducible refine Below.drew ?_) | (with_reducible refine Below.extW ?_ _)))⟩
set_option maxHeartbeats 8000000 in
theorem audit_Check (w : World) (g K l : Nat) (k : Int) (r : List Nd) (F : Nat → Prop) (base gb : Nat) (m : List Nd) (h : DigAt w g K l k r F) (hb : BagAt w base gb l m) (hm : BagL l m) (hI : ints r) (hlen : r.length ≤ 65536) (hlm : m.length ≤ 65536) :
    Calls Tryz.prog 60 #[.pointer (some ⟨g, 0, none⟩), .pointer (some ⟨gb, 0, none⟩)] w (CheckPost l k r m w) := by
  have hk1 := h.1
  have hk2 := h.2.1
  have hl := h.l_le
  have hf := h.fits
  have hKl := dig_pool h
  have hr2 : ∀ x ∈ r, 1 ≤ x.2 := fun x hx => (hf.roll.2 x hx).2
  have hr1 : ∀ x ∈ r, 1 ≤ x.1 := fun x hx => (hf.roll.2 x hx).1
  have hRt := fits_right hf hl
  have HOf := Lib.hid (fun W h hb => audit_Off W g K l k r F base gb m h hb hm hlen hlm)
  have HSt := Lib.hid (fun W h hb => audit_Stands keysC W g K l k r F base gb m h hb hm hI hr2 hr1 hf.sum hlen)
  have HNo := Lib.hid (fun W h => digest_Nodes W g K l k r F h (by omega))
  have HLd := Lib.hid (fun W A cap hS => pool_Load W K l A cap r hKl hRt hS hI (by omega))
  have HLi := Lib.hid (fun W gp Fp h => press_Light W gp K l r Fp k h hk1 hk2 (by omega))
  have HTi := Lib.hid (fun W gp Fp h => press_Tight W gp K l r Fp h (by omega) k hk1 hk2)
  have HSl := Lib.hid (fun W h => rank_Slack W g K l k r F h)
  have HN := Lib.hid (fun W h => digest_N W g K l k r F h)
  have HT := Lib.hid (fun W h => bag_Total W base gb l m h)
  have HL := Lib.hid (fun W h => digest_Len W g K l k r F h)
  have HR := Lib.hid (fun W h => digest_Room W g K l k r F h)
  have HC := Lib.hid (fun W h => digest_Conf W g K l k r F h)
  unfold CheckPost verdV
  have HD := Lib.hid h
  have HB := Lib.hid hb
  generalize hn1 : sumR r = n1 at HSl HTi HSt HN ⊢
  generalize hn2 : sumR m = n2 at HSt HT ⊢
  generalize hli : lightOf l r k = li at HLi ⊢
  clear h hb hm hI hr2 hr1 hRt hf hKl hn1 hn2 hli
  generalize hsl : (l : Int) * (n1 / k) = sl at HSl ⊢
  clear hsl
  go_enter Tryz.func60, Tryz.ntmps60
  go_upto_region 1 with fail
  have S0 : Hid (ChkS w g K l k r F base gb m w.heap.size (w.alloc (.cells #[.bool false, .bool false, .bool false, .bool false, .bool false, .int .i64 0, .int .i64 0, .int .i64 0] 106))) := Lib.hid ⟨HD.out.alloc _, HB.out.below ((Below.refl _ _).alloc (Nat.le_refl _) _), heap_alloc_new w _, Nat.le_refl _, (by repeat (first | with_reducible exact Below.refl _ _ | with_reducible assumption | ((with_reducible refine Below.setCell ?_ ?_ _); rotate_left; · (first | omega | exact Nat.le_refl _ | (simp <;> omega))) | (with_reducible refine Below.allocW ?_ _) | (with_reducible refine Below.drew ?_) | (with_reducible refine Below.extW ?_ _)))⟩
  obtain ⟨q4, hq4⟩ : ∃ q, q = w.heap.size := ⟨_, rfl⟩
  rw [← hq4] at S0 ⊢
  generalize w.alloc (.cells #[.bool false, .bool false, .bool false, .bool false, .bool false, .int .i64 0, .int .i64 0, .int .i64 0] 106) = w0 at S0 ⊢
  clear hq4 HD HB
  go_wp2_with fail
  refine (HOf.out w0 S0.out.d S0.out.b).mono ?_
  rintro e w1 ⟨S, ⟨a1, a2⟩, rfl, hS, ha, hb1⟩
  have HSA := Lib.hid (And.intro hS ha)
  have S1 := Lib.hid (S0.out.below hb1)
  clear hb1 S0 HOf hS ha
  simp only
  go_upto_region 4 with fail
  go_wp2_with fail
  refine (HC.out w1 S1.out.d).mono ?_
  rintro e w2 ⟨rfl, hb2⟩
  have al := hb2.trans (((Below.refl w2.heap.size w2).alloc (Nat.le_refl _) (.cells #[.int .i64 l, .int .i64 k, .int .i64 K] 23)).mono hb2.size)
  have XC := Lib.hid (heap_alloc_new w2 (.cells #[.int .i64 l, .int .i64 k, .int .i64 K] 23))
  have S3 := Lib.hid (S1.out.below al)
  clear hb2 al S1 HC
  go_upto_region 5 with fail
  obtain ⟨pc, hpc⟩ : ∃ q, q = w2.heap.size := ⟨_, rfl⟩
  rw [← hpc] at XC ⊢
  generalize w2.alloc (.cells #[.int .i64 l, .int .i64 k, .int .i64 K] 23) = w3 at XC S3 ⊢
  clear hpc
  refine wp_region_noPanic ?_
  refine wp_region_N (fun w' => w'.heap[pc]? = some (.cells #[.int .i64 l, .int .i64 k, .int .i64 K] 23 (0, 0))) [] (by kernel_rfl) (XC.out) (fun hHeld => ?_)
  refine wpAnyN_pure (i := 0) (v := Value.pointer (some ⟨pc, 2, none⟩)) rfl (by kernel_rfl) (by kernel_rfl) (by kernel_rfl) (fun _ _ _ h => h) (Or.inl ⟨by rfl, fun W _ => by go_simp⟩) ?_
  try simp only [List.getElem_toArray, List.getElem_cons_zero, List.getElem_cons_succ, Act.put, List.setIfInBounds_toArray, List.set_cons_zero, List.set_cons_succ]
  refine wpAnyN_take (i := 1) (v := Value.int .i64 K) rfl (by kernel_rfl) (by kernel_rfl) (by kernel_rfl) (by kernel_rfl) (fun _ _ _ h => h) (Or.inl ⟨by rfl, fun W hW => by have q1 := blk_cell hW; have q2 := lt_of_block hW; go_simp⟩) XC.out ?_
  try simp only [List.getElem_toArray, List.getElem_cons_zero, List.getElem_cons_succ, Act.put, List.setIfInBounds_toArray, List.set_cons_zero, List.set_cons_succ]
  refine wpAnyN_pure (i := 2) (v := Value.pointer (some ⟨pc, 0, none⟩)) rfl (by kernel_rfl) (by kernel_rfl) (by kernel_rfl) (fun _ _ _ h => h) (Or.inl ⟨by rfl, fun W _ => by go_simp⟩) ?_
  try simp only [List.getElem_toArray, List.getElem_cons_zero, List.getElem_cons_succ, Act.put, List.setIfInBounds_toArray, List.set_cons_zero, List.set_cons_succ]
  refine wpAnyN_take (i := 3) (v := Value.int .i64 l) rfl (by kernel_rfl) (by kernel_rfl) (by kernel_rfl) (by kernel_rfl) (fun _ _ _ h => h) (Or.inl ⟨by rfl, fun W hW => by have q1 := blk_cell hW; have q2 := lt_of_block hW; go_simp⟩) XC.out ?_
  try simp only [List.getElem_toArray, List.getElem_cons_zero, List.getElem_cons_succ, Act.put, List.setIfInBounds_toArray, List.set_cons_zero, List.set_cons_succ]
  refine wpAnyN_pure (i := 4) (v := Value.pointer (some ⟨g, 0, none⟩)) rfl (by kernel_rfl) (by kernel_rfl) (by kernel_rfl) (fun _ _ _ h => h) (Or.inl ⟨by rfl, fun W _ => by go_simp⟩) ?_
  try simp only [List.getElem_toArray, List.getElem_cons_zero, List.getElem_cons_succ, Act.put, List.setIfInBounds_toArray, List.set_cons_zero, List.set_cons_succ]
  refine wpAnyN_one (i := 5) (by kernel_rfl) rfl (fun K hK => ?_)
  go_simp
  refine (HNo.out w3.drew S3.out.drew.d).mono ?_
  rintro e w4 ⟨vN, rfl, hoN, hb4⟩
  obtain ⟨AN, cN, rfl, _⟩ := hoN.form
  have ON := Lib.hid hoN
  have S4 := Lib.hid (S3.out.drew.below hb4)
  have XC4 := Lib.hid (blk_below (w := w3.drew) XC.out hb4)
  clear hb4 hoN
  refine hK.out _ _ (fun _ _ => XC4.out) ?_
  clear hK K
  try simp only [List.getElem_toArray, List.getElem_cons_zero, List.getElem_cons_succ, Act.put, List.setIfInBounds_toArray, List.set_cons_zero, List.set_cons_succ]
  refine wpAnyN_one (i := 6) (by kernel_rfl) rfl (fun K hK => ?_)
  go_simp
  refine (HLd.out w4 AN cN ON.out.sl).mono ?_
  rintro e w5 ⟨gp, Fp, rfl, hP, _, hb5⟩
  have P5 := Lib.hid hP
  have S5 := Lib.hid (S4.out.below hb5)
  have XC5 := Lib.hid (blk_below XC4.out hb5)
  clear hb5 hP
  refine hK.out _ _ (fun _ _ => XC5.out) ?_
  clear hK K
  try simp only [List.getElem_toArray, List.getElem_cons_zero, List.getElem_cons_succ, Act.put, List.setIfInBounds_toArray, List.set_cons_zero, List.set_cons_succ]
  refine wpAnyN_pure (i := 7) (v := Value.tuple #[.pointer (some ⟨gp, 0, none⟩), .int .i64 0]) rfl (by kernel_rfl) (by kernel_rfl) (by kernel_rfl) (fun _ _ _ h => h) (Or.inl ⟨by rfl, fun W _ => by go_simp⟩) ?_
  try simp only [List.getElem_toArray, List.getElem_cons_zero, List.getElem_cons_succ, Act.put, List.setIfInBounds_toArray, List.set_cons_zero, List.set_cons_succ]
  refine wpAnyN_pure (i := 8) (v := Value.pointer (some ⟨gp, 0, none⟩)) rfl (by kernel_rfl) (by kernel_rfl) (by kernel_rfl) (fun _ _ _ h => h) (Or.inl ⟨by rfl, fun W _ => by go_simp⟩) ?_
  try simp only [List.getElem_toArray, List.getElem_cons_zero, List.getElem_cons_succ, Act.put, List.setIfInBounds_toArray, List.set_cons_zero, List.set_cons_succ]
  refine wpAnyN_pure (i := 9) (v := Value.int .i64 0) rfl (by kernel_rfl) (by kernel_rfl) (by kernel_rfl) (fun _ _ _ h => h) (Or.inl ⟨by rfl, fun W _ => by go_simp⟩) ?_
  try simp only [List.getElem_toArray, List.getElem_cons_zero, List.getElem_cons_succ, Act.put, List.setIfInBounds_toArray, List.set_cons_zero, List.set_cons_succ]
  refine wpAnyN_pure (i := 10) (v := Value.pointer (some ⟨gp, 0, none⟩)) rfl (by kernel_rfl) (by kernel_rfl) (by kernel_rfl) (fun _ _ _ h => h) (Or.inl ⟨by rfl, fun W _ => by go_simp⟩) ?_
  try simp only [List.getElem_toArray, List.getElem_cons_zero, List.getElem_cons_succ, Act.put, List.setIfInBounds_toArray, List.set_cons_zero, List.set_cons_succ]
  refine wpAnyN_one (i := 11) (by kernel_rfl) rfl (fun K hK => ?_)
  go_simp
  refine hK.out _ _ (fun _ _ => XC5.out) ?_
  clear hK K
  try simp only [List.getElem_toArray, List.getElem_cons_zero, List.getElem_cons_succ, Act.put, List.setIfInBounds_toArray, List.set_cons_zero, List.set_cons_succ]
  refine wpAnyN_done (by kernel_rfl) ?_ _
  refine NoPanic.normal ?_
  clear XC XC4 S3 S4 ON HNo HLd
  go_upto_region 8 with fail
  go_wp2_with fail
  refine (HSl.out w5 S5.out.d).mono ?_
  rintro e w6 ⟨rfl, hb6⟩
  have V8 : Hid (VerS w6 w6.heap.size #[.bool false, .bool false, .bool false, .bool false, .bool false, .int .i64 a1, .int .i64 a2, .int .i64 sl] (w6.alloc (.cells #[.bool false, .bool false, .bool false, .bool false, .bool false, .int .i64 a1, .int .i64 a2, .int .i64 sl] 106))) := Lib.hid ⟨heap_alloc_new w6 _, Nat.le_refl _, (Below.refl w6.heap.size w6).alloc (Nat.le_refl _) _⟩
  have S6 := Lib.hid (S5.out.below hb6)
  have P6 := Lib.hid (P5.out.below hb6)
  have XC6 := Lib.hid (blk_below XC5.out hb6)
  clear hb6 S5 P5 XC5 HSl
  go_upto_region 9 with fail
  obtain ⟨pv, hpv⟩ : ∃ q, q = w6.heap.size := ⟨_, rfl⟩
  have V8' : Hid (VerS w6 pv #[.bool false, .bool false, .bool false, .bool false, .bool false, .int .i64 a1, .int .i64 a2, .int .i64 sl] (w6.alloc (.cells #[.bool false, .bool false, .bool false, .bool false, .bool false, .int .i64 a1, .int .i64 a2, .int .i64 sl] 106))) := by rw [hpv]; exact V8
  clear V8
  rw [← hpv]
  generalize w6.alloc (.cells #[.bool false, .bool false, .bool false, .bool false, .bool false, .int .i64 a1, .int .i64 a2, .int .i64 sl] 106) = u0 at V8' ⊢
  have V0 := V8'
  clear hpv V8'
  go_upto_region 9 with fail
  go_wp2_with fail
  refine (HN.out u0 (S6.out.below V0.out.blw).d).mono ?_
  rintro e u1 ⟨rfl, hbu⟩
  have V1 := Lib.hid (V0.out.below hbu)
  clear hbu V0
  go_wp2_with fail
  refine (HT.out u1 (S6.out.below V1.out.blw).b).mono ?_
  rintro e u2 ⟨rfl, hbu⟩
  have V2 := Lib.hid (V1.out.below hbu)
  clear hbu V1
  have y2 := blk_cell V2.out.v
  have yz2 := lt_of_block V2.out.v
  have yf2 := blk_frozen V2.out.v
  have V3 := Lib.hid (V2.out.set 0 (.bool (n1 == n2)))
  simp only [List.setIfInBounds_toArray, List.set_cons_zero, List.set_cons_succ] at V3
  go_upto_region 10 with fail
  generalize u2.setCell ⟨pv, 0, none⟩ (.bool (n1 == n2)) = u3 at V3 ⊢
  clear y2 yz2 yf2 V2
  go_upto_region 10 with fail
  have c3 := blk_cell (blk_below XC6.out V3.out.blw)
  have cz3 := lt_of_block (blk_below XC6.out V3.out.blw)
  go_wp2_with fail
  refine (HLi.out u3 gp Fp (P6.out.below V3.out.blw)).mono ?_
  rintro e u4 ⟨rfl, hbu⟩
  have V4 := Lib.hid (V3.out.below hbu)
  clear hbu V3 c3 cz3
  have y4 := blk_cell V4.out.v
  have yz4 := lt_of_block V4.out.v
  have yf4 := blk_frozen V4.out.v
  have V5 := Lib.hid (V4.out.set 1 (.bool li))
  simp only [List.setIfInBounds_toArray, List.set_cons_zero, List.set_cons_succ] at V5
  go_upto_region 11 with fail
  generalize u4.setCell ⟨pv, 1, none⟩ (.bool li) = u5 at V5 ⊢
  clear y4 yz4 yf4 V4
  go_upto_region 11 with fail
  have c5 := blk_cell (blk_below XC6.out V5.out.blw)
  have cz5 := lt_of_block (blk_below XC6.out V5.out.blw)
  go_wp2_with fail
  refine (HTi.out u5 gp Fp (P6.out.below V5.out.blw)).mono ?_
  rintro e u6 ⟨ti, rfl, hti, hbu⟩
  have HTI := Lib.hid hti
  clear hti
  have V6 := Lib.hid (V5.out.below hbu)
  clear hbu V5 c5 cz5
  have y6 := blk_cell V6.out.v
  have yz6 := lt_of_block V6.out.v
  have yf6 := blk_frozen V6.out.v
  have V7 := Lib.hid (V6.out.set 3 (.bool ti))
  simp only [List.setIfInBounds_toArray, List.set_cons_zero, List.set_cons_succ] at V7
  go_upto_region 12 with fail
  generalize u6.setCell ⟨pv, 3, none⟩ (.bool ti) = u7 at V7 ⊢
  clear y6 yz6 yf6 V6
  go_upto_region 12 with fail
  go_wp2_with fail
  refine (HL.out u7 (S6.out.below V7.out.blw).d).mono ?_
  rintro e u8 ⟨rfl, hbu⟩
  have V8 := Lib.hid (V7.out.below hbu)
  clear hbu V7
  go_wp2_with fail
  refine (HR.out u8 (S6.out.below V8.out.blw).d).mono ?_
  rintro e u9 ⟨rfl, hbu⟩
  have V9 := Lib.hid (V8.out.below hbu)
  clear hbu V8
  have y9 := blk_cell V9.out.v
  have yz9 := lt_of_block V9.out.v
  have yf9 := blk_frozen V9.out.v
  have V10 := Lib.hid (V9.out.set 2 (.bool (decide ((r.length : Int) ≤ 8 * k))))
  simp only [List.setIfInBounds_toArray, List.set_cons_zero, List.set_cons_succ] at V10
  go_upto_region 13 with fail
  generalize u9.setCell ⟨pv, 2, none⟩ (.bool (decide ((r.length : Int) ≤ 8 * k))) = u10 at V10 ⊢
  clear y9 yz9 yf9 V9
  go_upto_region 13 with fail
  go_wp2_with fail
  refine (HSt.out u10 (S6.out.below V10.out.blw).d (S6.out.below V10.out.blw).b).mono ?_
  rintro e u11 ⟨⟨c1, c2⟩, rfl, hSn, hbu⟩
  have HSn := Lib.hid hSn
  clear hSn
  simp only
  have V11 := Lib.hid (V10.out.below hbu)
  clear hbu V10
  have y11 := blk_cell V11.out.v
  have yz11 := lt_of_block V11.out.v
  have yf11 := blk_frozen V11.out.v
  have V12 := Lib.hid (V11.out.set 4 (.bool (decide (n1 = n2) && decide (c1 = 0))))
  simp only [List.setIfInBounds_toArray, List.set_cons_zero, List.set_cons_succ] at V12
  go_upto_region 14 with fail
  generalize u11.setCell ⟨pv, 4, none⟩ (.bool (decide (n1 = n2) && decide (c1 = 0))) = u12 at V12 ⊢
  clear y11 yz11 yf11 V11
  have y12 := blk_cell V12.out.v
  have yz12 := lt_of_block V12.out.v
  have x12 := blk_cell (blk_below S6.out.x V12.out.blw)
  have xz12 := lt_of_block (blk_below S6.out.x V12.out.blw)
  have xf12 := blk_frozen (blk_below S6.out.x V12.out.blw)
  go_wp2_with fail
  have BB : Below w.heap.size w u12 := S6.out.blw.trans (V12.out.blw.mono S6.out.blw.size)
  have le4 := S6.out.le
  refine bodyPost_ret (v := .tuple #[.agg #[.bool (n1 == n2), .bool li, .bool (decide ((r.length : Int) ≤ 8 * k)), .bool ti, .bool (decide (n1 = n2) && decide (c1 = 0)), .int .i64 a1, .int .i64 a2, .int .i64 sl], .int .i64 0]) (by simp only [results, Tryz.results60]; go_simp) rfl ⟨S, (a1, a2), (c1, c2), ti, rfl, HSA.out.1, HSA.out.2, HSn.out, HTI.out, ?_⟩
  exact (((((((BB.setCell le4 _).setCell le4 _).setCell le4 _).setCell le4 _).setCell le4 _).setCell le4 _).setCell le4 _).setCell le4 _
end Go.Proofs.YtcjnchjmpkapmaaGreat
/- Chapter 34: its example. -/
namespace Go.Proofs.YtcjnchjmpkapmaaGreat
open Go.ChangeShapes Go.WideShapes Go.ChangeAt Go.RowKit
set_option linter.unusedVariables false
set_option linter.unusedSimpArgs false
set_option maxRecDepth 100000

def nodes34 : List Nd := [(1, 1), (4, 2)]
def readA : List Nd := [(0, 2), (3, 1)]
def readB : List Nd := [(0, 1), (3, 2)]
theorem ints_of {r : List Nd} (h : ∀ x ∈ r, (-9223372036854775808 ≤ x.1 ∧ x.1 ≤ 9223372036854775807) ∧ (-9223372036854775808 ≤ x.2 ∧ x.2 ≤ 9223372036854775807)) : ints r := h
theorem nodes34_ints : ints nodes34 := ints_of (by decide)
theorem readA_ints : ints readA := ints_of (by decide)
theorem readB_ints : ints readB := ints_of (by decide)
theorem load34 : loadErr 2 3 2 nodes34 = 0 := by decide +kernel
theorem madeA : madeB 2 readA = readA := by decide +kernel
theorem madeB' : madeB 2 readB = readB := by decide +kernel
theorem anc34 (z : Int) : z ∈ allAnc nodes34 ↔ upOf nodes34 z := allAnc_mem (by decide) z
theorem pos34 : ∀ z ∈ allAnc nodes34, 1 ≤ z := by decide +kernel
theorem seenA : Seen (mrN 2 nodes34 readA) (upOf nodes34) (0, 0) := ⟨allAnc nodes34, anc34, culIs_none (by decide +kernel), pos34⟩
theorem seenB : Seen (mrN 2 nodes34 readB) (upOf nodes34) (2, 1) := ⟨allAnc nodes34, anc34, .inr ⟨by decide +kernel, by decide +kernel, by decide +kernel, by decide +kernel⟩, pos34⟩
set_option maxHeartbeats 4000000 in
theorem alive34 (w : World) : Calls Tryz.prog 59 #[] w fun e w' => e = .returned (.bool true) ∧ Below w.heap.size w w' := by
  have HS := Lib.hid (sl_lit w encN nodes34 153 _ rfl)
  have HC := Lib.hid (digest_Load · 2 2 3 (some ⟨w.heap.size, 0, none⟩) 2 nodes34 load34 · nodes34_ints (by decide))
  go_enter Tryz.func59, Tryz.ntmps59
  go_wp2_with fail
  refine (HC.out _ (HS.out.keep (by simp) fun p hp => rfl)).mono ?_
  rintro e w1 ⟨g, F, rfl, hD, _, hb1⟩
  have B1 : Below w.heap.size w w1 := Below.then_ (by repeat (first | with_reducible exact Below.refl _ _ | with_reducible assumption | ((with_reducible refine Below.setCell ?_ ?_ _); rotate_left; · (first | omega | exact Nat.le_refl _ | (simp <;> omega))) | (with_reducible refine Below.allocW ?_ _) | (with_reducible refine Below.drew ?_) | (with_reducible refine Below.extW ?_ _))) hb1
  have s1 : w.heap.size ≤ w1.heap.size := B1.size
  have KD := Lib.hid hD
  have HA := Lib.hid (law10_Made · 2 (some ⟨w1.heap.size, 0, none⟩) 2 readA (by decide) · readA_ints (by decide))
  rw [madeA] at HA
  unfold bagV at HA
  have SA := Lib.hid (sl_lit w1 encN readA 96 _ rfl)
  clear hD
  go_wp2_with fail
  refine (HA.out _ (SA.out.keep (by simp) fun p hp => rfl)).mono ?_
  rintro e w2 ⟨ga, A2, c2, rfl, hBa, _, hb2⟩
  have al := fun (W : World) (o : Obj) => (Below.refl W.heap.size W).alloc (Nat.le_refl _) o
  have X3 := Lib.hid (And.intro (((KD.out.below (al _ _)).below hb2).below (al _ (.cells #[.int .i64 2, .slice A2 readA.length c2] 31))) (And.intro (hBa.below (al _ (.cells #[.int .i64 2, .slice A2 readA.length c2] 31))) (Below.then_ (Below.then_ (Below.then_ B1 (al _ _)) hb2) (al _ (.cells #[.int .i64 2, .slice A2 readA.length c2] 31)))))
  clear hBa hb2 KD
  go_upto_region 3 with fail
  generalize w2.alloc (.cells #[.int .i64 2, .slice A2 readA.length c2] 31) = w3 at X3 ⊢
  have HB := Lib.hid (law10_Made · 2 (some ⟨w3.heap.size, 0, none⟩) 2 readB (by decide) · readB_ints (by decide))
  rw [madeB'] at HB
  unfold bagV at HB
  have SB := Lib.hid (sl_lit w3 encN readB 96 _ rfl)
  go_wp2_with fail
  refine (HB.out _ (SB.out.keep (by simp) fun p hp => rfl)).mono ?_
  rintro e w4 ⟨gb, A4, c4, rfl, hBb, _, hb4⟩
  have X5 := Lib.hid (And.intro (((X3.out.1.below (al _ _)).below hb4).below (al _ (.cells #[.int .i64 2, .slice A4 readB.length c4] 31))) (And.intro (((X3.out.2.1.below (al _ _)).below hb4).below (al _ (.cells #[.int .i64 2, .slice A4 readB.length c4] 31))) (And.intro (hBb.below (al _ (.cells #[.int .i64 2, .slice A4 readB.length c4] 31))) (Below.then_ (Below.then_ (Below.then_ X3.out.2.2 (al _ _)) hb4) (al _ (.cells #[.int .i64 2, .slice A4 readB.length c4] 31))))))
  clear hBb hb4 X3
  go_upto_region 4 with fail
  generalize w4.alloc (.cells #[.int .i64 2, .slice A4 readB.length c4] 31) = w5 at X5 ⊢
  have bA : BagL 2 readA := madeA ▸ madeB_bag 2 readA
  have bB : BagL 2 readB := madeB' ▸ madeB_bag 2 readB
  go_wp2_with fail
  refine (audit_Stands keysC _ g 2 2 3 nodes34 F _ ga readA X5.out.1 X5.out.2.1 bA nodes34_ints (by decide) (by decide) (by decide) (by decide)).mono ?_
  rintro e w6 ⟨a, rfl, hSa, hb6⟩
  obtain rfl := hSa.unique seenA fun z => Iff.rfl
  rw [show (decide (sumR nodes34 = sumR readA) && decide (((0 : Int), (0 : Int)).1 = 0)) = true by decide]
  have X6 := Lib.hid (And.intro (X5.out.1.below hb6) (And.intro (X5.out.2.2.1.below hb6) (Below.then_ X5.out.2.2.2 hb6)))
  clear hSa hb6
  go_wp2_with fail
  refine (audit_Culprit keysC _ g 2 2 3 nodes34 F _ gb readB X6.out.1 X6.out.2.1 bB nodes34_ints (by decide) (by decide) (by decide) (by decide)).mono ?_
  rintro e w7 ⟨a, rfl, hSa, hb7⟩
  obtain rfl := hSa.unique seenB fun z => Iff.rfl
  have B7 := Lib.hid (Below.then_ X6.out.2.2 hb7)
  clear hSa hb7
  go_wp2_with fail
  go_ret
  exact ⟨rfl, B7.out⟩
end Go.Proofs.YtcjnchjmpkapmaaGreat
