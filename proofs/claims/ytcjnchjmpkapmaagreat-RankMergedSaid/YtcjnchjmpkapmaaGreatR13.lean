/-
  Texts of this proof, one behind the other: ConcatN, MergeLaw, FoldRoll, FoldRoll2, JoinLaw, FoldN, Blend, JoinN, Ref10Pour, MergedS, MergedS2, OpenSides, RankMergedW.
-/
import Derived.Lib.AppendZeros
import Derived.Test.YtcjnchjmpkapmaaGreatP1
import Derived.Test.YtcjnchjmpkapmaaGreatR5
import Derived.Test.YtcjnchjmpkapmaaGreatR6
import Derived.Test.YtcjnchjmpkapmaaGreatR11
/- slices.Grow of nothing, slices.Concat of lists of nodes. -/
set_option linter.unusedSimpArgs false namespace Go.Proofs.YtcjnchjmpkapmaaGreat
open Go.ChangeShapes Go.WideShapes Go.ChangeAt Go.RowKit
set_option linter.unusedVariables false
set_option linter.unusedSimpArgs false
set_option maxRecDepth 100000

theorem grow_N (w : World) (n : Nat) (hn : n ≤ 67108864) : Calls Tryz.prog 271 #[.slice none 0 0, .int .i64 n] w (OwnPost 153 encN [] w) := by
  by_cases h0 : n = 0
  · subst h0
    go_enter Tryz.func271, Tryz.ntmps271
    go_wp2_with fail
    go_ret
    exact ⟨_, rfl, Own.nil _ _ _ _, (by repeat (first | with_reducible exact Below.refl _ _ | with_reducible assumption | ((with_reducible refine Below.setCell ?_ ?_ _); rotate_left; · (first | omega | exact Nat.le_refl _ | (simp <;> omega))) | (with_reducible refine Below.allocW ?_ _) | (with_reducible refine Below.drew ?_) | (with_reducible refine Below.extW ?_ _)))⟩
  · obtain ⟨i, hi, e1⟩ := Option.map_eq_some_iff.1 tyN.hinfo
    simp only [Prod.mk.injEq] at e1
    obtain ⟨hz, hsize, hby⟩ := e1
    have h1 : ¬ (n : Int) < 0 := by omega
    have h4 : (n : Int) > 0 := by omega
    have hrz : ∀ ty, (Builtin.append_ #[46, 3] ty #[.slice none 0 0, .int .i64 n]).run Tryz.prog w =
        .ok (.slice (some ⟨w.heap.size, 0, none⟩) n (grownCap w n 0 153)) (w.drew.alloc (.cells (Builtin.zeroCells (Value.agg #[.int .i64 0, .int .i64 0]).cells n ++ Builtin.zeroCells (Value.agg #[.int .i64 0, .int .i64 0]).cells (grownCap w n 0 153 - n)) 153)) := fun ty =>
      Lib.run_append_nil_zeros w 46 3 ty 153 i _ .i64 .i64 Tryz.underlying46 Tryz.underlying3 hi hz n (by omega) (by omega) (by omega) (by rw [hby]; omega)
    have hGn : n ≤ grownCap w n 0 153 := grownCap_ge w _ _ _
    have hGm := grownCap_le_maxLen w n 0 153 (by unfold maxLen; omega)
    generalize grownCap w n 0 153 = G at hrz hGn hGm
    have HO : Hid (Own (w.drew.alloc (.cells (Builtin.zeroCells (Value.agg #[.int .i64 0, .int .i64 0]).cells n ++ Builtin.zeroCells (Value.agg #[.int .i64 0, .int .i64 0]).cells (G - n)) 153)) w.heap.size 153 encN (.slice (some ⟨w.heap.size, 0, none⟩) 0 G) []) := Lib.hid
      (.inr ⟨w.heap.size, 0, G, _, rfl, Nat.le_refl _, heap_alloc_new w.drew _, by simp, hGm, by simp only [Array.size_append, size_zeroCells, tyN.hzs]; omega, fun j u hj => by simp at hj⟩)
    have hG63 : G ≤ 9223372036854775807 := by unfold maxLen at hGm; omega
    have HB : Hid (Below w.heap.size w (w.drew.alloc (.cells (Builtin.zeroCells (Value.agg #[.int .i64 0, .int .i64 0]).cells n ++ Builtin.zeroCells (Value.agg #[.int .i64 0, .int .i64 0]).cells (G - n)) 153))) := Lib.hid (by repeat (first | with_reducible exact Below.refl _ _ | with_reducible assumption | ((with_reducible refine Below.setCell ?_ ?_ _); rotate_left; · (first | omega | exact Nat.le_refl _ | (simp <;> omega))) | (with_reducible refine Below.allocW ?_ _) | (with_reducible refine Below.drew ?_) | (with_reducible refine Below.extW ?_ _)))
    clear hi hz hsize hby
    generalize w.drew.alloc (.cells (Builtin.zeroCells (Value.agg #[.int .i64 0, .int .i64 0]).cells n ++ Builtin.zeroCells (Value.agg #[.int .i64 0, .int .i64 0]).cells (G - n)) 153) = w1 at hrz HO HB
    go_enter Tryz.func271, Tryz.ntmps271
    go_wp2_with (at_builtin; refine Lib.wpList_append_run _ rfl _ _ _ _ rfl _ _ rfl rfl _ _ (hrz _) ?_)
    go_ret
    exact ⟨_, rfl, HO.out, HB.out⟩

abbrev SlV := Option Addr × Nat × List Nd
def encSl : Enc SlV 1 := ⟨fun s => [.slice s.1 s.2.2.length s.2.1], fun _ => rfl, by intro x u hu; simp at hu; subst hu; rfl⟩
def allN (ss : List SlV) : List Nd := ss.flatMap (·.2.2)
theorem allN_take {ss : List SlV} {q : Nat} (h : q < ss.length) : allN (ss.take (q + 1)) = allN (ss.take q) ++ ss[q].2.2 := by
  unfold allN
  rw [List.take_succ_eq_append_getElem h, List.flatMap_append]
  simp
theorem allN_len_take (ss : List SlV) (q : Nat) : (allN (ss.take q)).length ≤ (allN ss).length := by
  conv => rhs; rw [← List.take_append_drop q ss]
  unfold allN
  rw [List.flatMap_append, List.length_append]
  omega
set_option maxHeartbeats 2000000 in
theorem concat_N (w : World) (A : Option Addr) (cap : Nat) (ss : List SlV) (hS : Sl w w.heap.size encSl A ss) (hE : ∀ s ∈ ss, Sl w w.heap.size encN s.1 s.2.2) (hn : (allN ss).length ≤ 67108864) (hk : ss.length ≤ 67108864) :
    Calls Tryz.prog 187 #[.slice A ss.length cap] w (OwnPost 153 encN (allN ss) w) := by
  have HS := Lib.hid hS
  have HE := Lib.hid hE
  have HT := Lib.hid (fun q (h : q < ss.length) => allN_take h)
  have HL := Lib.hid (fun q => Nat.le_trans (allN_len_take ss q) hn)
  clear hS hE
  go_enter Tryz.func187, Tryz.ntmps187
  go_wp2_with fail
  go_loopw [3, 11] (fun n i wr => ∃ q, q ≤ ss.length ∧ i = .int .i64 q ∧ n = .int .i64 (allN (ss.take q)).length ∧ w = wr) (fun _ i _ => ss.length - (intOf i).toNat)
  case atStart => exact ⟨0, Nat.zero_le _, rfl, by simp [allN], rfl⟩
  case round =>
    obtain ⟨q, hq, rfl, rfl, rfl⟩ := hrel
    by_cases hlt : q < ss.length
    · obtain ⟨b, off, rfl, hb, hc⟩ := HS.out.at_ hlt
      have d0 := hc 0 _ rfl
      simp only [Nat.add_zero, Nat.mul_one] at d0
      have e1 := HT.out q hlt
      have e2 := HL.out (q + 1)
      have e3 : (allN (ss.take (q + 1))).length = (allN (ss.take q)).length + ss[q].2.2.length := by rw [e1, List.length_append]
      obtain ⟨s, hs⟩ : ∃ s, s = ss[q] := ⟨_, rfl⟩
      rw [← hs] at d0 e3
      rw [e3] at e2
      have E3 := Lib.hid e3
      clear hc e1 e3 hs
      generalize (allN (ss.take q)).length = n at e2 E3 ⊢
      go_wp2_with fail
      go_roundw
      case rel => exact ⟨q + 1, by omega, by go_num, by rw [E3.out]; go_num, by first | rfl | trivial⟩
      case measure => simp [intOf]; omega
    · obtain rfl : q = ss.length := by omega
      have HG := Lib.hid (grow_N w (allN ss).length hn)
      rw [List.take_length]
      obtain ⟨n, hN⟩ : ∃ n, n = (allN ss).length := ⟨_, rfl⟩
      rw [← hN] at HG ⊢ hn
      have HN := Lib.hid hN
      clear hN
      go_wp2_with fail
      refine HG.out.mono ?_
      rintro e w1 ⟨v1, rfl, ho1, hb1⟩
      have O1 := Lib.hid ho1
      have B1 := Lib.hid hb1
      clear ho1 hb1 HG
      go_wp2_with fail
      go_loopw [6, 27] (fun v i wr => ∃ q, q ≤ ss.length ∧ i = .int .i64 q ∧ Own wr w.heap.size 153 encN v (allN (ss.take q)) ∧ Below w.heap.size w wr) (fun _ i _ => ss.length - (intOf i).toNat)
      case atStart => exact ⟨0, Nat.zero_le _, rfl, by simpa [allN] using O1.out, B1.out⟩
      case round =>
        obtain ⟨q, hq, rfl, ho, hB⟩ := hrel
        obtain ⟨Ao, co, rfl, _⟩ := ho.form
        have HO := Lib.hid ho
        have HB := Lib.hid hB
        have sz := hB.size
        clear ho hB
        by_cases hlt : q < ss.length
        · obtain ⟨b, off, rfl, hb, hc⟩ := HS.out.at_ hlt
          have d0 := (HB.out.cell (p := ⟨b, off + q * 1 + 0, none⟩) hb).trans (hc 0 _ rfl)
          simp only [Nat.add_zero, Nat.mul_one] at d0
          have e1 := HT.out q hlt
          have e2 := HL.out (q + 1)
          rw [e1, List.length_append] at e2
          have hSs : Sl wr wr.heap.size encN ss[q].1 ss[q].2.2 := (HE.out _ (List.getElem_mem hlt)).keep HB.out.size fun p hp => HB.out.cell hp
          have lb : b < wr.heap.size := Nat.lt_of_lt_of_le hb sz
          obtain ⟨s, hs⟩ : ∃ s, s = ss[q] := ⟨_, rfl⟩
          rw [← hs] at d0 e1 e2 hSs
          have HSs := Lib.hid hSs
          have E1 := Lib.hid e1
          clear hc e1 hs hSs
          obtain ⟨As, cs, ls⟩ := s
          simp only at d0 e2 HSs E1
          obtain ⟨L, hL⟩ : ∃ L, L = allN (ss.take q) := ⟨_, rfl⟩
          rw [← hL] at HO E1 e2 ⊢
          clear hL
          go_wp2_with ((at_builtin; refine wpList_app tyN rfl _ _ rfl encN w.heap.size (.slice Ao L.length co) L rfl HO.out As cs ls wr.heap.size rfl HSs.out ?c1 ?c2 ?c3 ?c4))
          case c1 => omega
          case c2 => unfold maxLen; omega
          case c3 => exact sz
          case c4 =>
            intro v5 w5 ho5 _ _ hb5 _
            have O5 := Lib.hid ho5
            have B5 := Lib.hid (HB.out.trans hb5)
            clear ho5 hb5
            go_wp2_with fail
            go_roundw
            case rel => exact ⟨q + 1, by omega, by go_num, by rw [E1.out]; exact O5.out, B5.out⟩
            case measure => simp [intOf]; omega
        · obtain rfl : q = ss.length := by omega
          rw [List.take_length] at HO ⊢
          go_wp2_with fail
          go_ret
          exact ⟨_, rfl, HO.out, HB.out⟩
end Go.Proofs.YtcjnchjmpkapmaaGreat
/- A digest merged of two holds what both did: plain law. -/
namespace Go.Proofs.YtcjnchjmpkapmaaGreat
open Go.ChangeShapes Go.WideShapes Go.ChangeAt Go.RowKit
set_option linter.unusedVariables false

theorem Held.weaker {l : Nat} {k k2 : Int} {r m : List Nd} (h : Held l k r m) (h1 : 1 ≤ k2) (h2 : k2 ≤ k) : Held l k2 r m := by
  refine ⟨h.fits, h.flow, h.bag, light_of fun x hx hk => ?_⟩
  have a := light_all h.light x hx hk
  have s0 := sumR_nonneg h.fits.roll
  have : sumR r / k ≤ sumR r / k2 := by
    have e1 := Int.mul_ediv_add_emod (sumR r) k
    have e2 := Int.emod_nonneg (sumR r) (show k ≠ 0 by omega)
    have q0 : 0 ≤ sumR r / k := Int.ediv_nonneg s0 (by omega)
    refine Int.le_ediv_of_mul_le (by omega) ?_
    have : sumR r / k * k2 ≤ sumR r / k * k := Int.mul_le_mul_of_nonneg_left h2 q0
    have e3 : k * (sumR r / k) = sumR r / k * k := Int.mul_comm _ _
    omega
  omega
structure SumOf (a b c : List Nd) : Prop where
  roll : Roll c
  get : ∀ id, getR c id = getR a id + getR b id
  sum : sumR c = sumR a + sumR b
theorem SumOf.cases {a b c : List Nd} (h : SumOf a b c) (ha : Roll a) (hb : Roll b) {x : Nd} (hx : x ∈ c) : (∃ y ∈ a, y.1 = x.1) ∨ (∃ y ∈ b, y.1 = x.1) := by
  have h1 := getR_mem h.roll hx
  have h2 := (h.roll.2 x hx).2
  have h3 := h.get x.1
  by_cases ha0 : getR a x.1 = 0
  · exact .inr ⟨_, getR_pos hb (by omega : getR b x.1 ≠ 0), rfl⟩
  · exact .inl ⟨_, getR_pos ha ha0, rfl⟩
theorem get_light {l : Nat} {k : Int} {r : List Nd} (hf : Roll r) (hk : 1 ≤ k) (h : lightOf l r k = true) {id : Int} (hi : (kidsOf l id).2.2 = true) : getR r id ≤ sumR r / k := by
  by_cases h0 : getR r id = 0
  · rw [h0]; exact Int.ediv_nonneg (sumR_nonneg hf) (by omega)
  · exact light_all h _ (getR_pos hf h0) hi
theorem div_add_le {a b k : Int} (hk : 1 ≤ k) : a / k + b / k ≤ (a + b) / k := by
  refine Int.le_ediv_of_mul_le (by omega) ?_
  have e1 := Int.mul_ediv_add_emod a k
  have e2 := Int.mul_ediv_add_emod b k
  have m1 := Int.emod_nonneg a (show k ≠ 0 by omega)
  have m2 := Int.emod_nonneg b (show k ≠ 0 by omega)
  rw [Int.add_mul, Int.mul_comm (a / k), Int.mul_comm (b / k)]
  omega
theorem Held.join {l : Nat} {k : Int} {ra rb rc ma mb mc : List Nd} (ha : Held l k ra ma) (hb : Held l k rb mb) (hk : 1 ≤ k) (hr : SumOf ra rb rc) (hm : BagL l mc) (hq : ∀ id, getR (leaves l mc) id = getR (leaves l ma) id + getR (leaves l mb) id) (hs : sumR ra + sumR rb ≤ 72057594037927935) : Held l k rc mc := by
  refine ⟨⟨hr.roll, fun x hx => ?_, by rw [hr.sum]; exact hs⟩, ha.flow.join hb.flow hr.get hq, hm, light_of fun x hx hi => ?_⟩
  · rcases hr.cases ha.fits.roll hb.fits.roll hx with ⟨y, hy, e⟩ | ⟨y, hy, e⟩
    · rw [← e]; exact ha.fits.lt y hy
    · rw [← e]; exact hb.fits.lt y hy
  · have h1 := getR_mem hr.roll hx
    have h2 := get_light ha.fits.roll hk ha.light hi
    have h3 := get_light hb.fits.roll hk hb.light hi
    have h4 := div_add_le (a := sumR ra) (b := sumR rb) hk
    rw [hr.get] at h1
    rw [hr.sum]
    omega
def pourL (ma mb : List Nd) : List Nd := mb.foldl (fun m x => addR m x.1 x.2) ma
theorem pourL_snoc (ma mb : List Nd) (x : Nd) : pourL ma (mb ++ [x]) = addR (pourL ma mb) x.1 x.2 := by simp [pourL]
theorem pour_leaves {l : Nat} {ma : List Nd} : ∀ {mb : List Nd}, BagL l ma → (∀ x ∈ mb, 0 ≤ x.1 ∧ x.1 < 2 ^ l ∧ 1 ≤ x.2) → sumR ma + sumR mb ≤ 72057594037927935 →
    BagL l (pourL ma mb) ∧ sumR (pourL ma mb) = sumR ma + sumR mb ∧ ∀ id, getR (leaves l (pourL ma mb)) id = getR (leaves l ma) id + (mb.map fun x => if 2 ^ l + x.1 = id then x.2 else 0).sum := by
  intro mb
  induction mb generalizing ma with
  | nil => intro h _ _; exact ⟨h, by simp [pourL, sumR], fun id => by simp [pourL]⟩
  | cons x mb ih =>
    intro h hv hs
    have hx := hv x (by simp)
    have hp := (sumR_pos fun y hy => (hv y (List.mem_cons_of_mem _ hy)).2.2).1
    simp only [sumR] at hs
    have hB : BagL l (addR ma x.1 x.2) := h.add hx.1 hx.2.1 hx.2.2 (by omega)
    obtain ⟨i1, i2, i3⟩ := ih hB (fun y hy => hv y (by simp [hy])) (by rw [sumR_add]; omega)
    refine ⟨i1, ?_, fun id => ?_⟩
    · show sumR (pourL (addR ma x.1 x.2) mb) = _
      rw [i2, sumR_add]; simp only [sumR]; omega
    · show getR (leaves l (pourL (addR ma x.1 x.2) mb)) id = _
      rw [i3, leaves_add, getR_add (leaves_roll h)]
      simp only [List.map_cons, List.sum_cons]
      by_cases e : id = 2 ^ l + x.1
      · subst e; simp only [if_true]; omega
      · rw [if_neg e, if_neg (Ne.symm e)]; omega
theorem leaves_get {l : Nat} : ∀ {mb : List Nd}, (mb.Pairwise fun a b => a.1 < b.1) → ∀ id, getR (leaves l mb) id = (mb.map fun x => if 2 ^ l + x.1 = id then x.2 else 0).sum := by
  intro mb
  induction mb with
  | nil => intro _ id; rfl
  | cons x mb ih =>
    intro h id
    obtain ⟨h1, h2⟩ := List.pairwise_cons.1 h
    have i := ih h2 id
    simp only [List.map_cons, List.sum_cons]
    show getR ((2 ^ l + x.1, x.2) :: leaves l mb) id = _
    simp only [getR]
    by_cases e : 2 ^ l + x.1 = id
    · rw [if_pos e, if_pos e]
      have : (mb.map fun y => if 2 ^ l + y.1 = id then y.2 else 0).sum = 0 := by
        rw [← i]
        refine getR_none fun y hy => ?_
        obtain ⟨z, hz, rfl⟩ := List.mem_map.1 hy
        have := h1 z hz
        show 2 ^ l + z.1 ≠ id
        omega
      omega
    · rw [if_neg e, if_neg e]; omega
theorem Held.merge {l : Nat} {k : Int} {ra rb rc ma mb : List Nd} (ha : Held l k ra ma) (hb : Held l k rb mb) (hk : 1 ≤ k) (hr : SumOf ra rb rc) (hs : sumR ra + sumR rb ≤ 72057594037927935) : Held l k rc (pourL ma mb) := by
  have e1 := ha.sum
  have e2 := hb.sum
  obtain ⟨i1, _, i3⟩ := pour_leaves ha.bag hb.bag.val (by omega)
  exact ha.join hb hk hr i1 (fun id => by rw [i3, leaves_get hb.bag.up]) hs
end Go.Proofs.YtcjnchjmpkapmaaGreat
/- roll.Fold's plain law: a sorted list of nodes, each added, is the sum of two rolls. -/
namespace Go.Proofs.YtcjnchjmpkapmaaGreat
open Go.ChangeShapes Go.WideShapes Go.ChangeAt Go.RowKit
set_option linter.unusedVariables false

def addAll (r L : List Nd) : List Nd := L.foldl (fun r x => addR r x.1 x.2) r
def atR (L : List Nd) (id : Int) : Int := (L.map fun x => if x.1 = id then x.2 else 0).sum
theorem atR_append (a b : List Nd) (id : Int) : atR (a ++ b) id = atR a id + atR b id := by simp [atR]
theorem atR_perm {a b : List Nd} (h : a.Perm b) (id : Int) : atR a id = atR b id := by
  induction h with
  | nil => rfl
  | cons x _ ih => simp only [atR, List.map_cons, List.sum_cons] at ih ⊢; omega
  | swap x y l => simp only [atR, List.map_cons, List.sum_cons]; omega
  | trans _ _ i1 i2 => omega
theorem fold_sumR_perm {a b : List Nd} (h : a.Perm b) : sumR a = sumR b := by
  induction h with
  | nil => rfl
  | cons x _ ih => simp only [sumR]; omega
  | swap x y l => simp only [sumR]; omega
  | trans _ _ i1 i2 => omega
theorem atR_roll {r : List Nd} (h : Roll r) (id : Int) : atR r id = getR r id := by
  induction r with
  | nil => rfl
  | cons x r ih =>
    obtain ⟨h1, h2⟩ := h
    obtain ⟨p1, p2⟩ := List.pairwise_cons.1 h1
    have i := ih ⟨p2, fun y hy => h2 y (by simp [hy])⟩
    simp only [atR, List.map_cons, List.sum_cons, getR] at i ⊢
    by_cases e : x.1 = id
    · rw [if_pos e, if_pos e, i, getR_none fun y hy => by have := p1 y hy; omega]; omega
    · rw [if_neg e, if_neg e, i]; omega
theorem addAll_roll : ∀ {L r : List Nd}, Roll r → (∀ x ∈ L, 1 ≤ x.1 ∧ 1 ≤ x.2) → Roll (addAll r L) ∧ sumR (addAll r L) = sumR r + sumR L ∧ ∀ id, getR (addAll r L) id = getR r id + atR L id := by
  intro L
  induction L with
  | nil => intro r h _; exact ⟨h, by simp [addAll, sumR], fun id => by simp [addAll, atR]⟩
  | cons x L ih =>
    intro r h hL
    have hx := hL x (by simp)
    obtain ⟨i1, i2, i3⟩ := ih (h.add hx.1 hx.2) (fun y hy => hL y (by simp [hy]))
    refine ⟨i1, ?_, fun id => ?_⟩
    · show sumR (addAll (addR r x.1 x.2) L) = _
      rw [i2, sumR_add]; simp only [sumR]; omega
    · show getR (addAll (addR r x.1 x.2) L) id = _
      rw [i3, getR_add h]
      simp only [atR, List.map_cons, List.sum_cons]
      by_cases e : id = x.1
      · subst e; simp only [if_true]; omega
      · rw [if_neg e, if_neg (Ne.symm e)]; omega
theorem fold_sum {a b : List Nd} (ha : Roll a) (hb : Roll b) : SumOf a b (addAll [] (msort (a ++ b))) := by
  have hp := msort_perm (a ++ b)
  obtain ⟨i1, i2, i3⟩ := addAll_roll (L := msort (a ++ b)) (r := []) ⟨.nil, by simp⟩ fun x hx => by
    rcases List.mem_append.1 (hp.mem_iff.1 hx) with h | h
    · exact ha.2 x h
    · exact hb.2 x h
  refine ⟨i1, fun id => ?_, ?_⟩
  · rw [i3, atR_perm hp, atR_append, atR_roll ha, atR_roll hb]; simp [getR]
  · rw [i2, fold_sumR_perm hp, sumR_append]; simp [sumR]
end Go.Proofs.YtcjnchjmpkapmaaGreat
/- roll.Fold's steps: what is added to a roll whose ids are no greater comes last, or into the last. -/
namespace Go.Proofs.YtcjnchjmpkapmaaGreat
open Go.ChangeShapes Go.WideShapes Go.ChangeAt Go.RowKit
set_option linter.unusedVariables false

theorem addR_new : ∀ {L : List Nd} {id c : Int}, (∀ z ∈ L, z.1 < id) → addR L id c = L ++ [(id, c)] := by
  intro L
  induction L with
  | nil => intro id c _; simp [addR]
  | cons z L ih =>
    intro id c h
    have h1 := h z (by simp)
    simp only [addR]
    rw [if_neg (by omega), if_neg (by omega), ih fun y hy => h y (by simp [hy])]
    rfl
theorem addR_bump : ∀ {L : List Nd} {y : Nd} {c : Int}, (∀ z ∈ L, z.1 < y.1) → addR (L ++ [y]) y.1 c = L ++ [(y.1, y.2 + c)] := by
  intro L
  induction L with
  | nil => intro y c _; simp [addR]
  | cons z L ih =>
    intro y c h
    have h1 := h z (by simp)
    simp only [List.cons_append, addR]
    rw [if_neg (by omega), if_neg (by omega), ih fun x hx => h x (by simp [hx])]
theorem addAll_take {S : List Nd} {q : Nat} (h : q < S.length) : addAll [] (S.take (q + 1)) = addR (addAll [] (S.take q)) S[q].1 S[q].2 := by
  unfold addAll
  rw [List.take_succ_eq_append_getElem h, List.foldl_append]
  rfl
theorem addAll_le : ∀ {L r : List Nd} {m : Int}, (∀ z ∈ r, z.1 ≤ m) → (∀ z ∈ L, z.1 ≤ m) → ∀ z ∈ addAll r L, z.1 ≤ m := by
  intro L
  induction L with
  | nil => intro r m h _; exact h
  | cons x L ih =>
    intro r m h hL
    refine ih (r := addR r x.1 x.2) (fun z hz => ?_) (fun y hy => hL y (by simp [hy]))
    have hx := hL x (by simp)
    have key : ∀ {r : List Nd}, (∀ z ∈ r, z.1 ≤ m) → ∀ z ∈ addR r x.1 x.2, z.1 ≤ m := by
      intro r
      induction r with
      | nil => intro _ z hz; simp [addR] at hz; subst hz; exact hx
      | cons y r ih2 =>
        intro h z hz
        simp only [addR] at hz
        split at hz
        · rcases List.mem_cons.1 hz with rfl | hz
          · exact hx
          · exact h z (by simp [hz])
        · split at hz
          · rcases List.mem_cons.1 hz with rfl | hz
            · exact hx
            · exact h z hz
          · rcases List.mem_cons.1 hz with rfl | hz
            · exact h _ (by simp)
            · exact ih2 (fun w hw => h w (by simp [hw])) z hz
    exact key h z hz
end Go.Proofs.YtcjnchjmpkapmaaGreat
/- What two digests are merged to: plain law. -/
namespace Go.Proofs.YtcjnchjmpkapmaaGreat
open Go.ChangeShapes Go.WideShapes Go.ChangeAt Go.RowKit
set_option linter.unusedVariables false

def joinR (a b : List Nd) : List Nd := addAll [] (msort (a ++ b))
theorem joinR_sum {a b : List Nd} (ha : Roll a) (hb : Roll b) : SumOf a b (joinR a b) := fold_sum ha hb
theorem addAll_len : ∀ (L r : List Nd), (addAll r L).length ≤ r.length + L.length := by
  intro L
  induction L with
  | nil => intro r; simp [addAll]
  | cons x L ih =>
    intro r
    have h1 := ih (addR r x.1 x.2)
    have h2 := addR_len r x.1 x.2
    simp only [addAll, List.foldl_cons, List.length_cons] at h1 ⊢
    omega
theorem joinR_len (a b : List Nd) : (joinR a b).length ≤ a.length + b.length := by
  have h := addAll_len (msort (a ++ b)) []
  rw [msort_len, List.length_append, List.length_nil] at h
  unfold joinR
  omega
theorem fits_ints {l : Nat} {r : List Nd} (hf : Fits l r) (hl : l ≤ 48) : ints r := by
  intro x hx
  have h1 := hf.roll.2 x hx
  have h2 := hf.lt x hx
  have h3 := getR_le_sum hf.roll x.1
  rw [getR_mem hf.roll hx] at h3
  have h4 := hf.sum
  have h5 : (2 : Int) ^ l ≤ 2 ^ 48 := by exact_mod_cast Nat.pow_le_pow_right (by decide) hl
  have h6 : (2 : Int) ^ 48 = 281474976710656 := by decide
  unfold i64
  omega
theorem light_weaker {l : Nat} {k k2 : Int} {r : List Nd} (hf : Roll r) (h : lightOf l r k = true) (h1 : 1 ≤ k2) (h2 : k2 ≤ k) : lightOf l r k2 = true := light_of fun x hx hk => by
  have a := light_all h x hx hk
  have s0 := sumR_nonneg hf
  have : sumR r / k ≤ sumR r / k2 := by
    have e1 := Int.mul_ediv_add_emod (sumR r) k
    have e2 := Int.emod_nonneg (sumR r) (show k ≠ 0 by omega)
    have q0 : 0 ≤ sumR r / k := Int.ediv_nonneg s0 (by omega)
    refine Int.le_ediv_of_mul_le (by omega) ?_
    have : sumR r / k * k2 ≤ sumR r / k * k := Int.mul_le_mul_of_nonneg_left h2 q0
    have e3 : k * (sumR r / k) = sumR r / k * k := Int.mul_comm _ _
    omega
  omega
structure Joined (l : Nat) (k2 : Int) (ra rb rc : List Nd) : Prop where
  fits : Fits l rc
  light : lightOf l rc k2 = true
  room : (rc.length : Int) ≤ 8 * k2
  len : rc.length ≤ ra.length + rb.length
  sum : sumR rc = sumR ra + sumR rb
  by_ : ∃ pa sa pb sb, RunTo l (sumR ra / k2) ra pa sa ∧ RunTo l (sumR rb / k2) rb pb sb ∧ rc = joinR sa sb
theorem joined_of {l : Nat} {k2 : Int} {ra rb sa sb : List Nd} {pa pb : List Int} (hl : 1 ≤ l ∧ l ≤ 48) (hk : 1 ≤ k2) (fa : Fits l ra) (fb : Fits l rb) (la : lightOf l ra k2 = true) (lb : lightOf l rb k2 = true) (hs : sumR ra + sumR rb ≤ 72057594037927935)
    (ha : RunTo l (sumR ra / k2) ra pa sa) (hb : RunTo l (sumR rb / k2) rb pb sb) : Joined l k2 ra rb (joinR sa sb) := by
  have fsa := ha.folded.fits fa
  have fsb := hb.folded.fits fb
  have lsa := ha.folded.light fa la
  have lsb := hb.folded.light fb lb
  have esa := ha.folded.sum fa
  have esb := hb.folded.sum fb
  have hS := joinR_sum fsa.roll fsb.roll
  have ta := tight_len fsa hl hk (fun p => by rw [esa]; exact ha.tight p)
  have tb := tight_len fsb hl hk (fun p => by rw [esb]; exact hb.tight p)
  have hlen := joinR_len sa sb
  have na := ha.folded.len fa
  have nb := hb.folded.len fb
  have hsum : sumR (joinR sa sb) = sumR ra + sumR rb := by rw [hS.sum, esa, esb]
  refine ⟨⟨hS.roll, fun x hx => ?_, by rw [hsum]; exact hs⟩, light_of fun x hx hi => ?_, by omega, by omega, hsum, pa, sa, pb, sb, ha, hb, rfl⟩
  · rcases hS.cases fsa.roll fsb.roll hx with ⟨y, hy, e⟩ | ⟨y, hy, e⟩
    · rw [← e]; exact fsa.lt y hy
    · rw [← e]; exact fsb.lt y hy
  · have h1 := getR_mem hS.roll hx
    have h2 := get_light fsa.roll hk lsa hi
    have h3 := get_light fsb.roll hk lsb hi
    have h4 := div_add_le (a := sumR sa) (b := sumR sb) hk
    rw [hS.get] at h1
    rw [hS.sum]
    omega
theorem Joined.load {l K : Nat} {k2 : Int} {ra rb rc : List Nd} (h : Joined l k2 ra rb rc) (hl : 1 ≤ l ∧ l ≤ 48) (hd : isDig l k2 K = true) : loadErr l k2 K rc = 0 := by
  unfold loadErr
  rw [if_neg (by simp [hd]), if_neg (by simp [fits_right h.fits hl]), if_neg (by have := h.room; omega), if_neg (by simp [h.light])]
theorem Joined.held {l : Nat} {ka kb k2 : Int} {ra rb rc ma mb : List Nd} (h : Joined l k2 ra rb rc) (ha : Held l ka ra ma) (hb : Held l kb rb mb) (hk : 1 ≤ k2) (h1 : k2 ≤ ka) (h2 : k2 ≤ kb) (hs : sumR ra + sumR rb ≤ 72057594037927935) : Held l k2 rc (pourL ma mb) := by
  obtain ⟨pa, sa, pb, sb, r1, r2, rfl⟩ := h.by_
  have a2 := (ha.weaker hk h1).run r1
  have b2 := (hb.weaker hk h2).run r2
  exact a2.merge b2 hk (joinR_sum a2.fits.roll b2.fits.roll) (by rw [a2.sum, b2.sum, ← ha.sum, ← hb.sum]; exact hs)
end Go.Proofs.YtcjnchjmpkapmaaGreat
/- Package roll: Fold, Join (of nodes that weigh at least 1). -/
namespace Go.Proofs.YtcjnchjmpkapmaaGreat
open Go.ChangeShapes Go.WideShapes Go.ChangeAt Go.RowKit
set_option linter.unusedVariables false
set_option linter.unusedSimpArgs false
set_option maxRecDepth 100000

theorem fold_step {l : List Nd} (hp : ∀ x ∈ l, 1 ≤ x.1 ∧ 1 ≤ x.2) (hs : sumR l ≤ 72057594037927935) {q : Nat} (h : q < (msort l).length) :
    (addAll [] ((msort l).take q) = [] ∧ addAll [] ((msort l).take (q + 1)) = [(msort l)[q]]) ∨
    ∃ (L : List Nd) (y : Nd), addAll [] ((msort l).take q) = L ++ [y] ∧ L.length < q ∧ 0 ≤ y.2 ∧ y.2 + (msort l)[q].2 ≤ 72057594037927935 + 72057594037927935 ∧
      ((y.1 = (msort l)[q].1 ∧ addAll [] ((msort l).take (q + 1)) = L ++ [(y.1, y.2 + (msort l)[q].2)]) ∨ (y.1 ≠ (msort l)[q].1 ∧ addAll [] ((msort l).take (q + 1)) = (L ++ [y]) ++ [(msort l)[q]])) := by
  have hpm : ∀ x ∈ msort l, 1 ≤ x.1 ∧ 1 ≤ x.2 := fun x hx => hp x ((msort_perm l).mem_iff.1 hx)
  have e := addAll_take h
  have hsort := msort_sorted l
  have hsum : ∀ k, sumR ((msort l).take k) ≤ sumR l := fun k => by
    rw [← fold_sumR_perm (msort_perm l)]
    have e1 : sumR ((msort l).take k ++ (msort l).drop k) = sumR (msort l) := by rw [List.take_append_drop]
    have e2 := (sumR_pos fun x hx => (hpm x (List.mem_of_mem_drop (i := k) hx)).2).1
    rw [sumR_append] at e1
    omega
  have hx := hpm _ (List.getElem_mem h)
  obtain ⟨i1, i2, _⟩ := addAll_roll (r := []) (L := (msort l).take q) ⟨.nil, by simp⟩ fun x hx => hpm x (List.mem_of_mem_take hx)
  have hle : ∀ z ∈ addAll [] ((msort l).take q), z.1 ≤ (msort l)[q].1 := addAll_le (by simp) fun z hz => by
    obtain ⟨i, hi, rfl⟩ := List.getElem_of_mem hz
    rw [List.length_take] at hi
    rw [List.getElem_take]
    exact List.pairwise_iff_getElem.1 hsort i q (by omega) h (by omega)
  have hlen := addAll_len ((msort l).take q) []
  rw [List.length_take, List.length_nil] at hlen
  have hq := hsum q
  have hxl : (msort l)[q].2 ≤ sumR l := by
    have e3 := hsum (q + 1)
    rw [List.take_succ_eq_append_getElem h, sumR_append] at e3
    have e4 := (sumR_pos fun x hx => (hpm x (List.mem_of_mem_take (i := q) hx)).2).1
    simp only [sumR] at e3
    omega
  rw [e]
  generalize addAll [] ((msort l).take q) = M at i1 i2 hle hlen ⊢
  generalize (msort l)[q] = x at hx hle hxl ⊢
  rcases List.eq_nil_or_concat M with rfl | ⟨L, y, rfl⟩
  · left; exact ⟨rfl, by simp [addR]⟩
  · right
    simp only [List.concat_eq_append] at *
    have hy := i1.2 y (by simp)
    have hlt : ∀ z ∈ L, z.1 < y.1 := fun z hz => (List.pairwise_append.1 i1.1).2.2 z hz y (by simp)
    have hyx := hle y (by simp)
    have hL := (sumR_pos fun z hz => (i1.2 z (List.mem_append_left _ hz)).2).1
    rw [sumR_append] at i2
    simp only [sumR] at i2
    rw [List.length_append] at hlen
    refine ⟨L, y, rfl, by simp at hlen; omega, by omega, by omega, ?_⟩
    by_cases hxy : y.1 = x.1
    · left
      refine ⟨hxy, ?_⟩
      rw [← hxy]
      exact addR_bump hlt
    · right
      refine ⟨hxy, ?_⟩
      exact addR_new fun z hz => by
        rcases List.mem_append.1 hz with hz | hz
        · have := hlt z hz; omega
        · rw [List.mem_singleton.1 hz]; omega
theorem own_last {w : World} {base e : Nat} {v : Value} {L : List Nd} {y : Nd} (h : Own w base e encN v (L ++ [y])) : ∃ g off n cap, v = .slice (some ⟨g, off, none⟩) n cap ∧ n = L.length + 1 := by
  rcases h with ⟨_, h⟩ | ⟨g, off, cap, cur, rfl, _⟩
  · simp at h
  · exact ⟨g, off, _, cap, rfl, by simp⟩
theorem own_last_cells {w : World} {base e g off n cap : Nat} {L : List Nd} {y : Nd} (h : Own w base e encN (.slice (some ⟨g, off, none⟩) n cap) (L ++ [y])) :
    g < w.heap.size ∧ base ≤ g ∧ (∀ j, w.frozen? ⟨g, j, none⟩ = false) ∧ w.cell? ⟨g, off + L.length * 2, none⟩ = some (.int .i64 y.1) ∧ w.cell? ⟨g, off + L.length * 2 + 1, none⟩ = some (.int .i64 y.2) := by
  have h1 := h.lt g rfl
  have hk : (L ++ [y])[L.length]? = some y := by simp
  rcases h.sl with h2 | ⟨b, o, hA, _, hc⟩
  · simp at h2
  · cases hA
    exact ⟨h1.2, h1.1, fun j => h.frozen j, hc _ y hk 0 _ rfl, hc _ y hk 1 _ rfl⟩
def BumpS (w2 : World) (g oo n co : Nat) (L : List Nd) (y : Nd) (px : Nat) (x1 x2 : Int) (W : World) : Prop :=
  Own W w2.heap.size 153 encN (.slice (some ⟨g, oo, none⟩) n co) (L ++ [y]) ∧ W.heap[px]? = some (.cells #[.int .i64 x1, .int .i64 x2] 153 (0, 0)) ∧ Below w2.heap.size w2 W
theorem bump_own {w2 : World} {g oo n co : Nat} {L : List Nd} {y1 y2 : Int} {px : Nat} {x2 : Int} {W : World} (h : BumpS w2 g oo n co L (y1, y2) px y1 x2 W) :
    Own (W.setCell ⟨g, oo + L.length * 2 + 1, none⟩ (.int .i64 (y2 + x2))) w2.heap.size 153 encN (.slice (some ⟨g, oo, none⟩) n co) (L ++ [(y1, y2 + x2)]) := by
  have hk : L.length < (L ++ [(y1, y2)]).length := by simp
  have := h.1.setElem L.length 1 hk (by decide) (.int .i64 (y2 + x2)) (y1, y2 + x2) (by rw [List.getElem_append_right (Nat.le_refl _)]; simp [encN])
  rwa [List.set_append_right _ _ (Nat.le_refl _), Nat.sub_self, List.set_cons_zero] at this
theorem bump_below {w2 : World} {g oo n co : Nat} {L : List Nd} {y : Nd} {px : Nat} {x1 x2 : Int} {W : World} (h : BumpS w2 g oo n co L y px x1 x2 W) (u : Value) {o : Nat} : Below w2.heap.size w2 (W.setCell ⟨g, o, none⟩ u) :=
  h.2.2.setCell (p := ⟨g, o, none⟩) (own_last_cells h.1).2.1 u
def FoldPost (l : List Nd) (w : World) (e : Ending) (w' : World) : Prop := ∃ v, e = .returned (.tuple #[v, .bool true]) ∧ Own w' w.heap.size 153 encN v (addAll [] (msort l)) ∧ Below w.heap.size w w'
set_option maxHeartbeats 4000000 in
theorem roll_Fold (w : World) (A : Option Addr) (cap : Nat) (l : List Nd) (hS : Sl w w.heap.size encN A l) (hI : ints l) (hp : ∀ x ∈ l, 1 ≤ x.1 ∧ 1 ≤ x.2) (hs : sumR l ≤ 72057594037927935) (hc : l.length ≤ cap) (hcm : cap ≤ maxLen) (hn : l.length ≤ 67108863) :
    Calls Tryz.prog 186 #[.slice A l.length cap] w (FoldPost l w) := by
  have hT : totalOf l = (sumR l, true) := by unfold totalOf; rw [total_ok (fun x hx => (hp x hx).2) (Int.le_refl _) (by omega)]; simp
  have HT := Lib.hid (fun W h => roll_Total W A cap l h hI (by omega))
  rw [hT] at HT
  unfold okV at HT
  have HSo := Lib.hid (fun W h => roll_Sorted W (.slice A l.length cap) l h (by omega))
  have HStep := Lib.hid (fun q (h : q < (msort l).length) => fold_step hp hs h)
  have hpm : ∀ x ∈ msort l, 1 ≤ x.1 ∧ 1 ≤ x.2 := fun x hx => hp x ((msort_perm l).mem_iff.1 hx)
  have HP := Lib.hid hpm
  have hml := msort_len l
  have HS := Lib.hid hS
  unfold FoldPost
  obtain ⟨S, hSe⟩ : ∃ S, S = msort l := ⟨_, rfl⟩
  rw [← hSe] at HSo HStep HP hml ⊢
  clear hS hI hp hs hT hpm hSe
  have hc' := Lib.hid hc
  have hcm' := Lib.hid hcm
  clear hc hcm
  go_enter Tryz.func186, Tryz.ntmps186
  go_wp2_with fail
  refine (HT.out w HS.out).mono ?_
  rintro e w1 ⟨rfl, hb1⟩
  have R1 : Hid (Rd w1 encN (.slice A l.length cap) l) := Lib.hid ⟨A, cap, rfl, hc'.out, hcm'.out, HS.out.keep hb1.size fun p hp => hb1.cell hp⟩
  have B1 := Lib.hid hb1
  clear hb1 HT HS
  go_wp2_with fail
  refine (HSo.out w1 R1.out).mono ?_
  rintro e w2 ⟨v2, rfl, ho2, hb2⟩
  obtain ⟨A2, c2, rfl, _⟩ := ho2.form
  have S2 := Lib.hid ho2.sl
  have B2 := Lib.hid (Below.then_ B1.out hb2)
  clear ho2 hb2 HSo R1 B1
  have hSl : S.length ≤ 67108863 := by omega
  clear hml hn
  go_wp2_with fail
  go_loopw [6, 20] (fun o i wr => ∃ q, q ≤ S.length ∧ i = .int .i64 q ∧ Own wr w2.heap.size 153 encN o (addAll [] (S.take q)) ∧ Below w2.heap.size w2 wr) (fun _ i _ => S.length - (intOf i).toNat)
  case atStart => exact ⟨0, Nat.zero_le _, rfl, .nil _ _ _ _, Below.refl _ _⟩
  case round =>
    obtain ⟨q, hq, rfl, ho, hB⟩ := hrel
    have HO := Lib.hid ho
    have HB := Lib.hid hB
    have sz := hB.size
    clear ho hB
    by_cases hlt : q < S.length
    · obtain ⟨b, off, rfl, hb, hc⟩ := S2.out.at_ hlt
      have d0 := (HB.out.cell (p := ⟨b, off + q * 2 + 0, none⟩) hb).trans (hc 0 (.int .i64 S[q].1) rfl)
      have d1 := (HB.out.cell (p := ⟨b, off + q * 2 + 1, none⟩) hb).trans (hc 1 (.int .i64 S[q].2) rfl)
      simp only [Nat.add_zero] at d0
      have hx := HP.out _ (List.getElem_mem hlt)
      have hst := HStep.out q hlt
      have lb : b < wr.heap.size := Nat.lt_of_lt_of_le hb sz
      obtain ⟨x, hxe⟩ : ∃ x, x = S[q] := ⟨_, rfl⟩
      rw [← hxe] at d0 d1 hx hst
      clear hc hxe
      obtain ⟨x1, x2⟩ := x
      simp only at d0 d1 hx hst
      have hx1 : ¬ x1 < 1 := by omega
      have hx2 : (x2 == 0) = false := by simp; omega
      obtain ⟨M, hM⟩ : ∃ M, M = addAll [] (S.take q) := ⟨_, rfl⟩
      rw [← hM] at HO hst
      clear hM
      rcases hst with ⟨rfl, hN⟩ | ⟨L, y, rfl, hLq, hy0, hyx, hN⟩
      · -- the list is empty
        have HN := Lib.hid hN
        clear hN
        obtain ⟨Ao, co, rfl, _⟩ := HO.out.form
        have OA := Lib.hid (HO.out.alloc (.cells #[.int .i64 x1, .int .i64 x2] 153))
        have BA := Lib.hid (HB.out.alloc sz (.cells #[.int .i64 x1, .int .i64 x2] 153))
        have XA := Lib.hid (heap_alloc_new wr (.cells #[.int .i64 x1, .int .i64 x2] 153))
        go_upto_region 13 with fail
        obtain ⟨px, hpx⟩ : ∃ p, p = wr.heap.size := ⟨_, rfl⟩
        rw [← hpx] at XA ⊢
        generalize wr.alloc (.cells #[.int .i64 x1, .int .i64 x2] 153) = w3 at OA BA XA ⊢
        clear hpx d0 d1 lb HO HB sz
        have sz := BA.out.size
        have x0 := blk_cell XA.out
        have xz := lt_of_block XA.out
        refine wp_region_ext (by kernel_rfl) (by kernel_rfl) ?_
        repeat (go_big_quiet_step (fail))
        refine wpQuiet_nil ?_
        intro w4 hb4
        have hb4 := below_of_ext hb4
        have O4 := Lib.hid (OA.out.below hb4)
        have X4 := Lib.hid (blk_below XA.out hb4)
        have B4 := Lib.hid (BA.out.trans (hb4.mono sz))
        clear hb4 OA XA BA x0 xz
        have x0 := blk_cell X4.out
        have xz := lt_of_block X4.out
        have sz4 := B4.out.size
        have O5 := Lib.hid (O4.out.alloc (.cells #[.int .i64 x1, .int .i64 x2] 153))
        go_wp2_with ((at_builtin; refine wpList_push tyN rfl _ _ rfl encN w4 w2.heap.size (.slice Ao ([] : List Nd).length co) [] rfl O4.out (x1, x2) (by go_simp) rfl ?c1 ?c2 ?c3 ?c4))
        try case c1 => simp
        try case c2 => simp [maxLen]
        try case c3 => exact sz4
        case c4 =>
          intro v5 w5 ho5 _ _ _ hb5 _
          have H5 := Lib.hid (And.intro ho5 (B4.out.trans hb5))
          clear ho5 hb5
          go_wp2_with fail
          go_roundw
          case rel => exact ⟨q + 1, by omega, by go_num, by rw [HN.out]; exact H5.out.1, H5.out.2⟩
          case measure => simp [intOf]; omega
      · have HN := Lib.hid hN
        clear hN
        obtain ⟨g, oo, n, co, rfl, hn⟩ := own_last HO.out
        have hn' := Lib.hid hn
        clear hn
        have OA := Lib.hid (HO.out.alloc (.cells #[.int .i64 x1, .int .i64 x2] 153))
        have BA := Lib.hid (HB.out.alloc sz (.cells #[.int .i64 x1, .int .i64 x2] 153))
        have XA := Lib.hid (heap_alloc_new wr (.cells #[.int .i64 x1, .int .i64 x2] 153))
        go_upto_region 13 with fail
        obtain ⟨px, hpx⟩ : ∃ p, p = wr.heap.size := ⟨_, rfl⟩
        rw [← hpx] at XA ⊢
        generalize wr.alloc (.cells #[.int .i64 x1, .int .i64 x2] 153) = w3 at OA BA XA ⊢
        clear hpx d0 d1 lb HO HB sz
        have sz := BA.out.size
        have x0 := blk_cell XA.out
        have xz := lt_of_block XA.out
        obtain ⟨gl, hgb, gf, c0, c1⟩ := own_last_cells OA.out
        obtain ⟨y1, y2⟩ := y
        simp only at c0 c1 hy0 hyx HN
        have hn := hn'.out
        have k0 : wrap64 ((n : Int) - 1) = (L.length : Int) := by unfold wrap64; omega
        have k1 : (0 : Int) < (n : Int) := by omega
        have k1n : 0 < n := by omega
        have k1d : decide ((0 : Int) < (n : Int)) = true := by simp; omega
        have k1e : decide (0 < n) = true := by simp; omega
        have k1g : decide ((n : Int) > 0) = true := by simp; omega
        have k2 : (L.length : Int) < (n : Int) := by omega
        have k3 : (0 : Int) ≤ (L.length : Int) := by omega
        have kw : wrap64 (y2 + x2) = y2 + x2 := by unfold wrap64; omega
        have k0' : IntKind.i64.wrap ((n : Int) - 1) = (L.length : Int) := by rw [IntKind.wrap_i64]; omega
        have kw' : IntKind.i64.wrap (y2 + x2) = y2 + x2 := by rw [IntKind.wrap_i64]; omega
        clear hn
        by_cases hxy : y1 = x1
        · subst hxy
          have HN2 : Hid (addAll [] (S.take (q + 1)) = L ++ [(y1, y2 + x2)]) := Lib.hid (by rcases HN.out with ⟨_, h⟩ | ⟨h, _⟩ <;> first | exact h | exact absurd rfl h)
          clear HN
          refine wp_region_ext (by kernel_rfl) (by kernel_rfl) ?_
          repeat (go_big_quiet_step (fail))
          refine wpQuiet_nil ?_
          intro w4 hb4
          have hb4 := below_of_ext hb4
          have S4 : Hid (BumpS w2 g oo n co L (y1, y2) px y1 x2 w4) := Lib.hid ⟨OA.out.below hb4, blk_below XA.out hb4, BA.out.trans (hb4.mono sz)⟩
          clear hb4 OA XA BA x0 xz gl hgb gf c0 c1 sz
          go_upto_region 14 with fail
          refine wp_region_noPanic ?_
          refine wp_region_N (fun W' => BumpS w2 g oo n co L (y1, y2) px y1 x2 W') [11] (by kernel_rfl) (⟨S4.out.1.drew, S4.out.2.1, S4.out.2.2.drew⟩) (fun hHeld => ?_)
          have S5 := Lib.hid hHeld
          refine wpAnyN_pure (i := 0) (v := Value.slice (some ⟨g, oo, none⟩) n co) rfl (by kernel_rfl) (by kernel_rfl) (by kernel_rfl) (fun _ _ _ h => h) (Or.inl ⟨by rfl, fun W _ => by go_simp⟩) ?_
          try simp only [List.getElem_toArray, List.getElem_cons_zero, List.getElem_cons_succ, Act.put, List.setIfInBounds_toArray, List.set_cons_zero, List.set_cons_succ]
          refine wpAnyN_pure (i := 1) (v := Value.int .i64 n) rfl (by kernel_rfl) (by kernel_rfl) (by kernel_rfl) (fun _ _ _ h => h) (Or.inl ⟨by rfl, fun W _ => by go_simp⟩) ?_
          try simp only [List.getElem_toArray, List.getElem_cons_zero, List.getElem_cons_succ, Act.put, List.setIfInBounds_toArray, List.set_cons_zero, List.set_cons_succ]
          refine wpAnyN_pure (i := 2) (v := Value.int .i64 L.length) rfl (by kernel_rfl) (by kernel_rfl) (by kernel_rfl) (fun _ _ _ h => h) (Or.inl ⟨by rfl, fun W _ => by go_simp⟩) ?_
          try simp only [List.getElem_toArray, List.getElem_cons_zero, List.getElem_cons_succ, Act.put, List.setIfInBounds_toArray, List.set_cons_zero, List.set_cons_succ]
          refine wpAnyN_pure (i := 3) (v := Value.pointer (some ⟨g, oo + L.length * 2, none⟩)) rfl (by kernel_rfl) (by kernel_rfl) (by kernel_rfl) (fun _ _ _ h => h) (Or.inl ⟨by rfl, fun W _ => by go_simp⟩) ?_
          try simp only [List.getElem_toArray, List.getElem_cons_zero, List.getElem_cons_succ, Act.put, List.setIfInBounds_toArray, List.set_cons_zero, List.set_cons_succ]
          refine wpAnyN_pure (i := 4) (v := Value.pointer (some ⟨g, oo + L.length * 2 + 1, none⟩)) rfl (by kernel_rfl) (by kernel_rfl) (by kernel_rfl) (fun _ _ _ h => h) (Or.inl ⟨by rfl, fun W _ => by go_simp⟩) ?_
          try simp only [List.getElem_toArray, List.getElem_cons_zero, List.getElem_cons_succ, Act.put, List.setIfInBounds_toArray, List.set_cons_zero, List.set_cons_succ]
          refine wpAnyN_take (i := 5) (v := Value.int .i64 y2) rfl (by kernel_rfl) (by kernel_rfl) (by kernel_rfl) (by kernel_rfl) (fun _ _ _ h => h) (Or.inl ⟨by rfl, fun W hW => by have q1 := blk_cell hW.2.1; have q2 := lt_of_block hW.2.1; obtain ⟨q3, _, _, q4, q5⟩ := own_last_cells hW.1; go_simp⟩) S5.out ?_
          try simp only [List.getElem_toArray, List.getElem_cons_zero, List.getElem_cons_succ, Act.put, List.setIfInBounds_toArray, List.set_cons_zero, List.set_cons_succ]
          refine wpAnyN_pure (i := 6) (v := Value.pointer (some ⟨px, 1, none⟩)) rfl (by kernel_rfl) (by kernel_rfl) (by kernel_rfl) (fun _ _ _ h => h) (Or.inl ⟨by rfl, fun W _ => by go_simp⟩) ?_
          try simp only [List.getElem_toArray, List.getElem_cons_zero, List.getElem_cons_succ, Act.put, List.setIfInBounds_toArray, List.set_cons_zero, List.set_cons_succ]
          refine wpAnyN_take (i := 7) (v := Value.int .i64 x2) rfl (by kernel_rfl) (by kernel_rfl) (by kernel_rfl) (by kernel_rfl) (fun _ _ _ h => h) (Or.inl ⟨by rfl, fun W hW => by have q1 := blk_cell hW.2.1; have q2 := lt_of_block hW.2.1; obtain ⟨q3, _, _, q4, q5⟩ := own_last_cells hW.1; go_simp⟩) S5.out ?_
          try simp only [List.getElem_toArray, List.getElem_cons_zero, List.getElem_cons_succ, Act.put, List.setIfInBounds_toArray, List.set_cons_zero, List.set_cons_succ]
          refine wpAnyN_pure (i := 8) (v := Value.int .i64 (y2 + x2)) rfl (by kernel_rfl) (by kernel_rfl) (by kernel_rfl) (fun _ _ _ h => h) (Or.inl ⟨by rfl, fun W _ => by go_simp⟩) ?_
          try simp only [List.getElem_toArray, List.getElem_cons_zero, List.getElem_cons_succ, Act.put, List.setIfInBounds_toArray, List.set_cons_zero, List.set_cons_succ]
          refine wpAnyN_pure (i := 9) (v := Value.pointer (some ⟨g, oo + L.length * 2, none⟩)) rfl (by kernel_rfl) (by kernel_rfl) (by kernel_rfl) (fun _ _ _ h => h) (Or.inl ⟨by rfl, fun W _ => by go_simp⟩) ?_
          try simp only [List.getElem_toArray, List.getElem_cons_zero, List.getElem_cons_succ, Act.put, List.setIfInBounds_toArray, List.set_cons_zero, List.set_cons_succ]
          refine wpAnyN_pure (i := 10) (v := Value.pointer (some ⟨g, oo + L.length * 2 + 1, none⟩)) rfl (by kernel_rfl) (by kernel_rfl) (by kernel_rfl) (fun _ _ _ h => h) (Or.inl ⟨by rfl, fun W _ => by go_simp⟩) ?_
          try simp only [List.getElem_toArray, List.getElem_cons_zero, List.getElem_cons_succ, Act.put, List.setIfInBounds_toArray, List.set_cons_zero, List.set_cons_succ]
          obtain ⟨gl, _, gf, c0, c1⟩ := own_last_cells S5.out.1
          refine wpAnyN_one (i := 11) (by kernel_rfl) rfl (fun K hK => ?_)
          go_simp
          refine hK.out _ _ (fun h _ => absurd (List.mem_singleton.2 rfl) h) ?_
          clear hK K gl gf c0 c1
          try simp only [List.getElem_toArray, List.getElem_cons_zero, List.getElem_cons_succ, Act.put, List.setIfInBounds_toArray, List.set_cons_zero, List.set_cons_succ]
          refine wpAnyN_done (by kernel_rfl) ?_ _
          refine NoPanic.normal ?_
          have O6 := Lib.hid (bump_own S5.out)
          have B6 := Lib.hid (bump_below S5.out (.int .i64 (y2 + x2)) (o := oo + L.length * 2 + 1))
          clear S4 S5
          go_wp2_with fail
          go_roundw
          case rel => exact ⟨q + 1, by omega, by go_num, by rw [HN2.out]; exact O6.out, B6.out⟩
          case measure => simp [intOf]; omega
        · have HN2 : Hid (addAll [] (S.take (q + 1)) = (L ++ [(y1, y2)]) ++ [(x1, x2)]) := Lib.hid (by rcases HN.out with ⟨h, _⟩ | ⟨_, h⟩ <;> first | exact absurd h hxy | exact h)
          have hne : (y1 == x1) = false := by simpa using hxy
          clear HN hxy
          refine wp_region_ext (by kernel_rfl) (by kernel_rfl) ?_
          repeat (go_big_quiet_step (fail))
          refine wpQuiet_nil ?_
          intro w4 hb4
          have hb4 := below_of_ext hb4
          have S4 : Hid (BumpS w2 g oo n co L (y1, y2) px x1 x2 w4) := Lib.hid ⟨OA.out.below hb4, blk_below XA.out hb4, BA.out.trans (hb4.mono sz)⟩
          clear hb4 OA XA BA x0 xz gl hgb gf c0 c1 sz
          have x0 := blk_cell S4.out.2.1
          have xz := lt_of_block S4.out.2.1
          have sz4 := S4.out.2.2.size
          have O4 := Lib.hid S4.out.1
          have B4 := Lib.hid S4.out.2.2
          clear S4
          go_wp2_with ((at_builtin; refine wpList_push tyN rfl _ _ rfl encN w4 w2.heap.size (.slice (some ⟨g, oo, none⟩) n co) (L ++ [(y1, y2)]) rfl O4.out (x1, x2) (by go_simp) rfl ?d1 ?d2 ?d3 ?d4))
          case d1 => have := hn'.out; (try simp only [List.length_append, List.length_cons, List.length_nil]); omega
          case d2 => have := hn'.out; unfold maxLen; (try simp only [List.length_append, List.length_cons, List.length_nil]); omega
          try case d3 => exact sz4
          case d4 =>
            intro v5 w5 ho5 _ _ _ hb5 _
            have H5 := Lib.hid (And.intro ho5 (B4.out.trans hb5))
            clear ho5 hb5
            go_wp2_with fail
            go_roundw
            case rel => exact ⟨q + 1, by omega, by go_num, by rw [HN2.out]; simpa using H5.out.1, H5.out.2⟩
            case measure => simp [intOf]; omega
    · obtain rfl : q = S.length := by omega
      have HO2 : Hid (Own wr w2.heap.size 153 encN u6 (addAll [] S)) := Lib.hid (by have := HO.out; rwa [List.take_length] at this)
      clear HO
      go_wp2_with fail
      go_ret2
      exact ⟨_, rfl, HO2.out.base_le B2.out.size, B2.out.trans (HB.out.mono B2.out.size)⟩
end Go.Proofs.YtcjnchjmpkapmaaGreat
/- Package blend: wrong, lowered. -/
namespace Go.Proofs.YtcjnchjmpkapmaaGreat
open Go.ChangeShapes Go.WideShapes Go.ChangeAt Go.RowKit
set_option linter.unusedVariables false
set_option linter.unusedSimpArgs false
set_option maxRecDepth 100000

def blendErr (la lb : Nat) (ra rb : List Nd) : Int := if la ≠ lb then 6 else if 72057594037927935 < sumR ra + sumR rb then 5 else 0
theorem blend_wrong (w : World) (ga Ka la : Nat) (ka : Int) (ra : List Nd) (Fa : Nat → Prop) (gb Kb lb : Nat) (kb : Int) (rb : List Nd) (Fb : Nat → Prop) (ha : DigAt w ga Ka la ka ra Fa) (hb : DigAt w gb Kb lb kb rb Fb) :
    Calls Tryz.prog 91 #[.pointer (some ⟨ga, 0, none⟩), .pointer (some ⟨gb, 0, none⟩)] w fun e w' => e = .returned (.int .i64 (blendErr la lb ra rb)) ∧ Below w.heap.size w w' := by
  have a0 := sumR_nonneg ha.fits.roll
  have a1 := ha.fits.sum
  have b0 := sumR_nonneg hb.fits.roll
  have b1 := hb.fits.sum
  have HCa := Lib.hid (fun W h => digest_Conf W ga Ka la ka ra Fa h)
  have HCb := Lib.hid (fun W h => digest_Conf W gb Kb lb kb rb Fb h)
  have HNa := Lib.hid (fun W h => digest_N W ga Ka la ka ra Fa h)
  have HNb := Lib.hid (fun W h => digest_N W gb Kb lb kb rb Fb h)
  have HA := Lib.hid ha
  have HB := Lib.hid hb
  unfold blendErr
  clear ha hb
  generalize sumR ra = na at HNa a0 a1 ⊢
  generalize sumR rb = nb at HNb b0 b1 ⊢
  by_cases hl : la = lb
  · subst hl
    rw [if_neg (by simp)]
    have hll : ((la : Int) != (la : Int)) = false := by simp
    by_cases hs : 72057594037927935 < na + nb
    · rw [if_pos hs]
      have hs' : 72057594037927935 - nb < na := by omega
      clear hs
      go_enter Tryz.func91, Tryz.ntmps91
      go_wp2_with fail
      refine (HCa.out w HA.out).mono ?_
      rintro e w1 ⟨rfl, hb1⟩
      have B1 := Lib.hid hb1
      clear hb1
      go_wp2_with fail
      refine (HCb.out w1 (HB.out.below B1.out)).mono ?_
      rintro e w2 ⟨rfl, hb2⟩
      have B2 := Lib.hid (Below.then_ B1.out hb2)
      clear hb2
      go_wp2_with fail
      refine (HNa.out w2 (HA.out.below B2.out)).mono ?_
      rintro e w3 ⟨rfl, hb3⟩
      have B3 := Lib.hid (Below.then_ B2.out hb3)
      clear hb3
      go_wp2_with fail
      refine (HNb.out w3 (HB.out.below B3.out)).mono ?_
      rintro e w4 ⟨rfl, hb4⟩
      have B4 := Lib.hid (Below.then_ B3.out hb4)
      clear hb4
      go_wp2_with fail
      go_ret
      exact ⟨rfl, B4.out⟩
    · rw [if_neg hs]
      have hs' : decide (72057594037927935 - nb < na) = false := by simp; omega
      clear hs
      go_enter Tryz.func91, Tryz.ntmps91
      go_wp2_with fail
      refine (HCa.out w HA.out).mono ?_
      rintro e w1 ⟨rfl, hb1⟩
      have B1 := Lib.hid hb1
      clear hb1
      go_wp2_with fail
      refine (HCb.out w1 (HB.out.below B1.out)).mono ?_
      rintro e w2 ⟨rfl, hb2⟩
      have B2 := Lib.hid (Below.then_ B1.out hb2)
      clear hb2
      go_wp2_with fail
      refine (HNa.out w2 (HA.out.below B2.out)).mono ?_
      rintro e w3 ⟨rfl, hb3⟩
      have B3 := Lib.hid (Below.then_ B2.out hb3)
      clear hb3
      go_wp2_with fail
      refine (HNb.out w3 (HB.out.below B3.out)).mono ?_
      rintro e w4 ⟨rfl, hb4⟩
      have B4 := Lib.hid (Below.then_ B3.out hb4)
      clear hb4
      go_wp2_with fail
      go_ret
      exact ⟨rfl, B4.out⟩
  · rw [if_pos hl]
    have hll : ((la : Int) != (lb : Int)) = true := by simp; omega
    clear hl
    go_enter Tryz.func91, Tryz.ntmps91
    go_wp2_with fail
    refine (HCa.out w HA.out).mono ?_
    rintro e w1 ⟨rfl, hb1⟩
    have B1 := Lib.hid hb1
    clear hb1
    go_wp2_with fail
    refine (HCb.out w1 (HB.out.below B1.out)).mono ?_
    rintro e w2 ⟨rfl, hb2⟩
    have B2 := Lib.hid (Below.then_ B1.out hb2)
    clear hb2
    go_wp2_with fail
    go_ret
    exact ⟨rfl, B2.out⟩
def LowPost (l : Nat) (r : List Nd) (k2 : Int) (w : World) (e : Ending) (w' : World) : Prop :=
  ∃ (v : Value) (ps : List Int) (s : List Nd), e = .returned v ∧ Own w' w.heap.size 153 encN v s ∧ RunTo l (sumR r / k2) r ps s ∧ Below w.heap.size w w'
set_option maxHeartbeats 4000000 in
theorem blend_lowered (w : World) (g K l : Nat) (k : Int) (r : List Nd) (F : Nat → Prop) (h : DigAt w g K l k r F) (hI : ints r) (hlen : r.length ≤ 67108863) (k2 : Int) (h1 : 1 ≤ k2) (h2 : k2 ≤ 1048576) (hln : ∀ ps s, RunTo l (sumR r / k2) r ps s → s.length ≤ 67108864) :
    Calls Tryz.prog 93 #[.pointer (some ⟨g, 0, none⟩), .int .i64 k2] w (LowPost l r k2 w) := by
  have hRt := fits_right h.fits h.l_le
  have hKl := dig_pool h
  have HC := Lib.hid (fun W h => digest_Conf W g K l k r F h)
  have HNo := Lib.hid (fun W h => digest_Nodes W g K l k r F h (by omega))
  have HLd := Lib.hid (fun W A cap hS => pool_Load W K l A cap r hKl hRt hS hI (by omega))
  have HRu := Lib.hid (fun W gp Fp h => press_Run W gp K l r Fp h (by omega) k2 h1 h2)
  have HLn := Lib.hid hln
  have HD := Lib.hid h
  unfold LowPost
  clear h hI hRt hKl h1 h2 hln
  go_enter Tryz.func93, Tryz.ntmps93
  go_wp2_with fail
  refine (HC.out w HD.out).mono ?_
  rintro e w1 ⟨rfl, hb1⟩
  have al := hb1.trans (((Below.refl w1.heap.size w1).alloc (Nat.le_refl _) (.cells #[.int .i64 l, .int .i64 k, .int .i64 K] 23)).mono hb1.size)
  have XC := Lib.hid (heap_alloc_new w1 (.cells #[.int .i64 l, .int .i64 k, .int .i64 K] 23))
  have D3 := Lib.hid (HD.out.below al)
  have B3 := Lib.hid al
  clear hb1 al HC HD
  go_upto_region 2 with fail
  obtain ⟨pc, hpc⟩ : ∃ q, q = w1.heap.size := ⟨_, rfl⟩
  rw [← hpc] at XC ⊢
  generalize w1.alloc (.cells #[.int .i64 l, .int .i64 k, .int .i64 K] 23) = w3 at XC D3 B3 ⊢
  clear hpc
  refine wp_region_noPanic ?_
  refine wp_region_N (fun w' => w'.heap[pc]? = some (.cells #[.int .i64 l, .int .i64 k, .int .i64 K] 23 (0, 0))) [] (by kernel_rfl) (XC.out) (fun hHeld => ?_)
  refine wpAnyN_pure (i := 0) (v := Value.pointer (some ⟨pc, 2, none⟩)) rfl (by kernel_rfl) (by kernel_rfl) (by kernel_rfl) (fun _ _ _ h => h) (Or.inl ⟨by rfl, fun W _ => by go_simp⟩) ?_
  try simp only [List.getElem_toArray, List.getElem_cons_zero, List.getElem_cons_succ, Act.put, List.setIfInBounds_toArray, List.set_cons_zero, List.set_cons_succ]
  refine wpAnyN_take (i := 1) (v := Value.int .i64 K) rfl (by kernel_rfl) (by kernel_rfl) (by kernel_rfl) (by kernel_rfl) (fun _ _ _ h => h) (Or.inl ⟨by rfl, fun W hW => by have q1 := blk_cell hW; have q2 := lt_of_block hW; go_simp⟩) XC.out ?_
  try simp only [List.getElem_toArray, List.getElem_cons_zero, List.getElem_cons_succ, Act.put, List.setIfInBounds_toArray, List.set_cons_zero, List.set_cons_succ]
  refine wpAnyN_pure (i := 2) (v := Value.pointer (some ⟨pc, 0, none⟩)) rfl (by kernel_rfl) (by kernel_rfl) (by kernel_rfl) (fun _ _ _ h => h) (Or.inl ⟨by rfl, fun W _ => by go_simp⟩) ?_
  try simp only [List.getElem_toArray, List.getElem_cons_zero, List.getElem_cons_succ, Act.put, List.setIfInBounds_toArray, List.set_cons_zero, List.set_cons_succ]
  refine wpAnyN_take (i := 3) (v := Value.int .i64 l) rfl (by kernel_rfl) (by kernel_rfl) (by kernel_rfl) (by kernel_rfl) (fun _ _ _ h => h) (Or.inl ⟨by rfl, fun W hW => by have q1 := blk_cell hW; have q2 := lt_of_block hW; go_simp⟩) XC.out ?_
  try simp only [List.getElem_toArray, List.getElem_cons_zero, List.getElem_cons_succ, Act.put, List.setIfInBounds_toArray, List.set_cons_zero, List.set_cons_succ]
  refine wpAnyN_pure (i := 4) (v := Value.pointer (some ⟨g, 0, none⟩)) rfl (by kernel_rfl) (by kernel_rfl) (by kernel_rfl) (fun _ _ _ h => h) (Or.inl ⟨by rfl, fun W _ => by go_simp⟩) ?_
  try simp only [List.getElem_toArray, List.getElem_cons_zero, List.getElem_cons_succ, Act.put, List.setIfInBounds_toArray, List.set_cons_zero, List.set_cons_succ]
  refine wpAnyN_one (i := 5) (by kernel_rfl) rfl (fun K hK => ?_)
  go_simp
  refine (HNo.out w3.drew D3.out.drew).mono ?_
  rintro e w4 ⟨vN, rfl, hoN, hb4⟩
  obtain ⟨AN, cN, rfl, _⟩ := hoN.form
  have ON := Lib.hid hoN
  have B4 := Lib.hid (Below.then_ B3.out.drew hb4)
  have XC4 := Lib.hid (blk_below (w := w3.drew) XC.out hb4)
  clear hb4 hoN
  refine hK.out _ _ (fun _ _ => XC4.out) ?_
  clear hK K
  try simp only [List.getElem_toArray, List.getElem_cons_zero, List.getElem_cons_succ, Act.put, List.setIfInBounds_toArray, List.set_cons_zero, List.set_cons_succ]
  refine wpAnyN_one (i := 6) (by kernel_rfl) rfl (fun K hK => ?_)
  go_simp
  refine (HLd.out w4 AN cN ON.out.sl).mono ?_
  rintro e w5 ⟨gp, Fp, rfl, hP, hF, hb5⟩
  have P5 := Lib.hid (And.intro hP fun b hb => Nat.le_trans B4.out.size (hF b hb))
  have B5 := Lib.hid (Below.then_ B4.out hb5)
  have XC5 := Lib.hid (blk_below XC4.out hb5)
  clear hb5 hP hF
  refine hK.out _ _ (fun _ _ => XC5.out) ?_
  clear hK K
  try simp only [List.getElem_toArray, List.getElem_cons_zero, List.getElem_cons_succ, Act.put, List.setIfInBounds_toArray, List.set_cons_zero, List.set_cons_succ]
  refine wpAnyN_pure (i := 7) (v := Value.tuple #[.pointer (some ⟨gp, 0, none⟩), .int .i64 0]) rfl (by kernel_rfl) (by kernel_rfl) (by kernel_rfl) (fun _ _ _ h => h) (Or.inl ⟨by rfl, fun W _ => by go_simp⟩) ?_
  try simp only [List.getElem_toArray, List.getElem_cons_zero, List.getElem_cons_succ, Act.put, List.setIfInBounds_toArray, List.set_cons_zero, List.set_cons_succ]
  refine wpAnyN_pure (i := 8) (v := Value.pointer (some ⟨gp, 0, none⟩)) rfl (by kernel_rfl) (by kernel_rfl) (by kernel_rfl) (fun _ _ _ h => h) (Or.inl ⟨by rfl, fun W _ => by go_simp⟩) ?_
  try simp only [List.getElem_toArray, List.getElem_cons_zero, List.getElem_cons_succ, Act.put, List.setIfInBounds_toArray, List.set_cons_zero, List.set_cons_succ]
  refine wpAnyN_pure (i := 9) (v := Value.int .i64 0) rfl (by kernel_rfl) (by kernel_rfl) (by kernel_rfl) (fun _ _ _ h => h) (Or.inl ⟨by rfl, fun W _ => by go_simp⟩) ?_
  try simp only [List.getElem_toArray, List.getElem_cons_zero, List.getElem_cons_succ, Act.put, List.setIfInBounds_toArray, List.set_cons_zero, List.set_cons_succ]
  refine wpAnyN_pure (i := 10) (v := Value.pointer (some ⟨gp, 0, none⟩)) rfl (by kernel_rfl) (by kernel_rfl) (by kernel_rfl) (fun _ _ _ h => h) (Or.inl ⟨by rfl, fun W _ => by go_simp⟩) ?_
  try simp only [List.getElem_toArray, List.getElem_cons_zero, List.getElem_cons_succ, Act.put, List.setIfInBounds_toArray, List.set_cons_zero, List.set_cons_succ]
  refine wpAnyN_one (i := 11) (by kernel_rfl) rfl (fun K hK => ?_)
  go_simp
  refine hK.out _ _ (fun _ _ => XC5.out) ?_
  clear hK K
  try simp only [List.getElem_toArray, List.getElem_cons_zero, List.getElem_cons_succ, Act.put, List.setIfInBounds_toArray, List.set_cons_zero, List.set_cons_succ]
  refine wpAnyN_done (by kernel_rfl) ?_ _
  refine NoPanic.normal ?_
  clear XC XC4 D3 B3 ON HNo HLd
  go_upto_region 5 with fail
  go_wp2_with fail
  refine (HRu.out w5 gp Fp P5.out.1).mono ?_
  rintro e w6 ⟨ps, s, rfl, hR, _, Fq, hP6, hT, hG⟩
  have B6 := Lib.hid (B5.out.trans (hT.below P5.out.2 B5.out.size))
  have HR := Lib.hid hR
  have P6 := Lib.hid hP6
  have hsl := HLn.out ps s hR
  clear hR hP6 hT hG HRu P5 XC5
  go_wp2_with fail
  refine (pool_Snap w6 gp K l s Fq P6.out hsl).mono ?_
  rintro e w7 ⟨v, rfl, ho, hb7⟩
  have O7 := Lib.hid (ho.base_le (b := w.heap.size) B6.out.size)
  have B7 := Lib.hid (Below.then_ B6.out hb7)
  clear ho hb7
  go_wp2_with fail
  go_ret
  exact ⟨v, ps, s, rfl, O7.out, HR.out, B7.out⟩
end Go.Proofs.YtcjnchjmpkapmaaGreat
/- roll.Join of two rolls; blend.Merge. -/
namespace Go.Proofs.YtcjnchjmpkapmaaGreat
open Go.ChangeShapes Go.WideShapes Go.ChangeAt Go.RowKit
set_option linter.unusedVariables false
set_option linter.unusedSimpArgs false
set_option maxRecDepth 100000

def JoinPost (a b : List Nd) (w : World) (e : Ending) (w' : World) : Prop := ∃ v, e = .returned (.tuple #[v, .bool true]) ∧ Own w' w.heap.size 153 encN v (joinR a b) ∧ Below w.heap.size w w'
theorem roll_Join (w : World) (A B : Option Addr) (ca cb : Nat) (a b : List Nd) (hA : Sl w w.heap.size encN A a) (hB : Sl w w.heap.size encN B b) (ha : Roll a) (hb : Roll b) (ia : ints a) (ib : ints b) (hs : sumR a + sumR b ≤ 72057594037927935) (hn : a.length + b.length ≤ 67108863) :
    Calls Tryz.prog 92 #[.slice A a.length ca, .slice B b.length cb] w (JoinPost a b w) := by
  have HF := Lib.hid (fun W A' c' h h1 h2 => roll_Fold W A' c' (a ++ b) h (fun x hx => by
    rcases List.mem_append.1 hx with hx | hx
    · exact ia x hx
    · exact ib x hx) (fun x hx => by
    rcases List.mem_append.1 hx with hx | hx
    · exact ha.2 x hx
    · exact hb.2 x hx) (by rw [sumR_append]; exact hs) h1 h2 (by rw [List.length_append]; exact hn))
  have al : Below w.heap.size w (w.alloc (.cells #[.slice A a.length ca, .slice B b.length cb] 46)) := (by repeat (first | with_reducible exact Below.refl _ _ | with_reducible assumption | ((with_reducible refine Below.setCell ?_ ?_ _); rotate_left; · (first | omega | exact Nat.le_refl _ | (simp <;> omega))) | (with_reducible refine Below.allocW ?_ _) | (with_reducible refine Below.drew ?_) | (with_reducible refine Below.extW ?_ _)))
  have HS : Hid (Sl (w.alloc (.cells #[.slice A a.length ca, .slice B b.length cb] 46)) (w.alloc (.cells #[.slice A a.length ca, .slice B b.length cb] 46)).heap.size encSl (some ⟨w.heap.size, 0, none⟩) [(A, ca, a), (B, cb, b)]) := Lib.hid
    ((sl_lit w encSl [(A, ca, a), (B, cb, b)] 46 _ rfl).keep (by simp) fun p hp => rfl)
  have HE : Hid (∀ s ∈ [(A, ca, a), (B, cb, b)], Sl (w.alloc (.cells #[.slice A a.length ca, .slice B b.length cb] 46)) (w.alloc (.cells #[.slice A a.length ca, .slice B b.length cb] 46)).heap.size encN s.1 s.2.2) := Lib.hid fun s hs => by
    rcases List.mem_cons.1 hs with rfl | hs
    · exact hA.keep al.size fun p hp => al.cell hp
    · rw [List.mem_singleton.1 hs]
      exact hB.keep al.size fun p hp => al.cell hp
  have BW := Lib.hid al
  have hall : allN [(A, ca, a), (B, cb, b)] = a ++ b := by simp [allN]
  have HC := Lib.hid (fun W hS hE => concat_N W (some ⟨w.heap.size, 0, none⟩) 2 [(A, ca, a), (B, cb, b)] hS hE (by rw [hall, List.length_append]; omega) (by simp))
  rw [hall] at HC
  unfold JoinPost joinR
  generalize a ++ b = L at HC HF ⊢
  clear hA hB ha hb ia ib hs hn al hall
  go_enter Tryz.func92, Tryz.ntmps92
  go_wp2_with fail
  refine (HC.out _ HS.out HE.out).mono ?_
  rintro e w1 ⟨v1, rfl, ho1, hb1⟩
  obtain ⟨A1, c1, rfl, f1, f2, _⟩ := ho1.form
  have S1 := Lib.hid ho1.sl
  have F1 := Lib.hid f1
  have F2 := Lib.hid f2
  have B1 := Lib.hid (Below.then_ BW.out hb1)
  clear ho1 hb1 HC HS HE BW f1 f2
  go_wp2_with fail
  refine (HF.out w1 A1 c1 S1.out F1.out F2.out).mono ?_
  rintro e w2 ⟨v2, rfl, ho2, hb2⟩
  have O2 := Lib.hid (ho2.base_le B1.out.size)
  have B2 := Lib.hid (Below.then_ B1.out hb2)
  clear ho2 hb2
  go_wp2_with fail
  go_ret2
  exact ⟨v2, rfl, O2.out, B2.out⟩

def MergePost (l K : Nat) (k2 : Int) (ra rb : List Nd) (w : World) (e : Ending) (w' : World) : Prop :=
  ∃ g F rc, e = .returned (.tuple #[.pointer (some ⟨g, 0, none⟩), .int .i64 0]) ∧ DigAt w' g K l k2 rc F ∧ (∀ b, F b → w.heap.size ≤ b) ∧ Joined l k2 ra rb rc ∧ Below w.heap.size w w'
theorem blend_Merge_no (w : World) (ga Ka la : Nat) (ka : Int) (ra : List Nd) (Fa : Nat → Prop) (gb Kb lb : Nat) (kb : Int) (rb : List Nd) (Fb : Nat → Prop) (ha : DigAt w ga Ka la ka ra Fa) (hb : DigAt w gb Kb lb kb rb Fb) (he : blendErr la lb ra rb ≠ 0) :
    Calls Tryz.prog 17 #[.pointer (some ⟨ga, 0, none⟩), .pointer (some ⟨gb, 0, none⟩)] w fun e w' => e = .returned (.tuple #[.pointer none, .int .i64 (blendErr la lb ra rb)]) ∧ Below w.heap.size w w' := by
  have HC := Lib.hid (blend_wrong w ga Ka la ka ra Fa gb Kb lb kb rb Fb ha hb)
  have hne : (blendErr la lb ra rb != 0) = true := by simpa using he
  clear ha hb he
  generalize blendErr la lb ra rb = n at HC hne ⊢
  go_enter Tryz.func17, Tryz.ntmps17
  go_wp2_with fail
  refine HC.out.mono ?_
  rintro e w1 ⟨rfl, hb1⟩
  go_wp2_with fail
  go_ret2
  exact ⟨rfl, hb1⟩
theorem dig_is {w : World} {g K l : Nat} {k : Int} {r : List Nd} {F : Nat → Prop} (h : DigAt w g K l k r F) {k2 : Int} (h1 : 1 ≤ k2) (h2 : k2 ≤ k) : isDig l k2 K = true := by
  obtain ⟨q1, q2, p, F0, _, _, hP⟩ := h
  obtain ⟨p1, p2, _, p', F', _, hk⟩ := hP
  simp only [isDig, isPool, Bool.and_eq_true, decide_eq_true_eq]
  rcases hk with ⟨rfl, h16, _⟩ | ⟨rfl, _⟩
  · omega
  · omega
structure MergeS (w : World) (ga Ka l : Nat) (ka : Int) (ra : List Nd) (Fa : Nat → Prop) (gb Kb : Nat) (kb : Int) (rb : List Nd) (Fb : Nat → Prop) (pc : Nat) (k : Int) (W : World) : Prop where
  a : DigAt W ga Ka l ka ra Fa
  b : DigAt W gb Kb l kb rb Fb
  c : W.heap[pc]? = some (.cells #[.int .i64 l, .int .i64 k, .int .i64 Ka] 23 (0, 0))
  blw : Below w.heap.size w W
  lt : w.heap.size ≤ pc
  na : ¬ Fa pc
  nb : ¬ Fb pc
section
variable {w : World} {ga Ka l : Nat} {ka : Int} {ra : List Nd} {Fa : Nat → Prop} {gb Kb : Nat} {kb : Int} {rb : List Nd} {Fb : Nat → Prop} {pc : Nat} {k k2 : Int} {W W' : World}
theorem MergeS.below (h : MergeS w ga Ka l ka ra Fa gb Kb kb rb Fb pc k W) (hb : Below W.heap.size W W') : MergeS w ga Ka l ka ra Fa gb Kb kb rb Fb pc k W' :=
  ⟨h.a.below hb, h.b.below hb, blk_below h.c hb, h.blw.trans (hb.mono h.blw.size), h.lt, h.na, h.nb⟩
theorem MergeS.drew (h : MergeS w ga Ka l ka ra Fa gb Kb kb rb Fb pc k W) : MergeS w ga Ka l ka ra Fa gb Kb kb rb Fb pc k W.drew := h.below (Below.drew (Below.refl _ _))
theorem MergeS.set (h : MergeS w ga Ka l ka ra Fa gb Kb kb rb Fb pc k W) : MergeS w ga Ka l ka ra Fa gb Kb kb rb Fb pc k2 (W.setCell ⟨pc, 1, none⟩ (.int .i64 k2)) :=
  ⟨h.a.keep fun b hb => Below.heap_setCell _ _ _ _ (fun e => h.na (by have e' : b = pc := e; rw [← e']; exact hb)), h.b.keep fun b hb => Below.heap_setCell _ _ _ _ (fun e => h.nb (by have e' : b = pc := e; rw [← e']; exact hb)), heap_set_at (i := 1) h.c _, h.blw.setCell (p := ⟨pc, 1, none⟩) h.lt _, h.lt, h.na, h.nb⟩
end
set_option maxHeartbeats 8000000 in
theorem blend_Merge (w : World) (ga Ka l : Nat) (ka : Int) (ra : List Nd) (Fa : Nat → Prop) (gb Kb : Nat) (kb : Int) (rb : List Nd) (Fb : Nat → Prop) (ha : DigAt w ga Ka l ka ra Fa) (hb : DigAt w gb Kb l kb rb Fb) (la : lightOf l ra ka = true) (lb : lightOf l rb kb = true) (he : blendErr l l ra rb = 0) (na : ra.length ≤ 33554430) (nb : rb.length ≤ 33554430) :
    Calls Tryz.prog 17 #[.pointer (some ⟨ga, 0, none⟩), .pointer (some ⟨gb, 0, none⟩)] w (MergePost l Ka (min ka kb) ra rb w) := by
  have hll := ha.l_le
  have fa := ha.fits
  have fb := hb.fits
  have hs : sumR ra + sumR rb ≤ 72057594037927935 := by
    unfold blendErr at he
    rw [if_neg (by simp)] at he
    split at he
    · cases he
    · omega
  have hW := Lib.hid (fun W h h' => blend_wrong W ga Ka l ka ra Fa gb Kb l kb rb Fb h h')
  rw [he] at hW
  have a1 := ha.1
  have a2 := ha.2.1
  have b1 := hb.1
  have b2 := hb.2.1
  obtain ⟨k2, hk2⟩ : ∃ k2, k2 = min ka kb := ⟨_, rfl⟩
  have c1 : 1 ≤ k2 := by omega
  have c2 : k2 ≤ ka := by omega
  have c3 : k2 ≤ kb := by omega
  have hD := dig_is ha c1 c2
  have la2 := light_weaker fa.roll la c1 c2
  have lb2 := light_weaker fb.roll lb c1 c3
  have HCa := Lib.hid (fun W h => digest_Conf W ga Ka l ka ra Fa h)
  have HCb := Lib.hid (fun W h => digest_Conf W gb Kb l kb rb Fb h)
  have HLa := Lib.hid (fun W h => blend_lowered W ga Ka l ka ra Fa h (fits_ints fa hll.2) (by omega) k2 c1 (by omega) (fun ps s hR => by have := hR.folded.len fa; omega))
  have HLb := Lib.hid (fun W h => blend_lowered W gb Kb l kb rb Fb h (fits_ints fb hll.2) (by omega) k2 c1 (by omega) (fun ps s hR => by have := hR.folded.len fb; omega))
  have HJ := Lib.hid (fun pa sa pb sb (ha : RunTo l (sumR ra / k2) ra pa sa) (hb : RunTo l (sumR rb / k2) rb pb sb) => joined_of hll c1 fa fb la2 lb2 hs ha hb)
  have HJn := Lib.hid (fun pa sa pb sb (ha : RunTo l (sumR ra / k2) ra pa sa) (hb : RunTo l (sumR rb / k2) rb pb sb) W A B ca cb h1 h2 => roll_Join W A B ca cb sa sb h1 h2 (ha.folded.fits fa).roll (hb.folded.fits fb).roll (fits_ints (ha.folded.fits fa) hll.2) (fits_ints (hb.folded.fits fb) hll.2) (by rw [ha.folded.sum fa, hb.folded.sum fb]; exact hs) (by have := ha.folded.len fa; have := hb.folded.len fb; omega))
  have HLo := Lib.hid (fun rc (h : Joined l k2 ra rb rc) W A c hS => digest_Load W l Ka k2 A c rc (h.load hll hD) hS (fits_ints h.fits hll.2) (by have := h.len; omega))
  have M0 := Lib.hid (And.intro ha hb)
  unfold MergePost
  rw [← hk2]
  have hmin := Lib.hid hk2
  clear ha hb la lb he na nb fa fb hs hD la2 lb2 hk2
  go_enter Tryz.func17, Tryz.ntmps17
  go_wp2_with fail
  refine (hW.out w M0.out.1 M0.out.2).mono ?_
  rintro e w1 ⟨rfl, hb1⟩
  have M1 := Lib.hid (And.intro (M0.out.1.below hb1) (M0.out.2.below hb1))
  have B1 := Lib.hid hb1
  clear hb1 M0 hW
  go_wp2_with fail
  refine (HCa.out w1 M1.out.1).mono ?_
  rintro e w2 ⟨rfl, hb2⟩
  have M2 : Hid (MergeS w ga Ka l ka ra Fa gb Kb kb rb Fb w2.heap.size ka (w2.alloc (.cells #[.int .i64 l, .int .i64 ka, .int .i64 Ka] 23))) := Lib.hid (by
    have da := M1.out.1.below hb2
    have db := M1.out.2.below hb2
    have al := (Below.refl w2.heap.size w2).alloc (Nat.le_refl _) (.cells #[.int .i64 l, .int .i64 ka, .int .i64 Ka] 23)
    have B2 := Below.then_ B1.out hb2
    exact ⟨da.below al, db.below al, heap_alloc_new w2 _, B2.trans (al.mono B2.size), B2.size, fun h => by have := da.lt _ h; omega, fun h => by have := db.lt _ h; omega⟩)
  clear hb2 M1 B1 HCa
  go_upto_region 5 with fail
  obtain ⟨pc, hpc⟩ : ∃ p, p = w2.heap.size := ⟨_, rfl⟩
  rw [← hpc] at M2 ⊢
  generalize w2.alloc (.cells #[.int .i64 l, .int .i64 ka, .int .i64 Ka] 23) = w3 at M2 ⊢
  clear hpc
  refine wp_region_noPanic ?_
  refine wp_region_N (fun W' => MergeS w ga Ka l ka ra Fa gb Kb kb rb Fb pc ka W') [7] (by kernel_rfl) (M2.out.drew) (fun hHeld => ?_)
  have M3 := Lib.hid hHeld
  refine wpAnyN_pure (i := 0) (v := Value.pointer (some ⟨pc, 1, none⟩)) rfl (by kernel_rfl) (by kernel_rfl) (by kernel_rfl) (fun _ _ _ h => h) (Or.inl ⟨by rfl, fun W _ => by go_simp⟩) ?_
  try simp only [List.getElem_toArray, List.getElem_cons_zero, List.getElem_cons_succ, Act.put, List.setIfInBounds_toArray, List.set_cons_zero, List.set_cons_succ]
  refine wpAnyN_take (i := 1) (v := Value.int .i64 ka) rfl (by kernel_rfl) (by kernel_rfl) (by kernel_rfl) (by kernel_rfl) (fun _ _ _ h => h) (Or.inl ⟨by rfl, fun W hW => by have q1 := blk_cell hW.c; have q2 := lt_of_block hW.c; go_simp⟩) M3.out ?_
  try simp only [List.getElem_toArray, List.getElem_cons_zero, List.getElem_cons_succ, Act.put, List.setIfInBounds_toArray, List.set_cons_zero, List.set_cons_succ]
  refine wpAnyN_pure (i := 2) (v := Value.pointer (some ⟨gb, 0, none⟩)) rfl (by kernel_rfl) (by kernel_rfl) (by kernel_rfl) (fun _ _ _ h => h) (Or.inl ⟨by rfl, fun W _ => by go_simp⟩) ?_
  try simp only [List.getElem_toArray, List.getElem_cons_zero, List.getElem_cons_succ, Act.put, List.setIfInBounds_toArray, List.set_cons_zero, List.set_cons_succ]
  refine wpAnyN_one (i := 3) (by kernel_rfl) rfl (fun K hK => ?_)
  go_simp
  refine (HCb.out w3.drew M3.out.b).mono ?_
  rintro e w4 ⟨rfl, hb4⟩
  have M4 := Lib.hid (M3.out.below hb4)
  clear hb4
  refine hK.out _ _ (fun _ _ => M4.out) ?_
  clear hK K
  try simp only [List.getElem_toArray, List.getElem_cons_zero, List.getElem_cons_succ, Act.put, List.setIfInBounds_toArray, List.set_cons_zero, List.set_cons_succ]
  refine wpAnyN_pure (i := 4) (v := Value.int .i64 kb) rfl (by kernel_rfl) (by kernel_rfl) (by kernel_rfl) (fun _ _ _ h => h) (Or.inl ⟨by rfl, fun W _ => by go_simp⟩) ?_
  try simp only [List.getElem_toArray, List.getElem_cons_zero, List.getElem_cons_succ, Act.put, List.setIfInBounds_toArray, List.set_cons_zero, List.set_cons_succ]
  refine wpAnyN_pure (i := 5) (v := Value.int .i64 k2) rfl (by kernel_rfl) (by kernel_rfl) (by kernel_rfl) (fun _ _ _ h => h) (Or.inl ⟨by rfl, fun W _ => by rw [hmin.out]; go_simp⟩) ?_
  try simp only [List.getElem_toArray, List.getElem_cons_zero, List.getElem_cons_succ, Act.put, List.setIfInBounds_toArray, List.set_cons_zero, List.set_cons_succ]
  refine wpAnyN_pure (i := 6) (v := Value.pointer (some ⟨pc, 1, none⟩)) rfl (by kernel_rfl) (by kernel_rfl) (by kernel_rfl) (fun _ _ _ h => h) (Or.inl ⟨by rfl, fun W _ => by go_simp⟩) ?_
  try simp only [List.getElem_toArray, List.getElem_cons_zero, List.getElem_cons_succ, Act.put, List.setIfInBounds_toArray, List.set_cons_zero, List.set_cons_succ]
  have pcl := blk_cell M4.out.c
  have pf := blk_frozen M4.out.c
  have pz := lt_of_block M4.out.c
  refine wpAnyN_one (i := 7) (by kernel_rfl) rfl (fun K hK => ?_)
  go_simp
  refine hK.out _ _ (fun h _ => absurd (List.mem_singleton.2 rfl) h) ?_
  clear hK K pf pz pcl
  try simp only [List.getElem_toArray, List.getElem_cons_zero, List.getElem_cons_succ, Act.put, List.setIfInBounds_toArray, List.set_cons_zero, List.set_cons_succ]
  refine wpAnyN_done (by kernel_rfl) ?_ _
  refine NoPanic.normal ?_
  have M5 : Hid (MergeS w ga Ka l ka ra Fa gb Kb kb rb Fb pc k2 (w4.setCell ⟨pc, 1, none⟩ (.int .i64 k2))) := Lib.hid M4.out.set
  clear M2 M3 M4 HCb hmin
  go_upto_region 6 with fail
  generalize w4.setCell ⟨pc, 1, none⟩ (.int .i64 k2) = w5 at M5 ⊢
  refine wp_region_noPanic ?_
  refine wp_region_N (fun W' => MergeS w ga Ka l ka ra Fa gb Kb kb rb Fb pc k2 W') [] (by kernel_rfl) (M5.out.drew) (fun hHeld => ?_)
  have M6 := Lib.hid hHeld
  generalize w5.drew = w6 at M6 ⊢
  refine wpAnyN_pure (i := 0) (v := Value.pointer (some ⟨ga, 0, none⟩)) rfl (by kernel_rfl) (by kernel_rfl) (by kernel_rfl) (fun _ _ _ h => h) (Or.inl ⟨by rfl, fun W _ => by go_simp⟩) ?_
  try simp only [List.getElem_toArray, List.getElem_cons_zero, List.getElem_cons_succ, Act.put, List.setIfInBounds_toArray, List.set_cons_zero, List.set_cons_succ]
  refine wpAnyN_pure (i := 1) (v := Value.pointer (some ⟨pc, 1, none⟩)) rfl (by kernel_rfl) (by kernel_rfl) (by kernel_rfl) (fun _ _ _ h => h) (Or.inl ⟨by rfl, fun W _ => by go_simp⟩) ?_
  try simp only [List.getElem_toArray, List.getElem_cons_zero, List.getElem_cons_succ, Act.put, List.setIfInBounds_toArray, List.set_cons_zero, List.set_cons_succ]
  refine wpAnyN_take (i := 2) (v := Value.int .i64 k2) rfl (by kernel_rfl) (by kernel_rfl) (by kernel_rfl) (by kernel_rfl) (fun _ _ _ h => h) (Or.inl ⟨by rfl, fun W hW => by have q1 := blk_cell hW.c; have q2 := lt_of_block hW.c; go_simp⟩) M6.out ?_
  try simp only [List.getElem_toArray, List.getElem_cons_zero, List.getElem_cons_succ, Act.put, List.setIfInBounds_toArray, List.set_cons_zero, List.set_cons_succ]
  refine wpAnyN_pure (i := 4) (v := Value.pointer (some ⟨gb, 0, none⟩)) rfl (by kernel_rfl) (by kernel_rfl) (by kernel_rfl) (fun _ _ _ h => h) (Or.inl ⟨by rfl, fun W _ => by go_simp⟩) ?_
  try simp only [List.getElem_toArray, List.getElem_cons_zero, List.getElem_cons_succ, Act.put, List.setIfInBounds_toArray, List.set_cons_zero, List.set_cons_succ]
  refine wpAnyN_pure (i := 5) (v := Value.pointer (some ⟨pc, 1, none⟩)) rfl (by kernel_rfl) (by kernel_rfl) (by kernel_rfl) (fun _ _ _ h => h) (Or.inl ⟨by rfl, fun W _ => by go_simp⟩) ?_
  try simp only [List.getElem_toArray, List.getElem_cons_zero, List.getElem_cons_succ, Act.put, List.setIfInBounds_toArray, List.set_cons_zero, List.set_cons_succ]
  refine wpAnyN_take (i := 6) (v := Value.int .i64 k2) rfl (by kernel_rfl) (by kernel_rfl) (by kernel_rfl) (by kernel_rfl) (fun _ _ _ h => h) (Or.inl ⟨by rfl, fun W hW => by have q1 := blk_cell hW.c; have q2 := lt_of_block hW.c; go_simp⟩) M6.out ?_
  try simp only [List.getElem_toArray, List.getElem_cons_zero, List.getElem_cons_succ, Act.put, List.setIfInBounds_toArray, List.set_cons_zero, List.set_cons_succ]
  clear M5
  refine wpAnyN_one (i := 3) (by kernel_rfl) rfl (fun K hK => ?_)
  go_simp
  refine (HLa.out w6 M6.out.a).mono ?_
  rintro e w7 ⟨va, pa, sa, rfl, ho, hRa, hb7⟩
  obtain ⟨Aa, ca, rfl, _⟩ := ho.form
  have Oa := Lib.hid ho
  have Ra := Lib.hid hRa
  have M7 := Lib.hid (M6.out.below hb7)
  clear ho hRa hb7
  refine hK.out _ _ (fun _ _ => M7.out) ?_
  clear hK K
  try simp only [List.getElem_toArray, List.getElem_cons_zero, List.getElem_cons_succ, Act.put, List.setIfInBounds_toArray, List.set_cons_zero, List.set_cons_succ]
  refine wpAnyN_one (i := 7) (by kernel_rfl) rfl (fun K hK => ?_)
  go_simp
  refine (HLb.out w7 M7.out.b).mono ?_
  rintro e w8 ⟨vb, pb, sb, rfl, ho, hRb, hb8⟩
  obtain ⟨Ab, cb, rfl, _⟩ := ho.form
  have Ob := Lib.hid ho
  have Rb := Lib.hid hRb
  have M8 := Lib.hid (M7.out.below hb8)
  have Oa8 := Lib.hid (Oa.out.below hb8)
  clear ho hRb hb8 HLa HLb Oa
  refine hK.out _ _ (fun _ _ => M8.out) ?_
  clear hK K
  try simp only [List.getElem_toArray, List.getElem_cons_zero, List.getElem_cons_succ, Act.put, List.setIfInBounds_toArray, List.set_cons_zero, List.set_cons_succ]
  have JJ := Lib.hid (HJ.out pa sa pb sb Ra.out Rb.out)
  refine wpAnyN_one (i := 8) (by kernel_rfl) rfl (fun K hK => ?_)
  go_simp
  refine (HJn.out pa sa pb sb Ra.out Rb.out w8 Aa Ab ca cb Oa8.out.sl Ob.out.sl).mono ?_
  rintro e w9 ⟨v9, rfl, ho9, hb9⟩
  obtain ⟨A9, c9, rfl, _⟩ := ho9.form
  have S9 := Lib.hid ho9.sl
  have M9 := Lib.hid (M8.out.below hb9)
  clear ho9 hb9 HJ HJn Oa8 Ob Ra Rb M6 M7 M8
  refine hK.out _ _ (fun _ _ => M9.out) ?_
  clear hK K
  try simp only [List.getElem_toArray, List.getElem_cons_zero, List.getElem_cons_succ, Act.put, List.setIfInBounds_toArray, List.set_cons_zero, List.set_cons_succ]
  obtain ⟨rc, hrc⟩ : ∃ r, r = joinR sa sb := ⟨_, rfl⟩
  rw [← hrc] at JJ S9 ⊢
  clear hrc
  refine wpAnyN_pure (i := 9) (v := Value.tuple #[Value.slice A9 rc.length c9, .bool true]) rfl (by kernel_rfl) (by kernel_rfl) (by kernel_rfl) (fun _ _ _ h => h) (Or.inl ⟨by rfl, fun W _ => by go_simp⟩) ?_
  try simp only [List.getElem_toArray, List.getElem_cons_zero, List.getElem_cons_succ, Act.put, List.setIfInBounds_toArray, List.set_cons_zero, List.set_cons_succ]
  refine wpAnyN_pure (i := 10) (v := Value.slice A9 rc.length c9) rfl (by kernel_rfl) (by kernel_rfl) (by kernel_rfl) (fun _ _ _ h => h) (Or.inl ⟨by rfl, fun W _ => by go_simp⟩) ?_
  try simp only [List.getElem_toArray, List.getElem_cons_zero, List.getElem_cons_succ, Act.put, List.setIfInBounds_toArray, List.set_cons_zero, List.set_cons_succ]
  refine wpAnyN_pure (i := 11) (v := Value.bool true) rfl (by kernel_rfl) (by kernel_rfl) (by kernel_rfl) (fun _ _ _ h => h) (Or.inl ⟨by rfl, fun W _ => by go_simp⟩) ?_
  try simp only [List.getElem_toArray, List.getElem_cons_zero, List.getElem_cons_succ, Act.put, List.setIfInBounds_toArray, List.set_cons_zero, List.set_cons_succ]
  refine wpAnyN_pure (i := 12) (v := Value.slice A9 rc.length c9) rfl (by kernel_rfl) (by kernel_rfl) (by kernel_rfl) (fun _ _ _ h => h) (Or.inl ⟨by rfl, fun W _ => by go_simp⟩) ?_
  try simp only [List.getElem_toArray, List.getElem_cons_zero, List.getElem_cons_succ, Act.put, List.setIfInBounds_toArray, List.set_cons_zero, List.set_cons_succ]
  refine wpAnyN_one (i := 13) (by kernel_rfl) rfl (fun K hK => ?_)
  go_simp
  refine hK.out _ _ (fun _ _ => M9.out) ?_
  clear hK K
  try simp only [List.getElem_toArray, List.getElem_cons_zero, List.getElem_cons_succ, Act.put, List.setIfInBounds_toArray, List.set_cons_zero, List.set_cons_succ]
  refine wpAnyN_done (by kernel_rfl) ?_ _
  refine NoPanic.normal ?_
  have x0 := blk_cell M9.out.c
  have xz := lt_of_block M9.out.c
  go_wp2_with fail
  refine (HLo.out rc JJ.out w9 A9 c9 S9.out).mono ?_
  rintro e w10 ⟨gr, Fr, rfl, hd, hf, hb10⟩
  have D10 := Lib.hid hd
  have E10 := Lib.hid (fun b hb => Nat.le_trans M9.out.blw.size (hf b hb))
  have B10 := Lib.hid (Below.then_ M9.out.blw hb10)
  clear hd hf hb10 x0 xz M9 HLo
  go_wp2_with fail
  go_ret2
  exact ⟨gr, Fr, rc, rfl, D10.out, E10.out, JJ.out, B10.out⟩
end Go.Proofs.YtcjnchjmpkapmaaGreat
/- Reference 10: Pour (where there is room). -/
namespace Go.Proofs.YtcjnchjmpkapmaaGreat
open Go.ChangeShapes Go.WideShapes Go.ChangeAt Go.RowKit
set_option linter.unusedVariables false
set_option linter.unusedSimpArgs false
set_option maxRecDepth 100000

theorem pour_take {ma mb : List Nd} {q : Nat} (h : q < mb.length) : pourL ma (mb.take (q + 1)) = addR (pourL ma (mb.take q)) mb[q].1 mb[q].2 := by
  rw [List.take_succ_eq_append_getElem h, pourL_snoc]
theorem pourL_len (ma : List Nd) : ∀ (mb : List Nd), (pourL ma mb).length ≤ ma.length + mb.length := by
  intro mb
  induction mb generalizing ma with
  | nil => simp [pourL]
  | cons x mb ih =>
    have h1 := ih (addR ma x.1 x.2)
    have h2 := addR_len ma x.1 x.2
    simp only [pourL, List.foldl_cons, List.length_cons] at h1 ⊢
    omega
theorem pour_part {l : Nat} {ma mb : List Nd} (ha : BagL l ma) (hb : BagL l mb) (hs : sumR ma + sumR mb ≤ 72057594037927935) {q : Nat} (h : q < mb.length) :
    BagL l (pourL ma (mb.take q)) ∧ sumR (pourL ma (mb.take q)) + mb[q].2 ≤ 72057594037927935 ∧ 1 ≤ mb[q].2 := by
  have h1 := sumR_take_succ h
  have hr : ∀ k, sumR (mb.take k) ≤ sumR mb := fun k => by
    have e : sumR (mb.take k ++ mb.drop k) = sumR mb := by rw [List.take_append_drop]
    have := (sumR_pos fun y hy => (hb.val y (List.mem_of_mem_drop (i := k) hy)).2.2).1
    rw [sumR_append] at e
    omega
  have h2 := hr (q + 1)
  have h3 := (hb.val _ (List.getElem_mem h)).2.2
  obtain ⟨i1, i2, _⟩ := pour_leaves (mb := mb.take q) ha (fun x hx => hb.val x (List.mem_of_mem_take hx)) (by have := hr q; omega)
  exact ⟨i1, by omega, h3⟩
structure PourS (w : World) (l : Nat) (A : Option Addr) (ca : Nat) (ma : List Nd) (B : Option Addr) (cb : Nat) (mb : List Nd) (W : World) : Prop where
  x : W.heap[w.heap.size]? = some (.cells #[.int .i64 l, .slice A ma.length ca] 31 (0, 0))
  y : W.heap[w.heap.size + 1]? = some (.cells #[.int .i64 l, .slice B mb.length cb] 31 (0, 0))
  z : W.heap[w.heap.size + 2]? = some (.cells #[.int .i64 0, .slice none 0 0] 31 (0, 0))
  s : SlT W 96 encN A ma
  t : SlT W 96 encN B mb
  blw : Below w.heap.size w W
theorem PourS.below {w : World} {l : Nat} {A : Option Addr} {ca : Nat} {ma : List Nd} {B : Option Addr} {cb : Nat} {mb : List Nd} {W W' : World} (h : PourS w l A ca ma B cb mb W) (hb : Below W.heap.size W W') : PourS w l A ca ma B cb mb W' :=
  ⟨blk_below h.x hb, blk_below h.y hb, blk_below h.z hb, h.s.below hb, h.t.below hb, h.blw.trans (hb.mono h.blw.size)⟩
theorem slT_cell {w : World} {e : TypeId} {b off q : Nat} {mb : List Nd} {x : Nd} (h : SlT w e encN (some ⟨b, off, none⟩) mb) (hx : mb[q]? = some x) :
    w.cell? ⟨b, off + q * 2, none⟩ = some (.int .i64 x.1) ∧ w.cell? ⟨b, off + q * 2 + 1, none⟩ = some (.int .i64 x.2) := by
  obtain ⟨hq, rfl⟩ := List.getElem?_eq_some_iff.1 hx
  exact ⟨by have := h.cell_at hq 0 (.int .i64 mb[q].1) rfl; simpa using this, h.cell_at hq 1 (.int .i64 mb[q].2) rfl⟩
structure PourB (w : World) (l : Nat) (A : Option Addr) (ca : Nat) (ma : List Nd) (B : Option Addr) (cb : Nat) (mb : List Nd) (p6 : Nat) (A' : Option Addr) (c' : Nat) (m : List Nd) (W : World) : Prop where
  a : PourS w l A ca ma B cb mb W
  p : W.heap[p6]? = some (.cells #[.int .i64 l, .slice A' m.length c'] 31 (0, 0))
  u : SlT W 96 encN A' m
  lt : w.heap.size + 2 < p6
section
variable {w : World} {l : Nat} {A : Option Addr} {ca : Nat} {ma : List Nd} {B : Option Addr} {cb : Nat} {mb : List Nd} {p6 : Nat} {A' : Option Addr} {c' : Nat} {m m2 : List Nd} {A2 : Option Addr} {c2 : Nat} {W W' : World}
theorem PourB.below (h : PourB w l A ca ma B cb mb p6 A' c' m W) (hb : Below W.heap.size W W') : PourB w l A ca ma B cb mb p6 A' c' m W' := ⟨h.a.below hb, blk_below h.p hb, h.u.below hb, h.lt⟩
theorem PourB.set (h : PourB w l A ca ma B cb mb p6 A' c' m W) (hu : SlT W 96 encN A2 m2) : PourB w l A ca ma B cb mb p6 A2 c2 m2 ((W.setCell ⟨p6, 0, none⟩ (.int .i64 l)).setCell ⟨p6, 1, none⟩ (.slice A2 m2.length c2)) := by
  have hlt := h.lt
  have ne : ∀ b, b ≠ p6 → ((W.setCell ⟨p6, 0, none⟩ (.int .i64 l)).setCell ⟨p6, 1, none⟩ (.slice A2 m2.length c2)).heap[b]? = W.heap[b]? := fun b hb => (Below.heap_setCell _ _ _ _ hb).trans (Below.heap_setCell _ _ _ _ hb)
  have tp : TypeAt W p6 31 := .of h.p
  have tp2 : TypeAt (W.setCell ⟨p6, 0, none⟩ (.int .i64 l)) p6 31 := .of (set_nil h.p)
  have st : ∀ {X : Option Addr} {x : List Nd}, SlT W 96 encN X x → SlT ((W.setCell ⟨p6, 0, none⟩ (.int .i64 l)).setCell ⟨p6, 1, none⟩ (.slice A2 m2.length c2)) 96 encN X x := fun hx => (hx.setCellT (p := ⟨p6, 0, none⟩) tp (by decide)).setCellT (p := ⟨p6, 1, none⟩) tp2 (by decide)
  exact ⟨⟨(ne _ (by omega)).trans h.a.x, (ne _ (by omega)).trans h.a.y, (ne _ (by omega)).trans h.a.z, st h.a.s, st h.a.t, (h.a.blw.setCell (p := ⟨p6, 0, none⟩) (by show w.heap.size ≤ p6; omega) _).setCell (p := ⟨p6, 1, none⟩) (by show w.heap.size ≤ p6; omega) _⟩, set_one (set_nil h.p), st hu, hlt⟩
end
set_option maxHeartbeats 4000000 in
theorem ref10_Pour (w : World) (l : Nat) (A : Option Addr) (ca : Nat) (ma : List Nd) (B : Option Addr) (cb : Nat) (mb : List Nd) (hSa : SlT w 96 encN A ma) (hSb : SlT w 96 encN B mb) (ha : BagL l ma) (hb : BagL l mb) (hs : sumR ma + sumR mb ≤ 72057594037927935) (hla : ma.length ≤ 30000) (hlb : mb.length ≤ 30000) :
    Calls Tryz.prog 18 #[bagV l A ma.length ca, bagV l B mb.length cb] w fun e w' => ∃ A' cap', e = .returned (.tuple #[bagV l A' (pourL ma mb).length cap', .int .i64 0]) ∧ SlT w' 96 encN A' (pourL ma mb) ∧ Below w.heap.size w w' := by
  have a0 := ha.sum0
  have b0 := hb.sum0
  have HTa := Lib.hid (fun W h => ref10_Total W l A ca ma h (fun x hx => (ha.val x hx).2.2) ha.sum)
  have HTb := Lib.hid (fun W h => ref10_Total W l B cb mb h (fun x hx => (hb.val x hx).2.2) hb.sum)
  have hgt : decide (72057594037927935 - sumR ma < sumR mb) = false := by simp; omega
  have S0 : Hid (PourS w l A ca ma B cb mb (((w.alloc (.cells #[.int .i64 l, .slice A ma.length ca] 31)).alloc (.cells #[.int .i64 l, .slice B mb.length cb] 31)).alloc (.cells #[.int .i64 0, .slice none 0 0] 31))) := Lib.hid
    ⟨((heap_new_lt _ _ _ (by simp; omega)).trans (heap_new_lt _ _ _ (by simp))).trans (heap_alloc_new w _), (heap_new_lt _ _ _ (by simp)).trans (heap_new_at (w.alloc _) _ _ (by simp)), heap_new_at ((w.alloc _).alloc _) _ _ (by simp), ((hSa.alloc _).alloc _).alloc _, ((hSb.alloc _).alloc _).alloc _, (by repeat (first | with_reducible exact Below.refl _ _ | with_reducible assumption | ((with_reducible refine Below.setCell ?_ ?_ _); rotate_left; · (first | omega | exact Nat.le_refl _ | (simp <;> omega))) | (with_reducible refine Below.allocW ?_ _) | (with_reducible refine Below.drew ?_) | (with_reducible refine Below.extW ?_ _)))⟩
  unfold bagV at HTa HTb ⊢
  clear hSa hSb
  go_enter Tryz.func18, Tryz.ntmps18
  go_upto_region 1 with fail
  generalize ((w.alloc (.cells #[.int .i64 l, .slice A ma.length ca] 31)).alloc (.cells #[.int .i64 l, .slice B mb.length cb] 31)).alloc (.cells #[.int .i64 0, .slice none 0 0] 31) = W0 at S0 ⊢
  have x0 := blk_cell S0.out.x
  have xz := lt_of_block S0.out.x
  have y0 := blk_cell S0.out.y
  have yz := lt_of_block S0.out.y
  go_upto_region 3 with fail
  refine wp_region_ext (by kernel_rfl) (by kernel_rfl) ?_
  repeat (go_big_quiet_step (first | (go_at_call_of 33 (Value.slice B mb.length cb); exact quiet_ext (HTb.out _ ((S0.out.t.below (ext_below _ _)).sl))) | (go_at_call 33; exact quiet_ext (HTa.out _ ((S0.out.s.below (ext_below _ _)).sl)))))
  refine wpQuiet_nil ?_
  intro w2 hb2
  have S2 := Lib.hid (S0.out.below (below_of_ext hb2))
  clear hb2 x0 xz y0 yz S0 HTa HTb
  have x0 := blk_cell S2.out.x
  have xz := lt_of_block S2.out.x
  go_upto_region 6 with fail
  have al := (Below.refl w2.heap.size w2).alloc (Nat.le_refl _) (.cells #[.int .i64 l, .slice A ma.length ca] 31)
  have R3 : Hid (PourB w l A ca ma B cb mb w2.heap.size A ca ma (w2.alloc (.cells #[.int .i64 l, .slice A ma.length ca] 31))) := Lib.hid ⟨S2.out.below al, heap_alloc_new w2 _, S2.out.s.below al, lt_of_block S2.out.z⟩
  obtain ⟨p6, hp6⟩ : ∃ q, q = w2.heap.size := ⟨_, rfl⟩
  rw [← hp6] at R3 ⊢
  generalize w2.alloc (.cells #[.int .i64 l, .slice A ma.length ca] 31) = w3 at R3 ⊢
  clear hp6 al x0 xz S2
  have HPt := Lib.hid (fun q (hq : q < mb.length) => pour_part ha hb hs hq)
  have HLn := Lib.hid (fun q => pourL_len ma (mb.take q))
  clear ha hb hs a0 b0 hgt
  go_wp2_with fail
  go_loopw [7] (fun i wr => ∃ (q : Nat) (A' : Option Addr) (c' : Nat), q ≤ mb.length ∧ i = .int .i64 q ∧ PourB w l A ca ma B cb mb p6 A' c' (pourL ma (mb.take q)) wr) (fun i _ => mb.length - (intOf i).toNat)
  case atStart => exact ⟨0, A, ca, Nat.zero_le _, rfl, R3.out⟩
  case round =>
    obtain ⟨q, A', c', hq, rfl, hR⟩ := hrel
    have R := Lib.hid hR
    clear hR
    have y0 := blk_cell R.out.a.y
    have yz := lt_of_block R.out.a.y
    by_cases hlt : q < mb.length
    · have i1 : (q : Int) < (mb.length : Int) := by omega
      have hpt := HPt.out q hlt
      have hln := HLn.out q
      have hln2 : (mb.take q).length ≤ q := by rw [List.length_take]; omega
      have HT := Lib.hid (pour_take (ma := ma) hlt)
      obtain ⟨b, off, rfl, hTb, _⟩ := R.out.a.t.at_ hlt
      have HXq : Hid (mb[q]? = some mb[q]) := Lib.hid (List.getElem?_eq_getElem hlt)
      generalize mb[q] = x at hpt HT HXq
      obtain ⟨M, hM⟩ : ∃ M, M = pourL ma (mb.take q) := ⟨_, rfl⟩
      rw [← hM] at R hpt hln HT
      have HPu := Lib.hid (fun W h => ref10_put W l A' c' M x.1 x.2 h hpt.1.up (fun z hz => (hpt.1.val z hz).2.2) hpt.2.2 hpt.2.1 (by omega))
      unfold bagV at HPu
      clear hM hpt hTb
      go_upto_region 9 with fail
      refine wp_region_noPanic ?_
      refine wp_region_N (fun W' => PourB w l A ca ma (some ⟨b, off, none⟩) cb mb p6 A' c' M W') [14] (by kernel_rfl) (R.out.below (Below.drew (Below.refl _ _))) (fun hHeld => ?_)
      have R5 := Lib.hid hHeld
      refine wpAnyN_take (i := 0) (v := Value.agg #[.int .i64 l, .slice A' M.length c']) rfl (by kernel_rfl) (by kernel_rfl) (by kernel_rfl) (by kernel_rfl) (fun _ _ _ h => h) (Or.inl ⟨by rfl, fun W hW => by have q1 := blk_cell hW.a.y; have q2 := lt_of_block hW.a.y; have q3 := blk_cell hW.p; have q4 := lt_of_block hW.p; obtain ⟨q5, q6⟩ := slT_cell hW.a.t HXq.out; go_simp⟩) R5.out ?_
      try simp only [List.getElem_toArray, List.getElem_cons_zero, List.getElem_cons_succ, Act.put, List.setIfInBounds_toArray, List.set_cons_zero, List.set_cons_succ]
      refine wpAnyN_pure (i := 1) (v := Value.pointer (some ⟨w.heap.size + 1, 1, none⟩)) rfl (by kernel_rfl) (by kernel_rfl) (by kernel_rfl) (fun _ _ _ h => h) (Or.inl ⟨by rfl, fun W _ => by go_simp⟩) ?_
      try simp only [List.getElem_toArray, List.getElem_cons_zero, List.getElem_cons_succ, Act.put, List.setIfInBounds_toArray, List.set_cons_zero, List.set_cons_succ]
      refine wpAnyN_take (i := 2) (v := Value.slice (some ⟨b, off, none⟩) mb.length cb) rfl (by kernel_rfl) (by kernel_rfl) (by kernel_rfl) (by kernel_rfl) (fun _ _ _ h => h) (Or.inl ⟨by rfl, fun W hW => by have q1 := blk_cell hW.a.y; have q2 := lt_of_block hW.a.y; have q3 := blk_cell hW.p; have q4 := lt_of_block hW.p; obtain ⟨q5, q6⟩ := slT_cell hW.a.t HXq.out; go_simp⟩) R5.out ?_
      try simp only [List.getElem_toArray, List.getElem_cons_zero, List.getElem_cons_succ, Act.put, List.setIfInBounds_toArray, List.set_cons_zero, List.set_cons_succ]
      refine wpAnyN_pure (i := 3) (v := Value.int .i64 q) rfl (by kernel_rfl) (by kernel_rfl) (by kernel_rfl) (fun _ _ _ h => h) (Or.inl ⟨by rfl, fun W _ => by go_simp⟩) ?_
      try simp only [List.getElem_toArray, List.getElem_cons_zero, List.getElem_cons_succ, Act.put, List.setIfInBounds_toArray, List.set_cons_zero, List.set_cons_succ]
      refine wpAnyN_pure (i := 4) (v := Value.pointer (some ⟨b, off + q * 2, none⟩)) rfl (by kernel_rfl) (by kernel_rfl) (by kernel_rfl) (fun _ _ _ h => h) (Or.inl ⟨by rfl, fun W _ => by go_simp⟩) ?_
      try simp only [List.getElem_toArray, List.getElem_cons_zero, List.getElem_cons_succ, Act.put, List.setIfInBounds_toArray, List.set_cons_zero, List.set_cons_succ]
      refine wpAnyN_pure (i := 5) (v := Value.pointer (some ⟨b, off + q * 2, none⟩)) rfl (by kernel_rfl) (by kernel_rfl) (by kernel_rfl) (fun _ _ _ h => h) (Or.inl ⟨by rfl, fun W _ => by go_simp⟩) ?_
      try simp only [List.getElem_toArray, List.getElem_cons_zero, List.getElem_cons_succ, Act.put, List.setIfInBounds_toArray, List.set_cons_zero, List.set_cons_succ]
      refine wpAnyN_take (i := 6) (v := Value.int .i64 x.1) rfl (by kernel_rfl) (by kernel_rfl) (by kernel_rfl) (by kernel_rfl) (fun _ _ _ h => h) (Or.inl ⟨by rfl, fun W hW => by have q1 := blk_cell hW.a.y; have q2 := lt_of_block hW.a.y; have q3 := blk_cell hW.p; have q4 := lt_of_block hW.p; obtain ⟨q5, q6⟩ := slT_cell hW.a.t HXq.out; go_simp⟩) R5.out ?_
      try simp only [List.getElem_toArray, List.getElem_cons_zero, List.getElem_cons_succ, Act.put, List.setIfInBounds_toArray, List.set_cons_zero, List.set_cons_succ]
      refine wpAnyN_pure (i := 7) (v := Value.pointer (some ⟨w.heap.size + 1, 1, none⟩)) rfl (by kernel_rfl) (by kernel_rfl) (by kernel_rfl) (fun _ _ _ h => h) (Or.inl ⟨by rfl, fun W _ => by go_simp⟩) ?_
      try simp only [List.getElem_toArray, List.getElem_cons_zero, List.getElem_cons_succ, Act.put, List.setIfInBounds_toArray, List.set_cons_zero, List.set_cons_succ]
      refine wpAnyN_take (i := 8) (v := Value.slice (some ⟨b, off, none⟩) mb.length cb) rfl (by kernel_rfl) (by kernel_rfl) (by kernel_rfl) (by kernel_rfl) (fun _ _ _ h => h) (Or.inl ⟨by rfl, fun W hW => by have q1 := blk_cell hW.a.y; have q2 := lt_of_block hW.a.y; have q3 := blk_cell hW.p; have q4 := lt_of_block hW.p; obtain ⟨q5, q6⟩ := slT_cell hW.a.t HXq.out; go_simp⟩) R5.out ?_
      try simp only [List.getElem_toArray, List.getElem_cons_zero, List.getElem_cons_succ, Act.put, List.setIfInBounds_toArray, List.set_cons_zero, List.set_cons_succ]
      refine wpAnyN_pure (i := 9) (v := Value.int .i64 q) rfl (by kernel_rfl) (by kernel_rfl) (by kernel_rfl) (fun _ _ _ h => h) (Or.inl ⟨by rfl, fun W _ => by go_simp⟩) ?_
      try simp only [List.getElem_toArray, List.getElem_cons_zero, List.getElem_cons_succ, Act.put, List.setIfInBounds_toArray, List.set_cons_zero, List.set_cons_succ]
      refine wpAnyN_pure (i := 10) (v := Value.pointer (some ⟨b, off + q * 2, none⟩)) rfl (by kernel_rfl) (by kernel_rfl) (by kernel_rfl) (fun _ _ _ h => h) (Or.inl ⟨by rfl, fun W _ => by go_simp⟩) ?_
      try simp only [List.getElem_toArray, List.getElem_cons_zero, List.getElem_cons_succ, Act.put, List.setIfInBounds_toArray, List.set_cons_zero, List.set_cons_succ]
      refine wpAnyN_pure (i := 11) (v := Value.pointer (some ⟨b, off + q * 2 + 1, none⟩)) rfl (by kernel_rfl) (by kernel_rfl) (by kernel_rfl) (fun _ _ _ h => h) (Or.inl ⟨by rfl, fun W _ => by go_simp⟩) ?_
      try simp only [List.getElem_toArray, List.getElem_cons_zero, List.getElem_cons_succ, Act.put, List.setIfInBounds_toArray, List.set_cons_zero, List.set_cons_succ]
      refine wpAnyN_take (i := 12) (v := Value.int .i64 x.2) rfl (by kernel_rfl) (by kernel_rfl) (by kernel_rfl) (by kernel_rfl) (fun _ _ _ h => h) (Or.inl ⟨by rfl, fun W hW => by have q1 := blk_cell hW.a.y; have q2 := lt_of_block hW.a.y; have q3 := blk_cell hW.p; have q4 := lt_of_block hW.p; obtain ⟨q5, q6⟩ := slT_cell hW.a.t HXq.out; go_simp⟩) R5.out ?_
      try simp only [List.getElem_toArray, List.getElem_cons_zero, List.getElem_cons_succ, Act.put, List.setIfInBounds_toArray, List.set_cons_zero, List.set_cons_succ]
      refine wpAnyN_one (i := 13) (by kernel_rfl) rfl (fun K hK => ?_)
      go_simp
      refine (HPu.out wr.drew R5.out.u.sl).mono ?_
      rintro e w5 ⟨A2, c2, rfl, hu, hb5⟩
      have R6 := Lib.hid (R5.out.below hb5)
      have U6 := Lib.hid hu
      clear hb5 hu
      refine hK.out _ _ (fun _ _ => R6.out) ?_
      clear hK K
      try simp only [List.getElem_toArray, List.getElem_cons_zero, List.getElem_cons_succ, Act.put, List.setIfInBounds_toArray, List.set_cons_zero, List.set_cons_succ]
      have pf := blk_frozen R6.out.p
      have pc := blk_cell R6.out.p
      have pz := lt_of_block R6.out.p
      refine wpAnyN_one (i := 14) (by kernel_rfl) rfl (fun K hK => ?_)
      go_simp
      refine hK.out _ _ (fun h _ => absurd (List.mem_singleton.2 rfl) h) ?_
      clear hK K pf pc pz
      try simp only [List.getElem_toArray, List.getElem_cons_zero, List.getElem_cons_succ, Act.put, List.setIfInBounds_toArray, List.set_cons_zero, List.set_cons_succ]
      refine wpAnyN_done (by kernel_rfl) ?_ _
      refine NoPanic.normal ?_
      have R7 := Lib.hid (R6.out.set (c2 := c2) U6.out)
      clear R5 R6 U6 R y0 yz HPu
      go_wp2_with fail
      go_roundw
      case rel => exact ⟨q + 1, A2, c2, by omega, by go_num, by rw [HT.out]; exact R7.out⟩
      case measure => simp [intOf]; omega
    · have hqe : q = mb.length := by omega
      have hqi : decide ((q : Int) < (mb.length : Int)) = false := by simp; omega
      have R2 : Hid (PourB w l A ca ma B cb mb p6 A' c' (pourL ma mb) wr) := Lib.hid (by have := R.out; rwa [hqe, List.take_length] at this)
      clear hqe R y0 yz
      have y0 := blk_cell R2.out.a.y
      have yz := lt_of_block R2.out.a.y
      have p0 := blk_cell R2.out.p
      have pz := lt_of_block R2.out.p
      have z0 := blk_cell R2.out.a.z
      have zz := lt_of_block R2.out.a.z
      have zf := blk_frozen R2.out.a.z
      go_wp2_with fail
      refine bodyPost_ret (v := .tuple #[.agg #[.int .i64 l, .slice A' (pourL ma mb).length c'], .int .i64 0]) (by simp only [results, Tryz.results18]; go_simp) rfl ⟨A', c', rfl, ?_, ?_⟩
      · exact (R2.out.u.setCellT (p := ⟨w.heap.size + 2, 0, none⟩) (.of R2.out.a.z) (by decide)).setCellT (p := ⟨w.heap.size + 2, 1, none⟩) (.of (set_nil R2.out.a.z)) (by decide)
      · exact (R2.out.a.blw.setCell (p := ⟨w.heap.size + 2, 0, none⟩) (by show w.heap.size ≤ w.heap.size + 2; omega) _).setCell (p := ⟨w.heap.size + 2, 1, none⟩) (by show w.heap.size ≤ w.heap.size + 2; omega) _
end Go.Proofs.YtcjnchjmpkapmaaGreat
/- RankMerged: several digests and bags in two lists: what stands. -/
namespace Go.Proofs.YtcjnchjmpkapmaaGreat
open Go.ChangeShapes Go.WideShapes Go.ChangeAt Go.RowKit
set_option linter.unusedVariables false
set_option maxRecDepth 100000

structure Itm where
  g : Nat
  K : Nat
  l : Nat
  k : Int
  r : List Nd
  m : List Nd
  F : Nat → Prop
  A : Option Addr
  c : Nat
def encG : Enc Itm 1 := ⟨fun s => [.pointer (some ⟨s.g, 0, none⟩)], fun _ => rfl, by intro x u hu; simp at hu; subst hu; rfl⟩
def encBg : Enc Itm 2 := ⟨fun s => [.int .i64 s.l, .slice s.A s.m.length s.c], fun _ => rfl, by intro x u hu; simp at hu; rcases hu with rfl | rfl <;> rfl⟩
theorem tyDp : SliceTy Tryz.prog 38 28 1 8 (.pointer none) := ⟨Tryz.underlying38, by kernel_rfl, rfl, by decide⟩
theorem tyBg : SliceTy Tryz.prog 39 31 2 32 (.agg #[.int .i64 0, .slice none 0 0]) := ⟨Tryz.underlying39, by kernel_rfl, rfl, by decide⟩
def ItmOk (W : World) (s : Itm) : Prop := DigAt W s.g s.K s.l s.k s.r s.F ∧ SlT W 96 encN s.A s.m ∧ Held s.l s.k s.r s.m
theorem ItmOk.below {W W' : World} {s : Itm} (h : ItmOk W s) (hb : Below W.heap.size W W') : ItmOk W' s := ⟨h.1.below hb, h.2.1.below hb, h.2.2⟩
theorem ItmOk.keepT {W W' : World} {s : Itm} (h : ItmOk W s) {row : Option Nat} (hg : W.grownBy W' row) {t : Nat} (hr : ∀ b, row = some b → TypeAt W b t)
    (ht : (t ≠ 178 ∧ t ≠ 257 ∧ t ≠ 315 ∧ t ≠ 3 ∧ t ≠ 317 ∧ t ≠ 153) ∧ t ≠ 96) : ItmOk W' s := by
  refine ⟨h.1.keep fun b hb => hg.block b (h.1.lt b hb) fun e => h.1.not_type (hr b e.symm) ht.1 hb, ?_, h.2.2⟩
  rcases h.2.1 with h1 | ⟨b, off, hA, hT, hc⟩
  · exact .inl h1
  · have hne : b < W.heap.size ∧ some b ≠ row := ⟨hT.lt, fun e => ht.2 (typeAt_eq (hr b e.symm) hT)⟩
    have hk : W'.heap[b]? = W.heap[b]? := hg.block b hne.1 hne.2
    obtain ⟨cs, fr, hh⟩ := hT
    exact .inr ⟨b, off, hA, ⟨cs, fr, hk.trans hh⟩, fun i x hi j u hj => (World.cell?_of_block hk).trans (hc i x hi j u hj)⟩
theorem grownBy_set {W : World} {p : Addr} {u : Value} : W.grownBy (W.setCell p u) (some p.block) :=
  ⟨rfl, rfl, rfl, by simp [World.setCell], fun i hi hne => Below.heap_setCell _ _ _ _ (fun e => hne (by rw [e]))⟩
theorem own_type {α : Type} {size base e : Nat} {E : Enc α size} {w : World} {v : Value} {l : List α} (h : Own w base e E v l) : ∀ b, v.ownBlock = some b → TypeAt w b e := fun b hb => by
  rcases h with ⟨rfl, _⟩ | ⟨g1, o1, c1, u1, rfl, _, hh1, _⟩
  · cases hb
  · have : g1 = b := by simpa [Value.ownBlock] using hb
    subst this
    exact .of hh1
structure MS (w : World) (va : Value) (La : List Itm) (vb : Value) (Lb : List Itm) (S : List Itm) (W : World) : Prop where
  oa : Own W w.heap.size 28 encG va La
  ob : Own W w.heap.size 31 encBg vb Lb
  ok : ∀ s ∈ S, ItmOk W s
  blw : Below w.heap.size w W
section
variable {w : World} {va : Value} {La : List Itm} {vb : Value} {Lb : List Itm} {S : List Itm} {W W' : World}
theorem MS.below (h : MS w va La vb Lb S W) (hb : Below W.heap.size W W') : MS w va La vb Lb S W' :=
  ⟨h.oa.below hb, h.ob.below hb, fun s hs => (h.ok s hs).below hb, h.blw.trans (hb.mono h.blw.size)⟩
theorem MS.drew (h : MS w va La vb Lb S W) : MS w va La vb Lb S W.drew := h.below (Below.drew (Below.refl _ _))
theorem MS.alloc (h : MS w va La vb Lb S W) (o : Obj) : MS w va La vb Lb S (W.alloc o) := h.below ((Below.refl _ _).alloc (Nat.le_refl _) o)
theorem MS.sub (h : MS w va La vb Lb S W) {S' : List Itm} (hs : ∀ s ∈ S', s ∈ S) : MS w va La vb Lb S' W := ⟨h.oa, h.ob, fun s h1 => h.ok s (hs s h1), h.blw⟩
theorem MS.add (h : MS w va La vb Lb S W) {x : Itm} (hx : ItmOk W x) : MS w va La vb Lb (x :: S) W := ⟨h.oa, h.ob, fun s h1 => by
  rcases List.mem_cons.1 h1 with rfl | h1
  · exact hx
  · exact h.ok s h1, h.blw⟩
theorem MS.growA (h : MS w va La vb Lb S W) {va' : Value} {La' : List Itm} (ho : Own W' w.heap.size 28 encG va' La') (hg : W.grownBy W' va.ownBlock) : MS w va' La' vb Lb S W' :=
  ⟨ho, h.ob.kept hg (own_ne h.ob h.oa (by decide)), fun s hs => (h.ok s hs).keepT hg (own_type h.oa) (by decide), h.blw.grown hg h.blw.size fun b hb => (h.oa.lt b hb).1⟩
theorem MS.growB (h : MS w va La vb Lb S W) {vb' : Value} {Lb' : List Itm} (ho : Own W' w.heap.size 31 encBg vb' Lb') (hg : W.grownBy W' vb.ownBlock) : MS w va La vb' Lb' S W' :=
  ⟨h.oa.kept hg (own_ne h.oa h.ob (by decide)), ho, fun s hs => (h.ok s hs).keepT hg (own_type h.ob) (by decide), h.blw.grown hg h.blw.size fun b hb => (h.ob.lt b hb).1⟩
theorem MS.newA (h : MS w va La vb Lb S W) {va' : Value} {La' : List Itm} {b0 : Nat} (ho : Own W b0 28 encG va' La') (hb : w.heap.size ≤ b0) : MS w va' La' vb Lb S W := ⟨ho.base_le hb, h.ob, h.ok, h.blw⟩
theorem MS.newB (h : MS w va La vb Lb S W) {vb' : Value} {Lb' : List Itm} {b0 : Nat} (ho : Own W b0 31 encBg vb' Lb') (hb : w.heap.size ≤ b0) : MS w va La vb' Lb' S W := ⟨h.oa, ho.base_le hb, h.ok, h.blw⟩
theorem MS.setA {ga oa n ca : Nat} (h : MS w (.slice (some ⟨ga, oa, none⟩) n ca) La vb Lb S W) {i : Nat} (hi : i < La.length) (x : Itm) :
    MS w (.slice (some ⟨ga, oa, none⟩) n ca) (La.set i x) vb Lb S (W.setCell ⟨ga, oa + i, none⟩ (.pointer (some ⟨x.g, 0, none⟩))) := by
  have := h.oa.setElem i 0 hi (by decide) (.pointer (some ⟨x.g, 0, none⟩)) x rfl
  rw [Nat.mul_one, Nat.add_zero] at this
  exact h.growA this grownBy_set
theorem MS.setB {gb ob n cb : Nat} (h : MS w va La (.slice (some ⟨gb, ob, none⟩) n cb) Lb S W) {i : Nat} (hi : i < Lb.length) (x : Itm) :
    MS w va La (.slice (some ⟨gb, ob, none⟩) n cb) (Lb.set i x) S ((W.setCell ⟨gb, ob + i * 2, none⟩ (.int .i64 x.l)).setCell ⟨gb, ob + i * 2 + 1, none⟩ (.slice x.A x.m.length x.c)) := by
  have h1 := h.ob.setElem i 0 hi (by decide) (.int .i64 x.l) { Lb[i] with l := x.l } rfl
  rw [Nat.add_zero] at h1
  have m1 := h.growB h1 grownBy_set
  have h2 := m1.ob.setElem i 1 (by rw [List.length_set]; exact hi) (by decide) (.slice x.A x.m.length x.c) x (by rw [List.getElem_set_self]; rfl)
  rw [List.set_set] at h2
  exact m1.growB h2 grownBy_set
end
def SumI (L : List Itm) (n : Nat) : Prop := (L.map fun s => s.r.length).sum ≤ n ∧ (L.map fun s => s.m.length).sum ≤ n
theorem SumI.snoc {L : List Itm} {n : Nat} (h : SumI L n) {x : Itm} (h1 : x.r.length ≤ 60) (h2 : x.m.length ≤ 60) : SumI (L ++ [x]) (n + 60) := by
  obtain ⟨a, b⟩ := h
  simp only [SumI, List.map_append, List.map_cons, List.map_nil, List.sum_append, List.sum_cons, List.sum_nil]
  omega
theorem SumI.one {P Q : List Itm} {s t : Itm} {n : Nat} (h : SumI (P ++ s :: t :: Q) n) : (s.r.length + t.r.length ≤ n) ∧ s.m.length + t.m.length ≤ n := by
  simp only [SumI, List.map_append, List.map_cons, List.sum_append, List.sum_cons] at h
  omega
theorem SumI.merge {P Q : List Itm} {s t x : Itm} {n : Nat} (h : SumI (P ++ s :: t :: Q) n) (h1 : x.r.length ≤ s.r.length + t.r.length) (h2 : x.m.length ≤ s.m.length + t.m.length) : SumI (P ++ x :: Q) n := by
  simp only [SumI, List.map_append, List.map_cons, List.sum_append, List.sum_cons] at *
  omega
theorem split_two {L : List Itm} {i : Nat} (h : i + 1 < L.length) : ∃ P s t Q, L = P ++ s :: t :: Q ∧ P.length = i := by
  refine ⟨L.take i, L[i], L[i + 1], L.drop (i + 2), ?_, by rw [List.length_take]; omega⟩
  conv => lhs; rw [← List.take_append_drop i L, List.drop_eq_getElem_cons (by omega), List.drop_eq_getElem_cons h]
def fromA (c k size g o : Nat) : Option Addr := if c = k then some ⟨g, o, none⟩ else some ⟨g, o + k * size, none⟩
theorem sl_from {α : Type} {size base e g o n c : Nat} {E : Enc α size} {W : World} {l : List α} (h : Own W base e E (.slice (some ⟨g, o, none⟩) n c) l) (k : Nat) : Sl W W.heap.size E (fromA c k size g o) (l.drop k) := by
  have hl := h.len_le
  unfold fromA
  by_cases hc : c = k
  · rw [if_pos hc]; exact .inl (List.drop_eq_nil_of_le (by omega))
  · rw [if_neg hc]; exact h.sl.drop k
theorem own_none {α : Type} {size base e : Nat} {E : Enc α size} {W : World} {v : Value} {l : List α} (h : Own W base e E v l) (hl : l ≠ []) : ∃ g o n c, v = .slice (some ⟨g, o, none⟩) n c ∧ n = l.length ∧ n ≤ c ∧ c ≤ maxLen := by
  rcases h with ⟨_, h⟩ | ⟨g, off, cap, cur, rfl, _, _, h1, h2, _⟩
  · exact absurd h hl
  · exact ⟨g, off, _, cap, rfl, rfl, h1, h2⟩
theorem ms_at {w : World} {ga oa n ca gb ob n2 cb : Nat} {L : List Itm} {S : List Itm} {W : World} (h : MS w (.slice (some ⟨ga, oa, none⟩) n ca) L (.slice (some ⟨gb, ob, none⟩) n2 cb) L S W) {i : Nat} {s : Itm} (hi : L[i]? = some s) :
    (ga < W.heap.size ∧ gb < W.heap.size) ∧ W.cell? ⟨ga, oa + i, none⟩ = some (.pointer (some ⟨s.g, 0, none⟩)) ∧ W.cell? ⟨gb, ob + i * 2, none⟩ = some (.int .i64 s.l) ∧ W.cell? ⟨gb, ob + i * 2 + 1, none⟩ = some (.slice s.A s.m.length s.c) ∧ (∀ j, W.frozen? ⟨ga, j, none⟩ = false) ∧ (∀ j, W.frozen? ⟨gb, j, none⟩ = false) := by
  have hne : L ≠ [] := by rintro rfl; simp at hi
  refine ⟨⟨(h.oa.lt ga rfl).2, (h.ob.lt gb rfl).2⟩, ?_, ?_, ?_, fun j => h.oa.frozen j, fun j => h.ob.frozen j⟩
  · rcases h.oa.sl with h1 | ⟨b, o, hA, _, hc⟩
    · exact absurd h1 hne
    · cases hA; have := hc i s hi 0 _ rfl; simpa using this
  · rcases h.ob.sl with h1 | ⟨b, o, hA, _, hc⟩
    · exact absurd h1 hne
    · cases hA; have := hc i s hi 0 _ rfl; simpa using this
  · rcases h.ob.sl with h1 | ⟨b, o, hA, _, hc⟩
    · exact absurd h1 hne
    · cases hA; exact hc i s hi 1 _ rfl
end Go.Proofs.YtcjnchjmpkapmaaGreat
/- RankMerged: what stands while two of the list become one. -/
namespace Go.Proofs.YtcjnchjmpkapmaaGreat
open Go.ChangeShapes Go.WideShapes Go.ChangeAt Go.RowKit
set_option linter.unusedVariables false
set_option maxRecDepth 100000

structure PourX (w : World) (va : Value) (La : List Itm) (vb : Value) (Lb : List Itm) (S : List Itm) (gr K l : Nat) (k : Int) (rc : List Nd) (Fr : Nat → Prop) (pw : Nat) (bl bs : Value) (A : Option Addr) (m : List Nd) (W : World) : Prop where
  ms : MS w va La vb Lb S W
  d : DigAt W gr K l k rc Fr
  x : W.heap[pw]? = some (.cells #[bl, bs] 31 (0, 0))
  s : SlT W 96 encN A m
  ne : vb.ownBlock ≠ some pw
  lt : w.heap.size ≤ pw
section
variable {w : World} {va : Value} {La : List Itm} {vb : Value} {Lb : List Itm} {S : List Itm} {gr K l : Nat} {k : Int} {rc : List Nd} {Fr : Nat → Prop} {pw : Nat} {bl bs : Value} {A A' : Option Addr} {m m' : List Nd} {W W' : World}
theorem MS.setX (h : MS w va La vb Lb S W) (hx : TypeAt W pw 31) (hne : vb.ownBlock ≠ some pw) (hb : w.heap.size ≤ pw) (o : Nat) (u : Value) : MS w va La vb Lb S (W.setCell ⟨pw, o, none⟩ u) :=
  ⟨h.oa.setCellT (p := ⟨pw, o, none⟩) hx (by decide), h.ob.setCell hne u, fun s hs => (h.ok s hs).keepT grownBy_set (fun b hb => by cases hb; exact hx) (by decide), h.blw.setCell (p := ⟨pw, o, none⟩) hb u⟩
theorem PourX.below (h : PourX w va La vb Lb S gr K l k rc Fr pw bl bs A m W) (hb : Below W.heap.size W W') : PourX w va La vb Lb S gr K l k rc Fr pw bl bs A m W' :=
  ⟨h.ms.below hb, h.d.below hb, blk_below h.x hb, h.s.below hb, h.ne, h.lt⟩
theorem PourX.more (h : PourX w va La vb Lb S gr K l k rc Fr pw bl bs A m W) (hs : SlT W 96 encN A' m') : PourX w va La vb Lb S gr K l k rc Fr pw bl bs A' m' W := ⟨h.ms, h.d, h.x, hs, h.ne, h.lt⟩
theorem DigAt.setT {g : Nat} {r : List Nd} {F : Nat → Prop} {t o : Nat} (h : DigAt W g K l k r F) (hx : TypeAt W pw t) (ht : t ≠ 178 ∧ t ≠ 257 ∧ t ≠ 315 ∧ t ≠ 3 ∧ t ≠ 317 ∧ t ≠ 153) (u : Value) : DigAt (W.setCell ⟨pw, o, none⟩ u) g K l k r F :=
  h.keep fun b hb => Below.heap_setCell _ _ _ _ fun e => by have e' : b = pw := e; subst e'; exact h.not_type hx ht hb
theorem PourX.set (h : PourX w va La vb Lb S gr K l k rc Fr pw bl bs A m W) (u v : Value) : PourX w va La vb Lb S gr K l k rc Fr pw u v A m ((W.setCell ⟨pw, 0, none⟩ u).setCell ⟨pw, 1, none⟩ v) := by
  have t1 : TypeAt W pw 31 := .of h.x
  have t2 : TypeAt (W.setCell ⟨pw, 0, none⟩ u) pw 31 := .of (set_nil h.x)
  exact ⟨(h.ms.setX t1 h.ne h.lt 0 u).setX t2 h.ne h.lt 1 v, (h.d.setT t1 (by decide) u).setT t2 (by decide) v, set_one (set_nil h.x), (h.s.setCellT (p := ⟨pw, 0, none⟩) t1 (by decide)).setCellT (p := ⟨pw, 1, none⟩) t2 (by decide), h.ne, h.lt⟩
theorem PourX.new (h : MS w va La vb Lb S W) (d : DigAt W gr K l k rc Fr) : PourX w va La vb Lb S gr K l k rc Fr W.heap.size (.int .i64 0) (.slice none 0 0) none [] (W.alloc (.cells #[.int .i64 0, .slice none 0 0] 31)) := by
  have al := (Below.refl W.heap.size W).alloc (Nat.le_refl _) (.cells #[.int .i64 0, .slice none 0 0] 31)
  exact ⟨h.below al, d.below al, heap_alloc_new W _, .nil, h.ob.not_at _ (Nat.le_refl _), h.blw.size⟩
theorem PourX.item {c : Nat} (h : PourX w va La vb Lb S gr K l k rc Fr pw bl bs A m W) (hH : Held l k rc m) : ItmOk W ⟨gr, K, l, k, rc, m, Fr, A, c⟩ := ⟨h.d, h.s, hH⟩
end
theorem set_mid {P Q : List Itm} {s x : Itm} {i : Nat} (h : P.length = i) : (P ++ s :: Q).set i x = P ++ x :: Q := by
  subst h
  rw [List.set_append_right _ _ (Nat.le_refl _), Nat.sub_self, List.set_cons_zero]
theorem take_mid {P Q : List Itm} {x t : Itm} {i : Nat} (h : P.length = i) : (P ++ x :: t :: Q).take (i + 1) = P ++ [x] := by
  subst h
  rw [List.take_append, List.take_of_length_le (by omega)]
  simp
theorem drop_mid {P Q : List Itm} {x t : Itm} {i : Nat} (h : P.length = i) : (P ++ x :: t :: Q).drop (i + 2) = Q := by
  subst h
  rw [List.drop_append, List.drop_eq_nil_of_le (by omega)]
  simp
theorem bag_at {base gb ob n cb : Nat} {L : List Itm} {W : World} (h : Own W base 31 encBg (.slice (some ⟨gb, ob, none⟩) n cb) L) {i : Nat} {s : Itm} (hi : L[i]? = some s) :
    gb < W.heap.size ∧ W.cell? ⟨gb, ob + i * 2, none⟩ = some (.int .i64 s.l) ∧ W.cell? ⟨gb, ob + i * 2 + 1, none⟩ = some (.slice s.A s.m.length s.c) ∧ (∀ j, W.frozen? ⟨gb, j, none⟩ = false) := by
  have hne : L ≠ [] := by rintro rfl; simp at hi
  rcases h.sl with h1 | ⟨b, o, hA, hb, hc⟩
  · exact absurd h1 hne
  · cases hA
    exact ⟨hb, by have := hc i s hi 0 _ rfl; simpa using this, hc i s hi 1 _ rfl, fun j => h.frozen j⟩
theorem ms_at2 {w : World} {ga oa n ca : Nat} {vb : Value} {L Lb : List Itm} {S : List Itm} {W : World} (h : MS w (.slice (some ⟨ga, oa, none⟩) n ca) L vb Lb S W) {i : Nat} {s : Itm} (hi : L[i]? = some s) :
    (ga < W.heap.size ∧ True) ∧ W.cell? ⟨ga, oa + i, none⟩ = some (.pointer (some ⟨s.g, 0, none⟩)) ∧ True ∧ True ∧ (∀ j, W.frozen? ⟨ga, j, none⟩ = false) ∧ True := by
  have hne : L ≠ [] := by rintro rfl; simp at hi
  rcases h.oa.sl with h1 | ⟨b, o, hA, hb, hc⟩
  · exact absurd h1 hne
  · cases hA
    exact ⟨⟨hb, trivial⟩, by have := hc i s hi 0 _ rfl; simpa using this, trivial, trivial, fun j => h.oa.frozen j, trivial⟩
theorem own_empty {α : Type} {size : Nat} (W : World) (e : TypeId) (E : Enc α size) : Own (W.alloc (.cells #[] e)) W.heap.size e E (.slice (some ⟨W.heap.size, 0, none⟩) 0 0) [] :=
  .inr ⟨W.heap.size, 0, 0, #[], rfl, Nat.le_refl _, heap_alloc_new W _, Nat.le_refl _, by simp, by simp, fun j u hj => by simp at hj⟩
end Go.Proofs.YtcjnchjmpkapmaaGreat
/- What RankMerged is given: a list of confs with calls; bytes. -/
namespace Go.Proofs.YtcjnchjmpkapmaaGreat
open Go.ChangeShapes Go.WideShapes Go.ChangeAt Go.RowKit
set_option linter.unusedVariables false
set_option maxRecDepth 100000

structure SideX where
  l : Int
  k : Int
  K : Int
  A : Option Addr
  c : Nat
  ops : List Op3
instance : Inhabited SideX := ⟨⟨0, 0, 0, none, 0, []⟩⟩
def encSd : Enc SideX 4 := ⟨fun s => [.int .i64 s.l, .int .i64 s.k, .int .i64 s.K, .slice s.A s.ops.length s.c], fun _ => rfl, by intro x u hu; simp at hu; rcases hu with rfl | rfl | rfl | rfl <;> rfl⟩
def SideOk (W : World) (s : SideX) : Prop := Sl W W.heap.size encO s.A s.ops ∧ intsO s.ops ∧ i64 s.l ∧ i64 s.k ∧ i64 s.K ∧ s.ops.length ≤ maxLen
def encU : Enc Nat 1 := ⟨fun x => [.int .u8 x], fun _ => rfl, by intro x u hu; simp at hu; subst hu; rfl⟩
section
variable {H : Type} {enc : TypeId × Value → H} {w : World} {base : Nat} {spare : Nat → Bool} {held : Bool}
theorem open_Sides {r : Reach} {b0 : Nat} {v : Value} {d : DataW H} {p : List MemPlace}
    (hv : Value.okWide Tryz.prog w r b0 36 v) (h : DataW.Trod enc Tryz.prog w base spare held 36 v d p) :
    ∃ (ss : List SideX) (A : Option Addr) (cap : Nat), v = .slice A ss.length cap ∧ Sl w w.heap.size encSd A ss ∧ (∀ s ∈ ss, SideOk w s) ∧ ss.length ≤ maxLen := by
  obtain ⟨A, n, cap, rfl⟩ := okWide_slice Tryz.underlying36 hv
  obtain ⟨fuel, hf⟩ := h
  obtain ⟨l, A', cap', hc, rest⟩ := slice_of_trod encSd (SideOk w) Tryz.underlying36 (by kernel_rfl) (by decide) (fun fuel cs x h => by
    obtain ⟨l, k, K, r, A, c, rfl, h1, h2, h3, h4, h5, h6⟩ := side_of_trod h
    exact ⟨⟨l, k, K, A, c, r⟩, rfl, h1, h2, h3, h4, h5, h6⟩) hf
  have hc' : Value.slice A n cap = .slice A' l.length cap' := by simpa [Value.cells] using hc
  rw [hc']
  exact ⟨l, A', cap', rfl, rest⟩
theorem open_U8s {r : Reach} {b0 : Nat} {v : Value} {d : DataW H} {p : List MemPlace}
    (hv : Value.okWide Tryz.prog w r b0 37 v) (h : DataW.Trod enc Tryz.prog w base spare held 37 v d p) :
    ∃ (us : List Nat) (A : Option Addr) (cap : Nat), v = .slice A us.length cap ∧ Sl w w.heap.size encU A us ∧ (∀ u ∈ us, u ≤ 255) ∧ us.length ≤ maxLen := by
  obtain ⟨A, n, cap, rfl⟩ := okWide_slice Tryz.underlying37 hv
  obtain ⟨fuel, hf⟩ := h
  obtain ⟨l, A', cap', hc, rest⟩ := slice_of_trod encU (fun u => u ≤ 255) Tryz.underlying37 (by kernel_rfl) (by decide) (fun fuel cs x h => by
    obtain ⟨k, e0, _, k0⟩ := DataW.trod_int Tryz.underlying5 h
    simp only [Lit.wf, Bool.and_eq_true, decide_eq_true_eq] at k0
    have hmn : IntKind.u8.min = 0 := by decide
    have hmx : IntKind.u8.max = 255 := by decide
    rw [hmn, hmx] at k0
    obtain ⟨n, rfl⟩ := Int.eq_ofNat_of_zero_le k0.1
    exact ⟨n, by rw [e0]; rfl, by omega⟩) hf
  have hc' : Value.slice A n cap = .slice A' l.length cap' := by simpa [Value.cells] using hc
  rw [hc']
  exact ⟨l, A', cap', rfl, rest⟩
end
end Go.Proofs.YtcjnchjmpkapmaaGreat
/- Chapter 16: the rank holds of what is merged: the law. -/
namespace Go.Proofs.YtcjnchjmpkapmaaGreat
open Go.ChangeShapes Go.WideShapes Go.ChangeAt Go.RowKit
set_option linter.unusedVariables false
set_option linter.unusedSimpArgs false
set_option maxRecDepth 100000

theorem law_RankMerged_big (A : Option Addr) (cap n : Nat) (v : Value) (y : Int) (w : World) (h : 5 < n) :
    Calls Tryz.prog 4 #[.slice A n cap, v, .int .i64 y] w fun e w' => e = .returned (.bool true) ∧ Below w.heap.size w w' := by
  have h1 : (5 : Int) < (n : Int) := by omega
  go_enter Tryz.func4, Tryz.ntmps4
  go_wp2_with fail
  refine (alive16 w).mono ?_
  rintro e w1 ⟨rfl, hb1⟩
  go_wp2_with fail
  go_ret
  exact ⟨rfl, hb1⟩
theorem made_ok {w : World} {s : SideX} (h : SideOk w s) (h60 : s.ops.length ≤ 60) {l K : Nat} (hl : s.l = l) (hK : s.K = K) (hd : isDig s.l s.k s.K = true) {W : World} (hb : Below w.heap.size w W) :
    Calls Tryz.prog 15 #[.agg #[.int .i64 s.l, .int .i64 s.k, .int .i64 s.K], .slice s.A s.ops.length s.c] W (CallsPost K l s.k s.ops.length W) := by
  rw [hl, hK] at hd ⊢
  exact law13_Made W l K s.k s.A s.c s.ops hd (h.1.keep hb.size fun p hp => hb.cell hp) h.2.1 (by omega)
theorem idx_facts {i n : Nat} (h : i + 1 < n) (h5 : n ≤ 5) : (i : Int) < (n : Int) ∧ (i : Int) + 1 < (n : Int) ∧ wrap64 ((i : Int) + 1) = (i : Int) + 1 ∧ IntKind.i64.wrap ((i : Int) + 1) = (i : Int) + 1 ∧ wrap64 ((i : Int) + 2) = (i : Int) + 2 ∧ IntKind.i64.wrap ((i : Int) + 2) = (i : Int) + 2 ∧ (i : Int) + 2 ≤ (n : Int) ∧ ¬ ((i : Int) + 1 < 0) ∧ ¬ ((i : Int) + 2 < 0) := by
  simp only [IntKind.wrap_i64]
  unfold wrap64
  omega
theorem pick_at {u n : Nat} (h : 1 < n) : ∃ i : Nat, ((u : Int) % ((n : Int) - 1)) = (i : Int) ∧ i + 1 < n :=
  ⟨u % (n - 1), by rw [Int.natCast_emod]; congr 1; omega, by have := Nat.mod_lt u (show 0 < n - 1 by omega); omega⟩
theorem idx_cap {i n c : Nat} (h : i + 1 < n) (hc : n ≤ c) : ¬ ((c : Int) < (i : Int) + 1) ∧ ((i : Int) + 2).toNat = i + 2 ∧ ((i : Int) + 1).toNat = i + 1 := by omega
theorem q_len {P Q : List Itm} {s t : Itm} {n i : Nat} (hn : n = (P ++ s :: t :: Q).length) (hP : P.length = i) (x : Itm) (h5 : n ≤ 5) : Q.length = n - (i + 2) ∧ (P ++ [x]).length ≤ 5 ∧ (P ++ [x]).length + Q.length ≤ 5 := by
  simp only [List.length_append, List.length_cons, List.length_nil] at hn ⊢
  omega
theorem small_app {a b c : Nat} (h : a + b ≤ 5) (hc : c ≤ 32) : (a + b) * c ≤ 140737488355328 ∧ a + b ≤ maxLen := by
  have : (a + b) * c ≤ 5 * 32 := Nat.mul_le_mul h hc
  unfold maxLen
  omega
theorem wrap_succ {q n : Nat} (h : q < n) (hm : n ≤ maxLen) : wrap64 ((q : Int) + 1) = (q : Int) + 1 ∧ IntKind.i64.wrap ((q : Int) + 1) = (q : Int) + 1 := by
  unfold maxLen at hm
  rw [IntKind.wrap_i64]
  unfold wrap64
  omega
def MergedR (w : World) (n : Nat) (va vb : Value) (L : List Itm) (W : World) : Prop := MS w va L vb L L W ∧ SumI L n
set_option maxHeartbeats 16000000 in
theorem law_RankMerged_few (A : Option Addr) (cap : Nat) (ss : List SideX) (B : Option Addr) (cb : Nat) (us : List Nat) (y : Int) (w : World) (hS : Sl w w.heap.size encSd A ss) (hE : ∀ s ∈ ss, SideOk w s) (hU : Sl w w.heap.size encU B us) (hu : ∀ u ∈ us, u ≤ 255) (h5 : ss.length ≤ 5) (hm : us.length ≤ maxLen) :
    Calls Tryz.prog 4 #[.slice A ss.length cap, .slice B us.length cb, .int .i64 y] w fun e w' => e = .returned (.bool true) ∧ Below w.heap.size w w' := by
  have h5n : decide ((5 : Int) < (ss.length : Int)) = false := by simp; omega
  have HS := Lib.hid hS
  have HE := Lib.hid hE
  have HU := Lib.hid hU
  have Hu := Lib.hid hu
  have HM := Lib.hid hm
  clear hS hE hU hu hm
  go_enter Tryz.func4, Tryz.ntmps4
  go_wp2_with fail
  go_loopw [7, 8, 25] (fun va vb i wr => ∃ (q : Nat) (L : List Itm), q ≤ ss.length ∧ L.length = q ∧ i = .int .i64 q ∧ MergedR w (60 * q) va vb L wr) (fun _ _ i _ => ss.length - (intOf i).toNat)
  case atStart => exact ⟨0, [], Nat.zero_le _, rfl, rfl, ⟨.nil _ _ _ _, .nil _ _ _ _, by simp, Below.refl _ _⟩, by simp [SumI]⟩
  case round =>
    obtain ⟨q, L, hq, hLq, rfl, hM, hSu⟩ := hrel
    have M0 := Lib.hid hM
    have SU := Lib.hid hSu
    have HLq := Lib.hid hLq
    clear hM hSu hLq
    by_cases hlt : q < ss.length
    · obtain ⟨b, off, rfl, hb, hc⟩ := HS.out.at_ hlt
      have bc := fun o => M0.out.blw.cell (p := ⟨b, o, none⟩) hb
      have d0 := (bc _).trans (hc 0 _ rfl)
      have d1 := (bc _).trans (hc 1 _ rfl)
      have d2 := (bc _).trans (hc 2 _ rfl)
      have d3 := (bc _).trans (hc 3 _ rfl)
      simp only [Nat.add_zero] at d0
      have hOk := Lib.hid (HE.out _ (List.getElem_mem hlt))
      have lb : b < wr.heap.size := Nat.lt_of_lt_of_le hb M0.out.blw.size
      generalize ss[q] = s at d0 d1 d2 d3 hOk
      have HMade := Lib.hid (fun (h60 : s.ops.length ≤ 60) l K hl hK hd W hb => made_ok hOk.out h60 (l := l) (K := K) hl hK hd (W := W) hb)
      have hom := hOk.out.2.2.2.2.2
      unfold maxLen at hom
      obtain ⟨sl, sk, sK, sA, sc, ops⟩ := s
      simp only at d0 d1 d2 d3 HMade hom
      clear hc bc hOk
      have XA := Lib.hid (heap_alloc_new wr (.cells #[.int .i64 sl, .int .i64 sk, .int .i64 sK, .slice sA ops.length sc] 26))
      have MA := Lib.hid (M0.out.alloc (.cells #[.int .i64 sl, .int .i64 sk, .int .i64 sK, .slice sA ops.length sc] 26))
      go_upto_region 8 with fail
      obtain ⟨px, hpx⟩ : ∃ p, p = wr.heap.size := ⟨_, rfl⟩
      rw [← hpx] at XA ⊢
      generalize wr.alloc (.cells #[.int .i64 sl, .int .i64 sk, .int .i64 sK, .slice sA ops.length sc] 26) = w1 at XA MA ⊢
      clear hpx d0 d1 d2 d3 lb M0
      have x0 := blk_cell XA.out
      have xz := lt_of_block XA.out
      by_cases h60 : 60 < ops.length
      · have h6 : (60 : Int) < (ops.length : Int) := by omega
        go_wp2_with fail
        refine (alive16 w1).mono ?_
        rintro e w2 ⟨rfl, hb2⟩
        have B2 := Lib.hid (Below.then_ MA.out.blw hb2)
        go_wp2_with fail
        go_ret
        exact ⟨rfl, B2.out⟩
      · have h6 : decide ((60 : Int) < (ops.length : Int)) = false := by simp; omega
        by_cases hK : sK = 1 ∧ 10 < sl
        · obtain ⟨rfl, hL⟩ := hK
          go_wp2_with fail
          refine (alive16 w1).mono ?_
          rintro e w2 ⟨rfl, hb2⟩
          have B2 := Lib.hid (Below.then_ MA.out.blw hb2)
          go_wp2_with fail
          go_ret
          exact ⟨rfl, B2.out⟩
        · rcases (by by_cases e : sK = 1; exact .inl ⟨by simpa using e, by simp; omega⟩; exact .inr (by simpa using e) : ((sK == 1) = true ∧ decide (10 < sl) = false) ∨ (sK == 1) = false) with ⟨g1, g2⟩ | g1
          all_goals
            have HMade := Lib.hid (HMade.out (by omega))
            have hl60 : ops.length ≤ 60 := by omega
            clear hK h60
            cases hd : isDig sl sk sK
            · have HN := Lib.hid (fun W v => law13_Made_no W sl sk sK v hd)
              unfold bagV at HN
              clear HMade hd
              go_wp2_with fail
              refine (HN.out w1 _).mono ?_
              rintro e w2 ⟨rfl, hb2⟩
              have B2 := Lib.hid (Below.then_ MA.out.blw hb2)
              clear hb2
              go_wp2_with fail
              refine (alive16 _).mono ?_
              rintro e w3 ⟨rfl, hb3⟩
              have B3 := Lib.hid (Below.then_ (show Below w.heap.size w (w2.alloc (.cells #[.int .i64 0, .slice none 0 0] 31)) from B2.out.alloc B2.out.size _) hb3)
              go_wp2_with fail
              go_ret
              exact ⟨rfl, B3.out⟩
            · obtain ⟨l, K, rfl, rfl⟩ := isDig_nat hd
              have HY := Lib.hid (fun W hb => HMade.out l K rfl rfl hd W hb)
              clear HMade hd
              go_wp2_with fail
              refine (HY.out w1 MA.out.blw).mono ?_
              rintro e w2 ⟨g, F, r, m, A1, c1, rfl, hD, _, hT, hH, hr, hml, _, hb2⟩
              unfold bagV
              have al := hb2.trans (((Below.refl w2.heap.size w2).alloc (Nat.le_refl _) (.cells #[.int .i64 l, .slice A1 m.length c1] 31)).mono hb2.size)
              have XB := Lib.hid (heap_alloc_new w2 (.cells #[.int .i64 l, .slice A1 m.length c1] 31))
              have al2 := (Below.refl w2.heap.size w2).alloc (Nat.le_refl _) (.cells #[.int .i64 l, .slice A1 m.length c1] 31)
              have M2 : Hid (MS w u7 L u8 L ((⟨g, K, l, sk, r, m, F, A1, c1⟩ : Itm) :: L) (w2.alloc (.cells #[.int .i64 l, .slice A1 m.length c1] 31))) := Lib.hid ((MA.out.below al).add (x := ⟨g, K, l, sk, r, m, F, A1, c1⟩) ⟨hD.below al2, hT.below al2, hH⟩)
              have SU2 := Lib.hid (SU.out.snoc (x := ⟨g, K, l, sk, r, m, F, A1, c1⟩) (by show r.length ≤ 60; omega) (by show m.length ≤ 60; omega))
              clear hD hT hH hr hml hb2 al al2 HY x0 xz XA MA
              go_upto_region 13 with fail
              obtain ⟨pb, hpb⟩ : ∃ p, p = w2.heap.size := ⟨_, rfl⟩
              rw [← hpb] at XB ⊢
              generalize w2.alloc (.cells #[.int .i64 l, .slice A1 m.length c1] 31) = w3 at XB M2 ⊢
              clear hpb
              have hLl : L.length ≤ 5 := by have := HLq.out; omega
              have s3 := M2.out.blw.size
              go_wp2_with ((at_builtin; refine wpList_push tyDp rfl _ _ rfl encG w3 w.heap.size u7 L rfl M2.out.oa ⟨g, K, l, sk, r, m, F, A1, c1⟩ (by go_simp) rfl ?a1 ?a2 ?a3 ?a4))
              case a1 => omega
              case a2 => unfold maxLen; omega
              case a3 => exact s3
              case a4 =>
                intro v4 w4 ho4 hg4 _ _ hb4 _
                have M4 := Lib.hid (M2.out.growA ho4 hg4)
                have XB4 := Lib.hid (blk_grown_not XB.out hg4 (M2.out.oa.ne_block XB.out (by decide)))
                clear ho4 hg4 hb4 M2 XB s3
                have b0 := blk_cell XB4.out
                have bz := lt_of_block XB4.out
                have s4 := M4.out.blw.size
                go_wp2_with ((at_builtin; refine wpList_push tyBg rfl _ _ rfl encBg w4 w.heap.size u8 L rfl M4.out.ob ⟨g, K, l, sk, r, m, F, A1, c1⟩ (by go_simp) rfl ?b1 ?b2 ?b3 ?b4))
                case b1 => omega
                case b2 => unfold maxLen; omega
                case b3 => exact s4
                case b4 =>
                  intro v5 w5 ho5 hg5 _ _ hb5 _
                  have M5 := Lib.hid ((M4.out.growB ho5 hg5).sub (S' := L ++ [⟨g, K, l, sk, r, m, F, A1, c1⟩]) (fun s hs => by
                    rcases List.mem_append.1 hs with hs | hs
                    · exact List.mem_cons_of_mem _ hs
                    · rw [List.mem_singleton.1 hs]; simp))
                  clear ho5 hg5 hb5 M4 XB4 b0 bz s4
                  go_wp2_with fail
                  go_roundw
                  case rel => exact ⟨q + 1, _, by omega, by have := HLq.out; simp; omega, by go_num, M5.out, by have := SU2.out; rw [Nat.mul_add]; exact this⟩
                  case measure => simp [intOf]; omega
    · have SU3 : Hid (SumI L 300) := Lib.hid (by have h1 := SU.out; have h2 := HLq.out; obtain ⟨a, b⟩ := h1; exact ⟨by omega, by omega⟩)
      have HL5 : Hid (L.length ≤ 5) := Lib.hid (by have := HLq.out; omega)
      clear SU HLq
      go_wp2_with fail
      go_loopw [7, 8, 13] (fun va vb i wr => ∃ (q : Nat) (L : List Itm), q ≤ us.length ∧ L.length ≤ 5 ∧ i = .int .i64 q ∧ MergedR w 300 va vb L wr) (fun _ _ i _ => us.length - (intOf i).toNat)
      case atStart => exact ⟨0, L, Nat.zero_le _, HL5.out, rfl, M0.out, SU3.out⟩
      case round =>
        clear M0 SU3 HL5
        obtain ⟨q, L, hq, hL5, rfl, hM, hSu⟩ := hrel
        have M0 := Lib.hid hM
        have SU := Lib.hid hSu
        clear hM hSu
        by_cases hlt : q < us.length
        · by_cases hL1 : 1 < L.length
          · obtain ⟨ga, oa, n, ca, rfl, hn, hnc, hcm⟩ := own_none M0.out.oa (by rintro rfl; simp at hL1)
            obtain ⟨gb, ob, n2, cbb, rfl, hn2, hnc2, hcm2⟩ := own_none M0.out.ob (by rintro rfl; simp at hL1)
            obtain rfl : n = n2 := by omega
            have k1 : (1 : Int) < (n : Int) := by omega
            have k1d : decide ((1 : Int) < (n : Int)) = true := by simp; omega
            have k2 : wrap64 ((n : Int) - 1) = (n : Int) - 1 := by unfold wrap64; omega
            have k3 : IntKind.i64.wrap ((n : Int) - 1) = (n : Int) - 1 := by rw [IntKind.wrap_i64]; omega
            have k4 : n ≤ 5 := by omega
            have hn' := Lib.hid hn
            clear hn hn2 hL1 hL5
            unfold maxLen at hcm hcm2
            have hcm' := Lib.hid hcm
            obtain ⟨kq, kq'⟩ := wrap_succ hlt HM.out
            obtain ⟨b, off, rfl, hb, hc⟩ := HU.out.at_ hlt
            have d0 := (M0.out.blw.cell (p := ⟨b, off + q * 1 + 0, none⟩) hb).trans (hc 0 _ rfl)
            simp only [Nat.add_zero, Nat.mul_one] at d0
            have hu := Hu.out _ (List.getElem_mem hlt)
            have lb : b < wr.heap.size := Nat.lt_of_lt_of_le hb M0.out.blw.size
            generalize us[q] = u at d0 hu
            clear hc
            obtain ⟨i, hi, hin⟩ := pick_at (u := u) (n := n) (by omega)
            obtain ⟨P, ⟨g1, K1, l1, ka, r1, m1, F1, A1, c1⟩, ⟨g2, K2, l2, kb, r2, m2, F2, A2, c2⟩, Q, rfl, hPi⟩ := split_two (L := L) (i := i) (by rw [← hn'.out]; exact hin)
            have hI1 : Hid ((P ++ (⟨g1, K1, l1, ka, r1, m1, F1, A1, c1⟩ : Itm) :: ⟨g2, K2, l2, kb, r2, m2, F2, A2, c2⟩ :: Q)[i]? = some ⟨g1, K1, l1, ka, r1, m1, F1, A1, c1⟩) := Lib.hid (by subst hPi; simp)
            have hI2 : Hid ((P ++ (⟨g1, K1, l1, ka, r1, m1, F1, A1, c1⟩ : Itm) :: ⟨g2, K2, l2, kb, r2, m2, F2, A2, c2⟩ :: Q)[i + 1]? = some ⟨g2, K2, l2, kb, r2, m2, F2, A2, c2⟩) := Lib.hid (by subst hPi; simp)
            have HPi := Lib.hid hPi
            obtain ⟨i1, i2, i3, i4, i5, i6, i7, i8, i9⟩ := idx_facts hin k4
            clear hPi
            have hS1 := SU.out.one
            go_upto_region 20 with fail
            rw [hi]
            clear hi d0 lb hu
            by_cases he : blendErr l1 l2 r1 r2 = 0
            · obtain rfl : l1 = l2 := by
                unfold blendErr at he
                split at he
                · cases he
                · rename_i h; simpa using h
              have hs1 := M0.out.ok _ (List.mem_of_getElem? hI1.out)
              have hs2 := M0.out.ok _ (List.mem_of_getElem? hI2.out)
              have hsum : sumR r1 + sumR r2 ≤ 72057594037927935 := by
                unfold blendErr at he
                rw [if_neg (by simp)] at he
                split at he
                · cases he
                · omega
              have hsm1 := hs1.2.2.sum
              have hsm2 := hs2.2.2.sum
              simp only at hsm1 hsm2 hS1
              have ka1 := hs1.1.1
              have kb1 := hs2.1.1
              simp only at ka1 kb1
              have HY := Lib.hid (fun W (h : MS w (.slice (some ⟨ga, oa, none⟩) n ca) (P ++ (⟨g1, K1, l1, ka, r1, m1, F1, A1, c1⟩ : Itm) :: ⟨g2, K2, l1, kb, r2, m2, F2, A2, c2⟩ :: Q) (.slice (some ⟨gb, ob, none⟩) n cbb) (P ++ (⟨g1, K1, l1, ka, r1, m1, F1, A1, c1⟩ : Itm) :: ⟨g2, K2, l1, kb, r2, m2, F2, A2, c2⟩ :: Q) (P ++ (⟨g1, K1, l1, ka, r1, m1, F1, A1, c1⟩ : Itm) :: ⟨g2, K2, l1, kb, r2, m2, F2, A2, c2⟩ :: Q) W) => blend_Merge W g1 K1 l1 ka r1 F1 g2 K2 kb r2 F2 (h.ok _ (List.mem_of_getElem? hI1.out)).1 (h.ok _ (List.mem_of_getElem? hI2.out)).1 hs1.2.2.light hs2.2.2.light he (by omega) (by omega))
              have HP := Lib.hid (fun W (h : MS w (.slice (some ⟨ga, oa, none⟩) n ca) (P ++ (⟨g1, K1, l1, ka, r1, m1, F1, A1, c1⟩ : Itm) :: ⟨g2, K2, l1, kb, r2, m2, F2, A2, c2⟩ :: Q) (.slice (some ⟨gb, ob, none⟩) n cbb) (P ++ (⟨g1, K1, l1, ka, r1, m1, F1, A1, c1⟩ : Itm) :: ⟨g2, K2, l1, kb, r2, m2, F2, A2, c2⟩ :: Q) (P ++ (⟨g1, K1, l1, ka, r1, m1, F1, A1, c1⟩ : Itm) :: ⟨g2, K2, l1, kb, r2, m2, F2, A2, c2⟩ :: Q) W) => ref10_Pour W l1 A1 c1 m1 A2 c2 m2 (h.ok _ (List.mem_of_getElem? hI1.out)).2.1 (h.ok _ (List.mem_of_getElem? hI2.out)).2.1 hs1.2.2.bag hs2.2.2.bag (by omega) (by omega) (by omega))
              have HJ := Lib.hid (fun rc (h : Joined l1 (min ka kb) r1 r2 rc) => h.held hs1.2.2 hs2.2.2 (Int.le_min.2 ⟨ka1, kb1⟩) (Int.min_le_left _ _) (Int.min_le_right _ _) hsum)
              have HPl := Lib.hid (pourL_len m1 m2)
              obtain ⟨k2, hk2⟩ : ∃ k2, k2 = min ka kb := ⟨_, rfl⟩
              rw [← hk2] at HY HJ
              unfold bagV at HP
              clear hs1 hs2 hsum he hsm1 hsm2 ka1 kb1 hk2
              obtain ⟨mm, hmm⟩ : ∃ mm, mm = pourL m1 m2 := ⟨_, rfl⟩
              rw [← hmm] at HP HJ HPl
              clear hmm
              refine wp_region_noPanic ?_
              refine wp_region_N (fun W' => MS w (.slice (some ⟨ga, oa, none⟩) n ca) (P ++ (⟨g1, K1, l1, ka, r1, m1, F1, A1, c1⟩ : Itm) :: ⟨g2, K2, l1, kb, r2, m2, F2, A2, c2⟩ :: Q) (.slice (some ⟨gb, ob, none⟩) n cbb) (P ++ (⟨g1, K1, l1, ka, r1, m1, F1, A1, c1⟩ : Itm) :: ⟨g2, K2, l1, kb, r2, m2, F2, A2, c2⟩ :: Q) (P ++ (⟨g1, K1, l1, ka, r1, m1, F1, A1, c1⟩ : Itm) :: ⟨g2, K2, l1, kb, r2, m2, F2, A2, c2⟩ :: Q) W') [] (by kernel_rfl) (M0.out.drew) (fun hHeld => ?_)
              have M3 := Lib.hid hHeld
              refine wpAnyN_pure (i := 0) (v := Value.slice (some ⟨ga, oa, none⟩) n ca) rfl (by kernel_rfl) (by kernel_rfl) (by kernel_rfl) (fun _ _ _ h => h) (Or.inl ⟨by rfl, fun W _ => by go_simp⟩) ?_
              try simp only [List.getElem_toArray, List.getElem_cons_zero, List.getElem_cons_succ, Act.put, List.setIfInBounds_toArray, List.set_cons_zero, List.set_cons_succ]
              refine wpAnyN_pure (i := 1) (v := Value.int .i64 i) rfl (by kernel_rfl) (by kernel_rfl) (by kernel_rfl) (fun _ _ _ h => h) (Or.inl ⟨by rfl, fun W _ => by go_simp⟩) ?_
              try simp only [List.getElem_toArray, List.getElem_cons_zero, List.getElem_cons_succ, Act.put, List.setIfInBounds_toArray, List.set_cons_zero, List.set_cons_succ]
              refine wpAnyN_pure (i := 2) (v := Value.pointer (some ⟨ga, oa + i, none⟩)) rfl (by kernel_rfl) (by kernel_rfl) (by kernel_rfl) (fun _ _ _ h => h) (Or.inl ⟨by rfl, fun W _ => by go_simp⟩) ?_
              try simp only [List.getElem_toArray, List.getElem_cons_zero, List.getElem_cons_succ, Act.put, List.setIfInBounds_toArray, List.set_cons_zero, List.set_cons_succ]
              refine wpAnyN_take (i := 3) (v := Value.pointer (some ⟨g1, 0, none⟩)) rfl (by kernel_rfl) (by kernel_rfl) (by kernel_rfl) (by kernel_rfl) (fun _ _ _ h => h) (Or.inl ⟨by rfl, fun W hW => by obtain ⟨⟨q1, _⟩, q2, _, _, q3, _⟩ := ms_at hW hI1.out; obtain ⟨_, q4, _, _, _, _⟩ := ms_at hW hI2.out; go_simp⟩) M3.out ?_
              try simp only [List.getElem_toArray, List.getElem_cons_zero, List.getElem_cons_succ, Act.put, List.setIfInBounds_toArray, List.set_cons_zero, List.set_cons_succ]
              refine wpAnyN_pure (i := 4) (v := Value.slice (some ⟨ga, oa, none⟩) n ca) rfl (by kernel_rfl) (by kernel_rfl) (by kernel_rfl) (fun _ _ _ h => h) (Or.inl ⟨by rfl, fun W _ => by go_simp⟩) ?_
              try simp only [List.getElem_toArray, List.getElem_cons_zero, List.getElem_cons_succ, Act.put, List.setIfInBounds_toArray, List.set_cons_zero, List.set_cons_succ]
              refine wpAnyN_pure (i := 5) (v := Value.int .i64 i) rfl (by kernel_rfl) (by kernel_rfl) (by kernel_rfl) (fun _ _ _ h => h) (Or.inl ⟨by rfl, fun W _ => by go_simp⟩) ?_
              try simp only [List.getElem_toArray, List.getElem_cons_zero, List.getElem_cons_succ, Act.put, List.setIfInBounds_toArray, List.set_cons_zero, List.set_cons_succ]
              refine wpAnyN_pure (i := 6) (v := Value.int .i64 ((i : Int) + 1)) rfl (by kernel_rfl) (by kernel_rfl) (by kernel_rfl) (fun _ _ _ h => h) (Or.inl ⟨by rfl, fun W _ => by go_simp⟩) ?_
              try simp only [List.getElem_toArray, List.getElem_cons_zero, List.getElem_cons_succ, Act.put, List.setIfInBounds_toArray, List.set_cons_zero, List.set_cons_succ]
              refine wpAnyN_pure (i := 7) (v := Value.pointer (some ⟨ga, oa + (i + 1), none⟩)) rfl (by kernel_rfl) (by kernel_rfl) (by kernel_rfl) (fun _ _ _ h => h) (Or.inl ⟨by rfl, fun W _ => by go_simp⟩) ?_
              try simp only [List.getElem_toArray, List.getElem_cons_zero, List.getElem_cons_succ, Act.put, List.setIfInBounds_toArray, List.set_cons_zero, List.set_cons_succ]
              refine wpAnyN_take (i := 8) (v := Value.pointer (some ⟨g2, 0, none⟩)) rfl (by kernel_rfl) (by kernel_rfl) (by kernel_rfl) (by kernel_rfl) (fun _ _ _ h => h) (Or.inl ⟨by rfl, fun W hW => by obtain ⟨⟨q1, _⟩, q2, _, _, q3, _⟩ := ms_at hW hI1.out; obtain ⟨_, q4, _, _, _, _⟩ := ms_at hW hI2.out; go_simp⟩) M3.out ?_
              try simp only [List.getElem_toArray, List.getElem_cons_zero, List.getElem_cons_succ, Act.put, List.setIfInBounds_toArray, List.set_cons_zero, List.set_cons_succ]
              refine wpAnyN_one (i := 9) (by kernel_rfl) rfl (fun K hK => ?_)
              go_simp
              refine (HY.out wr.drew M3.out).mono ?_
              rintro e w5 ⟨gr, Fr, rc, rfl, hD, _, hJ, hb5⟩
              have M5a := Lib.hid (M3.out.below hb5)
              have D5 := Lib.hid hD
              have J5 := Lib.hid hJ
              clear hD hJ hb5
              refine hK.out _ _ (fun _ _ => M5a.out) ?_
              clear hK K
              try simp only [List.getElem_toArray, List.getElem_cons_zero, List.getElem_cons_succ, Act.put, List.setIfInBounds_toArray, List.set_cons_zero, List.set_cons_succ]
              refine wpAnyN_pure (i := 10) (v := Value.tuple #[Value.pointer (some ⟨gr, 0, none⟩), Value.int .i64 0]) rfl (by kernel_rfl) (by kernel_rfl) (by kernel_rfl) (fun _ _ _ h => h) (Or.inl ⟨by rfl, fun W _ => by go_simp⟩) ?_
              try simp only [List.getElem_toArray, List.getElem_cons_zero, List.getElem_cons_succ, Act.put, List.setIfInBounds_toArray, List.set_cons_zero, List.set_cons_succ]
              refine wpAnyN_pure (i := 11) (v := Value.pointer (some ⟨gr, 0, none⟩)) rfl (by kernel_rfl) (by kernel_rfl) (by kernel_rfl) (fun _ _ _ h => h) (Or.inl ⟨by rfl, fun W _ => by go_simp⟩) ?_
              try simp only [List.getElem_toArray, List.getElem_cons_zero, List.getElem_cons_succ, Act.put, List.setIfInBounds_toArray, List.set_cons_zero, List.set_cons_succ]
              refine wpAnyN_pure (i := 12) (v := Value.int .i64 0) rfl (by kernel_rfl) (by kernel_rfl) (by kernel_rfl) (fun _ _ _ h => h) (Or.inl ⟨by rfl, fun W _ => by go_simp⟩) ?_
              try simp only [List.getElem_toArray, List.getElem_cons_zero, List.getElem_cons_succ, Act.put, List.setIfInBounds_toArray, List.set_cons_zero, List.set_cons_succ]
              refine wpAnyN_pure (i := 13) (v := Value.pointer (some ⟨gr, 0, none⟩)) rfl (by kernel_rfl) (by kernel_rfl) (by kernel_rfl) (fun _ _ _ h => h) (Or.inl ⟨by rfl, fun W _ => by go_simp⟩) ?_
              try simp only [List.getElem_toArray, List.getElem_cons_zero, List.getElem_cons_succ, Act.put, List.setIfInBounds_toArray, List.set_cons_zero, List.set_cons_succ]
              refine wpAnyN_one (i := 14) (by kernel_rfl) rfl (fun K hK => ?_)
              go_simp
              refine hK.out _ _ (fun _ _ => M5a.out) ?_
              clear hK K
              try simp only [List.getElem_toArray, List.getElem_cons_zero, List.getElem_cons_succ, Act.put, List.setIfInBounds_toArray, List.set_cons_zero, List.set_cons_succ]
              refine wpAnyN_done (by kernel_rfl) ?_ _
              refine NoPanic.normal ?_
              have M5 : Hid (MS w (.slice (some ⟨ga, oa, none⟩) n ca) (P ++ (⟨g1, K1, l1, ka, r1, m1, F1, A1, c1⟩ : Itm) :: ⟨g2, K2, l1, kb, r2, m2, F2, A2, c2⟩ :: Q) (.slice (some ⟨gb, ob, none⟩) n cbb) (P ++ (⟨g1, K1, l1, ka, r1, m1, F1, A1, c1⟩ : Itm) :: ⟨g2, K2, l1, kb, r2, m2, F2, A2, c2⟩ :: Q) (P ++ (⟨g1, K1, l1, ka, r1, m1, F1, A1, c1⟩ : Itm) :: ⟨g2, K2, l1, kb, r2, m2, F2, A2, c2⟩ :: Q) w5 ∧ DigAt w5 gr K1 l1 k2 rc Fr) := Lib.hid ⟨M5a.out, D5.out⟩
              clear M0 M3 M5a D5 HY
              go_upto_region 23 with fail
              go_cut [17, 18] (fun p f wx => ∃ (pw : Nat) (Ax : Option Addr) (cx : Nat), p = .pointer (some ⟨pw, 0, none⟩) ∧ f = .int .i64 0 ∧ PourX w (.slice (some ⟨ga, oa, none⟩) n ca) (P ++ (⟨g1, K1, l1, ka, r1, m1, F1, A1, c1⟩ : Itm) :: ⟨g2, K2, l1, kb, r2, m2, F2, A2, c2⟩ :: Q) (.slice (some ⟨gb, ob, none⟩) n cbb) (P ++ (⟨g1, K1, l1, ka, r1, m1, F1, A1, c1⟩ : Itm) :: ⟨g2, K2, l1, kb, r2, m2, F2, A2, c2⟩ :: Q) (P ++ (⟨g1, K1, l1, ka, r1, m1, F1, A1, c1⟩ : Itm) :: ⟨g2, K2, l1, kb, r2, m2, F2, A2, c2⟩ :: Q) gr K1 l1 k2 rc Fr pw (.int .i64 l1) (.slice Ax mm.length cx) Ax mm wx)
              case first =>
                refine wp_region_noPanic ?_
                refine wp_region_N (fun W' => MS w (.slice (some ⟨ga, oa, none⟩) n ca) (P ++ (⟨g1, K1, l1, ka, r1, m1, F1, A1, c1⟩ : Itm) :: ⟨g2, K2, l1, kb, r2, m2, F2, A2, c2⟩ :: Q) (.slice (some ⟨gb, ob, none⟩) n cbb) (P ++ (⟨g1, K1, l1, ka, r1, m1, F1, A1, c1⟩ : Itm) :: ⟨g2, K2, l1, kb, r2, m2, F2, A2, c2⟩ :: Q) (P ++ (⟨g1, K1, l1, ka, r1, m1, F1, A1, c1⟩ : Itm) :: ⟨g2, K2, l1, kb, r2, m2, F2, A2, c2⟩ :: Q) W' ∧ DigAt W' gr K1 l1 k2 rc Fr) [14] (by kernel_rfl) (⟨M5.out.1.drew, M5.out.2.below (Below.drew (Below.refl _ _))⟩) (fun hHeld => ?_)
                have M6 := Lib.hid hHeld
                generalize w5.drew = w6 at M6 ⊢
                refine wpAnyN_pure (i := 0) (v := Value.slice (some ⟨gb, ob, none⟩) n cbb) rfl (by kernel_rfl) (by kernel_rfl) (by kernel_rfl) (fun _ _ _ h => h) (Or.inl ⟨by rfl, fun W _ => by go_simp⟩) ?_
                try simp only [List.getElem_toArray, List.getElem_cons_zero, List.getElem_cons_succ, Act.put, List.setIfInBounds_toArray, List.set_cons_zero, List.set_cons_succ]
                refine wpAnyN_pure (i := 1) (v := Value.int .i64 i) rfl (by kernel_rfl) (by kernel_rfl) (by kernel_rfl) (fun _ _ _ h => h) (Or.inl ⟨by rfl, fun W _ => by go_simp⟩) ?_
                try simp only [List.getElem_toArray, List.getElem_cons_zero, List.getElem_cons_succ, Act.put, List.setIfInBounds_toArray, List.set_cons_zero, List.set_cons_succ]
                refine wpAnyN_pure (i := 2) (v := Value.pointer (some ⟨gb, ob + i * 2, none⟩)) rfl (by kernel_rfl) (by kernel_rfl) (by kernel_rfl) (fun _ _ _ h => h) (Or.inl ⟨by rfl, fun W _ => by go_simp⟩) ?_
                try simp only [List.getElem_toArray, List.getElem_cons_zero, List.getElem_cons_succ, Act.put, List.setIfInBounds_toArray, List.set_cons_zero, List.set_cons_succ]
                refine wpAnyN_take (i := 3) (v := Value.agg #[.int .i64 l1, .slice A1 m1.length c1]) rfl (by kernel_rfl) (by kernel_rfl) (by kernel_rfl) (by kernel_rfl) (fun _ _ _ h => h) (Or.inl ⟨by rfl, fun W hW => by obtain ⟨⟨_, q1⟩, _, q2, q3, _, _⟩ := ms_at hW.1 hI1.out; obtain ⟨_, _, q4, q5, _, _⟩ := ms_at hW.1 hI2.out; go_simp⟩) M6.out ?_
                try simp only [List.getElem_toArray, List.getElem_cons_zero, List.getElem_cons_succ, Act.put, List.setIfInBounds_toArray, List.set_cons_zero, List.set_cons_succ]
                refine wpAnyN_pure (i := 4) (v := Value.slice (some ⟨gb, ob, none⟩) n cbb) rfl (by kernel_rfl) (by kernel_rfl) (by kernel_rfl) (fun _ _ _ h => h) (Or.inl ⟨by rfl, fun W _ => by go_simp⟩) ?_
                try simp only [List.getElem_toArray, List.getElem_cons_zero, List.getElem_cons_succ, Act.put, List.setIfInBounds_toArray, List.set_cons_zero, List.set_cons_succ]
                refine wpAnyN_pure (i := 5) (v := Value.int .i64 i) rfl (by kernel_rfl) (by kernel_rfl) (by kernel_rfl) (fun _ _ _ h => h) (Or.inl ⟨by rfl, fun W _ => by go_simp⟩) ?_
                try simp only [List.getElem_toArray, List.getElem_cons_zero, List.getElem_cons_succ, Act.put, List.setIfInBounds_toArray, List.set_cons_zero, List.set_cons_succ]
                refine wpAnyN_pure (i := 6) (v := Value.int .i64 ((i : Int) + 1)) rfl (by kernel_rfl) (by kernel_rfl) (by kernel_rfl) (fun _ _ _ h => h) (Or.inl ⟨by rfl, fun W _ => by go_simp⟩) ?_
                try simp only [List.getElem_toArray, List.getElem_cons_zero, List.getElem_cons_succ, Act.put, List.setIfInBounds_toArray, List.set_cons_zero, List.set_cons_succ]
                refine wpAnyN_pure (i := 7) (v := Value.pointer (some ⟨gb, ob + (i + 1) * 2, none⟩)) rfl (by kernel_rfl) (by kernel_rfl) (by kernel_rfl) (fun _ _ _ h => h) (Or.inl ⟨by rfl, fun W _ => by go_simp⟩) ?_
                try simp only [List.getElem_toArray, List.getElem_cons_zero, List.getElem_cons_succ, Act.put, List.setIfInBounds_toArray, List.set_cons_zero, List.set_cons_succ]
                refine wpAnyN_take (i := 8) (v := Value.agg #[.int .i64 l1, .slice A2 m2.length c2]) rfl (by kernel_rfl) (by kernel_rfl) (by kernel_rfl) (by kernel_rfl) (fun _ _ _ h => h) (Or.inl ⟨by rfl, fun W hW => by obtain ⟨⟨_, q1⟩, _, q2, q3, _, _⟩ := ms_at hW.1 hI1.out; obtain ⟨_, _, q4, q5, _, _⟩ := ms_at hW.1 hI2.out; go_simp⟩) M6.out ?_
                try simp only [List.getElem_toArray, List.getElem_cons_zero, List.getElem_cons_succ, Act.put, List.setIfInBounds_toArray, List.set_cons_zero, List.set_cons_succ]
                clear M5
                refine wpAnyN_two (i := 9) (k := 13) (by kernel_rfl) rfl rfl (fun K hK => ?_) (fun K hK => ?_)
                · go_simp
                  refine (HP.out w6 M6.out.1).mono ?_
                  rintro e w7 ⟨Ax, cx, rfl, hs7, hb7⟩
                  have M7 : Hid ((MS w (.slice (some ⟨ga, oa, none⟩) n ca) (P ++ (⟨g1, K1, l1, ka, r1, m1, F1, A1, c1⟩ : Itm) :: ⟨g2, K2, l1, kb, r2, m2, F2, A2, c2⟩ :: Q) (.slice (some ⟨gb, ob, none⟩) n cbb) (P ++ (⟨g1, K1, l1, ka, r1, m1, F1, A1, c1⟩ : Itm) :: ⟨g2, K2, l1, kb, r2, m2, F2, A2, c2⟩ :: Q) (P ++ (⟨g1, K1, l1, ka, r1, m1, F1, A1, c1⟩ : Itm) :: ⟨g2, K2, l1, kb, r2, m2, F2, A2, c2⟩ :: Q) w7 ∧ DigAt w7 gr K1 l1 k2 rc Fr) ∧ SlT w7 96 encN Ax mm) := Lib.hid ⟨⟨M6.out.1.below hb7, M6.out.2.below hb7⟩, hs7⟩
                  clear hs7 hb7 M6 HP
                  refine hK.out _ _ (fun _ _ => M7.out.1) ?_
                  clear hK K
                  try simp only [List.getElem_toArray, List.getElem_cons_zero, List.getElem_cons_succ, Act.put, List.setIfInBounds_toArray, List.set_cons_zero, List.set_cons_succ]
                  refine wpAnyN_pure (i := 10) (v := Value.tuple #[.agg #[.int .i64 l1, .slice Ax mm.length cx], .int .i64 0]) rfl (by kernel_rfl) (by kernel_rfl) (by kernel_rfl) (fun _ _ _ h => h) (Or.inl ⟨by rfl, fun W _ => by go_simp⟩) ?_
                  try simp only [List.getElem_toArray, List.getElem_cons_zero, List.getElem_cons_succ, Act.put, List.setIfInBounds_toArray, List.set_cons_zero, List.set_cons_succ]
                  refine wpAnyN_pure (i := 11) (v := Value.agg #[.int .i64 l1, .slice Ax mm.length cx]) rfl (by kernel_rfl) (by kernel_rfl) (by kernel_rfl) (fun _ _ _ h => h) (Or.inl ⟨by rfl, fun W _ => by go_simp⟩) ?_
                  try simp only [List.getElem_toArray, List.getElem_cons_zero, List.getElem_cons_succ, Act.put, List.setIfInBounds_toArray, List.set_cons_zero, List.set_cons_succ]
                  refine wpAnyN_pure (i := 12) (v := Value.int .i64 0) rfl (by kernel_rfl) (by kernel_rfl) (by kernel_rfl) (fun _ _ _ h => h) (Or.inl ⟨by rfl, fun W _ => by go_simp⟩) ?_
                  try simp only [List.getElem_toArray, List.getElem_cons_zero, List.getElem_cons_succ, Act.put, List.setIfInBounds_toArray, List.set_cons_zero, List.set_cons_succ]
                  refine wpAnyN_one (i := 13) (by kernel_rfl) rfl (fun K hK => ?_)
                  go_simp
                  have X7 := Lib.hid ((PourX.new M7.out.1.1 M7.out.1.2).more (M7.out.2.alloc _))
                  refine hK.out _ _ (fun _ _ => ⟨X7.out.ms, X7.out.d⟩) ?_
                  clear hK K
                  try simp only [List.getElem_toArray, List.getElem_cons_zero, List.getElem_cons_succ, Act.put, List.setIfInBounds_toArray, List.set_cons_zero, List.set_cons_succ]
                  obtain ⟨pw, hpw⟩ : ∃ q, q = w7.heap.size := ⟨_, rfl⟩
                  rw [← hpw] at X7 ⊢
                  generalize w7.alloc (.cells #[.int .i64 0, .slice none 0 0] 31) = w8 at X7 ⊢
                  clear hpw M7
                  have pf := blk_frozen X7.out.x
                  have pz := lt_of_block X7.out.x
                  have pc := blk_cell X7.out.x
                  refine wpAnyN_one (i := 14) (by kernel_rfl) rfl (fun K hK => ?_)
                  go_simp
                  refine hK.out _ _ (fun h _ => absurd (List.mem_singleton.2 rfl) h) ?_
                  clear hK K pf pz pc
                  try simp only [List.getElem_toArray, List.getElem_cons_zero, List.getElem_cons_succ, Act.put, List.setIfInBounds_toArray, List.set_cons_zero, List.set_cons_succ]
                  refine wpAnyN_one (i := 15) (by kernel_rfl) rfl (fun K hK => ?_)
                  go_simp
                  refine hK.out _ _ (fun _ h => h) ?_
                  clear hK K
                  try simp only [List.getElem_toArray, List.getElem_cons_zero, List.getElem_cons_succ, Act.put, List.setIfInBounds_toArray, List.set_cons_zero, List.set_cons_succ]
                  refine wpAnyN_done (by kernel_rfl) ?_ _
                  refine NoPanic.normal ?_
                  go_wp2_with fail
                  go_meet
                  exact ⟨pw, Ax, cx, rfl, rfl, X7.out.set _ _⟩
                · go_simp
                  have X6 := Lib.hid (PourX.new M6.out.1 M6.out.2)
                  refine hK.out _ _ (fun _ _ => ⟨X6.out.ms, X6.out.d⟩) ?_
                  clear hK K
                  try simp only [List.getElem_toArray, List.getElem_cons_zero, List.getElem_cons_succ, Act.put, List.setIfInBounds_toArray, List.set_cons_zero, List.set_cons_succ]
                  obtain ⟨pw, hpw⟩ : ∃ q, q = w6.heap.size := ⟨_, rfl⟩
                  rw [← hpw] at X6 ⊢
                  generalize w6.alloc (.cells #[.int .i64 0, .slice none 0 0] 31) = w7 at X6 ⊢
                  clear hpw M6
                  refine wpAnyN_one (i := 9) (by kernel_rfl) rfl (fun K hK => ?_)
                  go_simp
                  refine (HP.out w7 X6.out.ms).mono ?_
                  rintro e w8 ⟨Ax, cx, rfl, hs8, hb8⟩
                  have X7 := Lib.hid ((X6.out.below hb8).more hs8)
                  clear hs8 hb8 X6 HP
                  refine hK.out _ _ (fun _ _ => ⟨X7.out.ms, X7.out.d⟩) ?_
                  clear hK K
                  try simp only [List.getElem_toArray, List.getElem_cons_zero, List.getElem_cons_succ, Act.put, List.setIfInBounds_toArray, List.set_cons_zero, List.set_cons_succ]
                  refine wpAnyN_pure (i := 10) (v := Value.tuple #[.agg #[.int .i64 l1, .slice Ax mm.length cx], .int .i64 0]) rfl (by kernel_rfl) (by kernel_rfl) (by kernel_rfl) (fun _ _ _ h => h) (Or.inl ⟨by rfl, fun W _ => by go_simp⟩) ?_
                  try simp only [List.getElem_toArray, List.getElem_cons_zero, List.getElem_cons_succ, Act.put, List.setIfInBounds_toArray, List.set_cons_zero, List.set_cons_succ]
                  refine wpAnyN_pure (i := 11) (v := Value.agg #[.int .i64 l1, .slice Ax mm.length cx]) rfl (by kernel_rfl) (by kernel_rfl) (by kernel_rfl) (fun _ _ _ h => h) (Or.inl ⟨by rfl, fun W _ => by go_simp⟩) ?_
                  try simp only [List.getElem_toArray, List.getElem_cons_zero, List.getElem_cons_succ, Act.put, List.setIfInBounds_toArray, List.set_cons_zero, List.set_cons_succ]
                  refine wpAnyN_pure (i := 12) (v := Value.int .i64 0) rfl (by kernel_rfl) (by kernel_rfl) (by kernel_rfl) (fun _ _ _ h => h) (Or.inl ⟨by rfl, fun W _ => by go_simp⟩) ?_
                  try simp only [List.getElem_toArray, List.getElem_cons_zero, List.getElem_cons_succ, Act.put, List.setIfInBounds_toArray, List.set_cons_zero, List.set_cons_succ]
                  have pf := blk_frozen X7.out.x
                  have pz := lt_of_block X7.out.x
                  have pc := blk_cell X7.out.x
                  refine wpAnyN_one (i := 14) (by kernel_rfl) rfl (fun K hK => ?_)
                  go_simp
                  refine hK.out _ _ (fun h _ => absurd (List.mem_singleton.2 rfl) h) ?_
                  clear hK K pf pz pc
                  try simp only [List.getElem_toArray, List.getElem_cons_zero, List.getElem_cons_succ, Act.put, List.setIfInBounds_toArray, List.set_cons_zero, List.set_cons_succ]
                  refine wpAnyN_one (i := 15) (by kernel_rfl) rfl (fun K hK => ?_)
                  go_simp
                  refine hK.out _ _ (fun _ h => h) ?_
                  clear hK K
                  try simp only [List.getElem_toArray, List.getElem_cons_zero, List.getElem_cons_succ, Act.put, List.setIfInBounds_toArray, List.set_cons_zero, List.set_cons_succ]
                  refine wpAnyN_done (by kernel_rfl) ?_ _
                  refine NoPanic.normal ?_
                  go_wp2_with fail
                  go_meet
                  exact ⟨pw, Ax, cx, rfl, rfl, X7.out.set _ _⟩
              case rest =>
                obtain ⟨pw, Ax, cx, rfl, rfl, hX⟩ := hcut
                have X1 := Lib.hid hX
                clear hX M5 HP
                have b0 := blk_cell X1.out.x
                have bz := lt_of_block X1.out.x
                have HHo := Lib.hid (law16_holds wc gr K1 l1 k2 rc Fr X1.out.d (by have := J5.out.len; omega) Ax cx mm X1.out.s.sl (HJ.out rc J5.out) y)
                unfold bagV at HHo
                go_wp2_with fail
                refine HHo.out.mono ?_
                rintro e w8 ⟨rfl, hb8⟩
                have X8 := Lib.hid (X1.out.below hb8)
                clear hb8 X1 b0 bz HHo
                go_upto_region 26 with fail
                have M8 := Lib.hid (X8.out.ms.add (X8.out.item (c := cx) (HJ.out rc J5.out)))
                have XX8 := Lib.hid X8.out.x
                clear X8
                obtain ⟨x, hx⟩ : ∃ x : Itm, x = ⟨gr, K1, l1, k2, rc, mm, Fr, Ax, cx⟩ := ⟨_, rfl⟩
                have hil : i < (P ++ (⟨g1, K1, l1, ka, r1, m1, F1, A1, c1⟩ : Itm) :: ⟨g2, K2, l1, kb, r2, m2, F2, A2, c2⟩ :: Q).length := by rw [← hn'.out]; exact Nat.lt_of_succ_lt hin
                have HX1 : Hid (x.r.length ≤ r1.length + r2.length ∧ x.m.length ≤ m1.length + m2.length) := Lib.hid (by rw [hx]; exact ⟨J5.out.len, HPl.out⟩)
                rw [← hx] at M8
                have HX := Lib.hid hx
                clear hx HJ J5 HPl
                have NEx : Hid (pw ≠ ga) := Lib.hid (fun e => M8.out.oa.ne_block XX8.out (by decide) (by rw [e]; rfl))
                refine wp_region_noPanic ?_
                refine wp_region_N (fun W' => W'.heap[pw]? = some (.cells #[.int .i64 l1, .slice Ax mm.length cx] 31 (0, 0))) [9] (by kernel_rfl) (XX8.out) (fun hHeld => ?_)
                have X9 := Lib.hid hHeld
                have M9 := Lib.hid M8.out.drew
                generalize w8.drew = w9 at M9 X9 ⊢
                clear M8 XX8
                refine wpAnyN_pure (i := 0) (v := Value.slice (some ⟨ga, oa, none⟩) n ca) rfl (by kernel_rfl) (by kernel_rfl) (by kernel_rfl) (fun _ _ _ h => h) (Or.inl ⟨by rfl, fun W _ => by go_simp⟩) ?_
                try simp only [List.getElem_toArray, List.getElem_cons_zero, List.getElem_cons_succ, Act.put, List.setIfInBounds_toArray, List.set_cons_zero, List.set_cons_succ]
                refine wpAnyN_pure (i := 1) (v := Value.int .i64 i) rfl (by kernel_rfl) (by kernel_rfl) (by kernel_rfl) (fun _ _ _ h => h) (Or.inl ⟨by rfl, fun W _ => by go_simp⟩) ?_
                try simp only [List.getElem_toArray, List.getElem_cons_zero, List.getElem_cons_succ, Act.put, List.setIfInBounds_toArray, List.set_cons_zero, List.set_cons_succ]
                refine wpAnyN_pure (i := 2) (v := Value.slice (some ⟨gb, ob, none⟩) n cbb) rfl (by kernel_rfl) (by kernel_rfl) (by kernel_rfl) (fun _ _ _ h => h) (Or.inl ⟨by rfl, fun W _ => by go_simp⟩) ?_
                try simp only [List.getElem_toArray, List.getElem_cons_zero, List.getElem_cons_succ, Act.put, List.setIfInBounds_toArray, List.set_cons_zero, List.set_cons_succ]
                refine wpAnyN_pure (i := 3) (v := Value.int .i64 i) rfl (by kernel_rfl) (by kernel_rfl) (by kernel_rfl) (fun _ _ _ h => h) (Or.inl ⟨by rfl, fun W _ => by go_simp⟩) ?_
                try simp only [List.getElem_toArray, List.getElem_cons_zero, List.getElem_cons_succ, Act.put, List.setIfInBounds_toArray, List.set_cons_zero, List.set_cons_succ]
                refine wpAnyN_pure (i := 4) (v := Value.pointer (some ⟨gr, 0, none⟩)) rfl (by kernel_rfl) (by kernel_rfl) (by kernel_rfl) (fun _ _ _ h => h) (Or.inl ⟨by rfl, fun W _ => by go_simp⟩) ?_
                try simp only [List.getElem_toArray, List.getElem_cons_zero, List.getElem_cons_succ, Act.put, List.setIfInBounds_toArray, List.set_cons_zero, List.set_cons_succ]
                refine wpAnyN_take (i := 5) (v := Value.agg #[.int .i64 l1, .slice Ax mm.length cx]) rfl (by kernel_rfl) (by kernel_rfl) (by kernel_rfl) (by kernel_rfl) (fun _ _ _ h => h) (Or.inl ⟨by rfl, fun W hW => by have q1 := blk_cell hW; have q2 := lt_of_block hW; go_simp⟩) X9.out ?_
                try simp only [List.getElem_toArray, List.getElem_cons_zero, List.getElem_cons_succ, Act.put, List.setIfInBounds_toArray, List.set_cons_zero, List.set_cons_succ]
                refine wpAnyN_pure (i := 6) (v := Value.pointer (some ⟨ga, oa + i, none⟩)) rfl (by kernel_rfl) (by kernel_rfl) (by kernel_rfl) (fun _ _ _ h => h) (Or.inl ⟨by rfl, fun W _ => by go_simp⟩) ?_
                try simp only [List.getElem_toArray, List.getElem_cons_zero, List.getElem_cons_succ, Act.put, List.setIfInBounds_toArray, List.set_cons_zero, List.set_cons_succ]
                obtain ⟨⟨z1, _⟩, z2, _, _, z3, _⟩ := ms_at2 M9.out hI1.out
                refine wpAnyN_one (i := 7) (by kernel_rfl) rfl (fun K hK => ?_)
                go_simp
                refine hK.out _ _ (fun _ _ => (Below.heap_setCell _ _ _ _ NEx.out).trans X9.out) ?_
                clear hK K z1 z2 z3
                try simp only [List.getElem_toArray, List.getElem_cons_zero, List.getElem_cons_succ, Act.put, List.setIfInBounds_toArray, List.set_cons_zero, List.set_cons_succ]
                have MA9 : Hid (MS w (.slice (some ⟨ga, oa, none⟩) n ca) ((P ++ (⟨g1, K1, l1, ka, r1, m1, F1, A1, c1⟩ : Itm) :: ⟨g2, K2, l1, kb, r2, m2, F2, A2, c2⟩ :: Q).set i x) (.slice (some ⟨gb, ob, none⟩) n cbb) (P ++ (⟨g1, K1, l1, ka, r1, m1, F1, A1, c1⟩ : Itm) :: ⟨g2, K2, l1, kb, r2, m2, F2, A2, c2⟩ :: Q) (x :: (P ++ (⟨g1, K1, l1, ka, r1, m1, F1, A1, c1⟩ : Itm) :: ⟨g2, K2, l1, kb, r2, m2, F2, A2, c2⟩ :: Q)) (w9.setCell ⟨ga, oa + i, none⟩ (.pointer (some ⟨gr, 0, none⟩)))) := Lib.hid (by have := M9.out.setA hil x; rw [HX.out] at this ⊢; exact this)
                generalize w9.setCell ⟨ga, oa + i, none⟩ (.pointer (some ⟨gr, 0, none⟩)) = w11 at MA9 ⊢
                refine wpAnyN_pure (i := 8) (v := Value.pointer (some ⟨gb, ob + i * 2, none⟩)) rfl (by kernel_rfl) (by kernel_rfl) (by kernel_rfl) (fun _ _ _ h => h) (Or.inl ⟨by rfl, fun W _ => by go_simp⟩) ?_
                try simp only [List.getElem_toArray, List.getElem_cons_zero, List.getElem_cons_succ, Act.put, List.setIfInBounds_toArray, List.set_cons_zero, List.set_cons_succ]
                obtain ⟨z1, z2, z3, z4⟩ := bag_at MA9.out.ob hI1.out
                refine wpAnyN_one (i := 9) (by kernel_rfl) rfl (fun K hK => ?_)
                go_simp
                refine hK.out _ _ (fun h _ => absurd (List.mem_singleton.2 rfl) h) ?_
                clear hK K z1 z2 z3 z4
                try simp only [List.getElem_toArray, List.getElem_cons_zero, List.getElem_cons_succ, Act.put, List.setIfInBounds_toArray, List.set_cons_zero, List.set_cons_succ]
                refine wpAnyN_done (by kernel_rfl) ?_ _
                refine NoPanic.normal ?_
                have M10 : Hid (MS w (.slice (some ⟨ga, oa, none⟩) n ca) ((P ++ (⟨g1, K1, l1, ka, r1, m1, F1, A1, c1⟩ : Itm) :: ⟨g2, K2, l1, kb, r2, m2, F2, A2, c2⟩ :: Q).set i x) (.slice (some ⟨gb, ob, none⟩) n cbb) ((P ++ (⟨g1, K1, l1, ka, r1, m1, F1, A1, c1⟩ : Itm) :: ⟨g2, K2, l1, kb, r2, m2, F2, A2, c2⟩ :: Q).set i x) (x :: (P ++ (⟨g1, K1, l1, ka, r1, m1, F1, A1, c1⟩ : Itm) :: ⟨g2, K2, l1, kb, r2, m2, F2, A2, c2⟩ :: Q)) ((w11.setCell ⟨gb, ob + i * 2, none⟩ (.int .i64 l1)).setCell ⟨gb, ob + i * 2 + 1, none⟩ (.slice Ax mm.length cx))) := Lib.hid (by have := MA9.out.setB hil x; rw [HX.out] at this ⊢; exact this)
                clear M9 MA9 X9
                go_upto_region 27 with fail
                generalize (w11.setCell ⟨gb, ob + i * 2, none⟩ (.int .i64 l1)).setCell ⟨gb, ob + i * 2 + 1, none⟩ (.slice Ax mm.length cx) = w10 at M10 ⊢
                have M9 : Hid (MS w (.slice (some ⟨ga, oa, none⟩) n ca) (P ++ x :: ⟨g2, K2, l1, kb, r2, m2, F2, A2, c2⟩ :: Q) (.slice (some ⟨gb, ob, none⟩) n cbb) (P ++ x :: ⟨g2, K2, l1, kb, r2, m2, F2, A2, c2⟩ :: Q) (x :: (P ++ (⟨g1, K1, l1, ka, r1, m1, F1, A1, c1⟩ : Itm) :: ⟨g2, K2, l1, kb, r2, m2, F2, A2, c2⟩ :: Q)) w10) := Lib.hid (by have := M10.out; rwa [set_mid HPi.out] at this)
                clear M10
                obtain ⟨PX, hPX⟩ : ∃ PX, PX = P ++ [x] := ⟨_, rfl⟩
                have HPl : Hid (PX.length = i + 1) := Lib.hid (by rw [hPX, List.length_append, HPi.out, List.length_singleton])
                have HQl : Hid (Q.length = n - (i + 2)) := Lib.hid (q_len hn'.out HPi.out x k4).1
                have HP5 : Hid (PX.length ≤ 5 ∧ PX.length + Q.length ≤ 5) := Lib.hid (by rw [hPX]; exact (q_len hn'.out HPi.out x k4).2)
                obtain ⟨e1, e2, e3⟩ := idx_cap hin hnc
                obtain ⟨e4, _, _⟩ := idx_cap hin hnc2
                have HTk : Hid ((P ++ x :: ⟨g2, K2, l1, kb, r2, m2, F2, A2, c2⟩ :: Q).take (i + 1) = PX) := Lib.hid (by rw [take_mid HPi.out, hPX])
                have HDr : Hid ((P ++ x :: ⟨g2, K2, l1, kb, r2, m2, F2, A2, c2⟩ :: Q).drop (i + 2) = Q) := Lib.hid (drop_mid HPi.out)
                have HPX := Lib.hid hPX
                clear hPX
                go_upto_region 27 with fail
                refine wp_region_noPanic ?_
                refine wp_region_N (fun W' => MS w (.slice (some ⟨ga, oa, none⟩) n ca) (P ++ x :: ⟨g2, K2, l1, kb, r2, m2, F2, A2, c2⟩ :: Q) (.slice (some ⟨gb, ob, none⟩) n cbb) (P ++ x :: ⟨g2, K2, l1, kb, r2, m2, F2, A2, c2⟩ :: Q) (x :: (P ++ (⟨g1, K1, l1, ka, r1, m1, F1, A1, c1⟩ : Itm) :: ⟨g2, K2, l1, kb, r2, m2, F2, A2, c2⟩ :: Q)) W') [] (by kernel_rfl) (M9.out.drew) (fun hHeld => ?_)
                have N0 := Lib.hid hHeld
                generalize w10.drew = x0 at N0 ⊢
                refine wpAnyN_pure (i := 1) (v := Value.slice (some ⟨ga, oa, none⟩) n ca) rfl (by kernel_rfl) (by kernel_rfl) (by kernel_rfl) (fun _ _ _ h => h) (Or.inl ⟨by rfl, fun W _ => by go_simp⟩) ?_
                try simp only [List.getElem_toArray, List.getElem_cons_zero, List.getElem_cons_succ, Act.put, List.setIfInBounds_toArray, List.set_cons_zero, List.set_cons_succ]
                refine wpAnyN_pure (i := 2) (v := Value.int .i64 i) rfl (by kernel_rfl) (by kernel_rfl) (by kernel_rfl) (fun _ _ _ h => h) (Or.inl ⟨by rfl, fun W _ => by go_simp⟩) ?_
                try simp only [List.getElem_toArray, List.getElem_cons_zero, List.getElem_cons_succ, Act.put, List.setIfInBounds_toArray, List.set_cons_zero, List.set_cons_succ]
                refine wpAnyN_pure (i := 3) (v := Value.int .i64 ((i : Int) + 1)) rfl (by kernel_rfl) (by kernel_rfl) (by kernel_rfl) (fun _ _ _ h => h) (Or.inl ⟨by rfl, fun W _ => by go_simp⟩) ?_
                try simp only [List.getElem_toArray, List.getElem_cons_zero, List.getElem_cons_succ, Act.put, List.setIfInBounds_toArray, List.set_cons_zero, List.set_cons_succ]
                refine wpAnyN_pure (i := 4) (v := Value.slice (some ⟨ga, oa, none⟩) PX.length ca) rfl (by kernel_rfl) (by kernel_rfl) (by kernel_rfl) (fun _ _ _ h => h) (Or.inl ⟨by rfl, fun W _ => by rw [HPl.out]; go_simp⟩) ?_
                try simp only [List.getElem_toArray, List.getElem_cons_zero, List.getElem_cons_succ, Act.put, List.setIfInBounds_toArray, List.set_cons_zero, List.set_cons_succ]
                refine wpAnyN_pure (i := 6) (v := Value.slice (some ⟨ga, oa, none⟩) n ca) rfl (by kernel_rfl) (by kernel_rfl) (by kernel_rfl) (fun _ _ _ h => h) (Or.inl ⟨by rfl, fun W _ => by go_simp⟩) ?_
                try simp only [List.getElem_toArray, List.getElem_cons_zero, List.getElem_cons_succ, Act.put, List.setIfInBounds_toArray, List.set_cons_zero, List.set_cons_succ]
                refine wpAnyN_pure (i := 7) (v := Value.int .i64 i) rfl (by kernel_rfl) (by kernel_rfl) (by kernel_rfl) (fun _ _ _ h => h) (Or.inl ⟨by rfl, fun W _ => by go_simp⟩) ?_
                try simp only [List.getElem_toArray, List.getElem_cons_zero, List.getElem_cons_succ, Act.put, List.setIfInBounds_toArray, List.set_cons_zero, List.set_cons_succ]
                refine wpAnyN_pure (i := 8) (v := Value.int .i64 ((i : Int) + 2)) rfl (by kernel_rfl) (by kernel_rfl) (by kernel_rfl) (fun _ _ _ h => h) (Or.inl ⟨by rfl, fun W _ => by go_simp⟩) ?_
                try simp only [List.getElem_toArray, List.getElem_cons_zero, List.getElem_cons_succ, Act.put, List.setIfInBounds_toArray, List.set_cons_zero, List.set_cons_succ]
                refine wpAnyN_pure (i := 9) (v := Value.slice (fromA ca (i + 2) 1 ga oa) Q.length (ca - (i + 2))) rfl (by kernel_rfl) (by kernel_rfl) (by kernel_rfl) (fun _ _ _ h => h) (Or.inl ⟨by rfl, fun W _ => by rw [HQl.out]; unfold fromA; go_simp⟩) ?_
                try simp only [List.getElem_toArray, List.getElem_cons_zero, List.getElem_cons_succ, Act.put, List.setIfInBounds_toArray, List.set_cons_zero, List.set_cons_succ]
                refine wpAnyN_one (i := 0) (by kernel_rfl) rfl (fun K hK => ?_)
                go_simp
                refine hK.out _ _ (fun _ _ => N0.out.alloc _) ?_
                clear hK K
                try simp only [List.getElem_toArray, List.getElem_cons_zero, List.getElem_cons_succ, Act.put, List.setIfInBounds_toArray, List.set_cons_zero, List.set_cons_succ]
                have OE := Lib.hid (own_empty x0 28 encG)
                have B1 : Hid (Below x0.heap.size x0 (x0.alloc (.cells #[] 28))) := Lib.hid ((Below.refl _ _).alloc (Nat.le_refl _) _)
                generalize x0.alloc (.cells #[] 28) = x1 at OE B1 ⊢
                have SP : Hid (Sl x1 x1.heap.size encG (some ⟨ga, oa, none⟩) PX) := Lib.hid (by rw [← HTk.out]; exact (N0.out.below B1.out).oa.sl.take (i + 1))
                refine wpAnyN_one (i := 5) (by kernel_rfl) rfl (fun K hK => ?_)
                refine step_app (o := ⟨some 141, _, _, _, _, _⟩) tyDp rfl _ _ rfl encG x0.heap.size (.slice (some ⟨x0.heap.size, 0, none⟩) 0 0) [] rfl OE.out (some ⟨ga, oa, none⟩) ca PX x1.heap.size rfl SP.out (small_app (a := 0) (b := PX.length) (by rw [Nat.zero_add]; exact HP5.out.1) (by decide)).1 (small_app (a := 0) (b := PX.length) (c := 1) (by rw [Nat.zero_add]; exact HP5.out.1) (by decide)).2 B1.out.size ?_
                intro v2 x2 ho2 _ _ hb2 _
                have O2 : Hid (Own x2 x0.heap.size 28 encG v2 PX) := Lib.hid (by simpa using ho2)
                have B2 := Lib.hid (B1.out.trans hb2)
                clear ho2 hb2 OE B1 SP
                refine hK.out _ _ (fun _ _ => N0.out.below B2.out) ?_
                clear hK K
                try simp only [List.getElem_toArray, List.getElem_cons_zero, List.getElem_cons_succ, Act.put, List.setIfInBounds_toArray, List.set_cons_zero, List.set_cons_succ]
                have SQ : Hid (Sl x2 x2.heap.size encG (fromA ca (i + 2) 1 ga oa) Q) := Lib.hid (by rw [← HDr.out]; exact sl_from (N0.out.below B2.out).oa (i + 2))
                refine wpAnyN_one (i := 10) (by kernel_rfl) rfl (fun K hK => ?_)
                refine step_app (o := ⟨some 146, _, _, _, _, _⟩) tyDp rfl _ _ rfl encG x0.heap.size v2 PX rfl O2.out (fromA ca (i + 2) 1 ga oa) (ca - (i + 2)) Q x2.heap.size rfl SQ.out (small_app HP5.out.2 (by decide)).1 (small_app (c := 1) HP5.out.2 (by decide)).2 B2.out.size ?_
                intro v12 x3 ho3 _ _ hb3 _
                have O3 := Lib.hid ho3
                have B3 := Lib.hid (B2.out.trans hb3)
                clear ho3 hb3 O2 B2 SQ
                refine hK.out _ _ (fun _ _ => N0.out.below B3.out) ?_
                clear hK K
                try simp only [List.getElem_toArray, List.getElem_cons_zero, List.getElem_cons_succ, Act.put, List.setIfInBounds_toArray, List.set_cons_zero, List.set_cons_succ]
                refine wpAnyN_one (i := 11) (by kernel_rfl) rfl (fun K hK => ?_)
                go_simp
                refine hK.out _ _ (fun _ _ => N0.out.below B3.out) ?_
                clear hK K
                try simp only [List.getElem_toArray, List.getElem_cons_zero, List.getElem_cons_succ, Act.put, List.setIfInBounds_toArray, List.set_cons_zero, List.set_cons_succ]
                refine wpAnyN_done (by kernel_rfl) ?_ _
                refine NoPanic.normal ?_
                have M11 := Lib.hid ((N0.out.below B3.out).newA O3.out N0.out.blw.size)
                clear N0 O3 B3
                clear M9
                go_upto_region 28 with fail
                refine wp_region_noPanic ?_
                refine wp_region_N (fun W' => MS w v12 (PX ++ Q) (.slice (some ⟨gb, ob, none⟩) n cbb) (P ++ x :: ⟨g2, K2, l1, kb, r2, m2, F2, A2, c2⟩ :: Q) (x :: (P ++ (⟨g1, K1, l1, ka, r1, m1, F1, A1, c1⟩ : Itm) :: ⟨g2, K2, l1, kb, r2, m2, F2, A2, c2⟩ :: Q)) W') [] (by kernel_rfl) (M11.out.drew) (fun hHeld => ?_)
                have N0 := Lib.hid hHeld
                generalize x3.drew = x0 at N0 ⊢
                refine wpAnyN_pure (i := 1) (v := Value.slice (some ⟨gb, ob, none⟩) n cbb) rfl (by kernel_rfl) (by kernel_rfl) (by kernel_rfl) (fun _ _ _ h => h) (Or.inl ⟨by rfl, fun W _ => by go_simp⟩) ?_
                try simp only [List.getElem_toArray, List.getElem_cons_zero, List.getElem_cons_succ, Act.put, List.setIfInBounds_toArray, List.set_cons_zero, List.set_cons_succ]
                refine wpAnyN_pure (i := 2) (v := Value.int .i64 i) rfl (by kernel_rfl) (by kernel_rfl) (by kernel_rfl) (fun _ _ _ h => h) (Or.inl ⟨by rfl, fun W _ => by go_simp⟩) ?_
                try simp only [List.getElem_toArray, List.getElem_cons_zero, List.getElem_cons_succ, Act.put, List.setIfInBounds_toArray, List.set_cons_zero, List.set_cons_succ]
                refine wpAnyN_pure (i := 3) (v := Value.int .i64 ((i : Int) + 1)) rfl (by kernel_rfl) (by kernel_rfl) (by kernel_rfl) (fun _ _ _ h => h) (Or.inl ⟨by rfl, fun W _ => by go_simp⟩) ?_
                try simp only [List.getElem_toArray, List.getElem_cons_zero, List.getElem_cons_succ, Act.put, List.setIfInBounds_toArray, List.set_cons_zero, List.set_cons_succ]
                refine wpAnyN_pure (i := 4) (v := Value.slice (some ⟨gb, ob, none⟩) PX.length cbb) rfl (by kernel_rfl) (by kernel_rfl) (by kernel_rfl) (fun _ _ _ h => h) (Or.inl ⟨by rfl, fun W _ => by rw [HPl.out]; go_simp⟩) ?_
                try simp only [List.getElem_toArray, List.getElem_cons_zero, List.getElem_cons_succ, Act.put, List.setIfInBounds_toArray, List.set_cons_zero, List.set_cons_succ]
                refine wpAnyN_pure (i := 6) (v := Value.slice (some ⟨gb, ob, none⟩) n cbb) rfl (by kernel_rfl) (by kernel_rfl) (by kernel_rfl) (fun _ _ _ h => h) (Or.inl ⟨by rfl, fun W _ => by go_simp⟩) ?_
                try simp only [List.getElem_toArray, List.getElem_cons_zero, List.getElem_cons_succ, Act.put, List.setIfInBounds_toArray, List.set_cons_zero, List.set_cons_succ]
                refine wpAnyN_pure (i := 7) (v := Value.int .i64 i) rfl (by kernel_rfl) (by kernel_rfl) (by kernel_rfl) (fun _ _ _ h => h) (Or.inl ⟨by rfl, fun W _ => by go_simp⟩) ?_
                try simp only [List.getElem_toArray, List.getElem_cons_zero, List.getElem_cons_succ, Act.put, List.setIfInBounds_toArray, List.set_cons_zero, List.set_cons_succ]
                refine wpAnyN_pure (i := 8) (v := Value.int .i64 ((i : Int) + 2)) rfl (by kernel_rfl) (by kernel_rfl) (by kernel_rfl) (fun _ _ _ h => h) (Or.inl ⟨by rfl, fun W _ => by go_simp⟩) ?_
                try simp only [List.getElem_toArray, List.getElem_cons_zero, List.getElem_cons_succ, Act.put, List.setIfInBounds_toArray, List.set_cons_zero, List.set_cons_succ]
                refine wpAnyN_pure (i := 9) (v := Value.slice (fromA cbb (i + 2) 2 gb ob) Q.length (cbb - (i + 2))) rfl (by kernel_rfl) (by kernel_rfl) (by kernel_rfl) (fun _ _ _ h => h) (Or.inl ⟨by rfl, fun W _ => by rw [HQl.out]; unfold fromA; go_simp⟩) ?_
                try simp only [List.getElem_toArray, List.getElem_cons_zero, List.getElem_cons_succ, Act.put, List.setIfInBounds_toArray, List.set_cons_zero, List.set_cons_succ]
                refine wpAnyN_one (i := 0) (by kernel_rfl) rfl (fun K hK => ?_)
                go_simp
                refine hK.out _ _ (fun _ _ => N0.out.alloc _) ?_
                clear hK K
                try simp only [List.getElem_toArray, List.getElem_cons_zero, List.getElem_cons_succ, Act.put, List.setIfInBounds_toArray, List.set_cons_zero, List.set_cons_succ]
                have OE := Lib.hid (own_empty x0 31 encBg)
                have B1 : Hid (Below x0.heap.size x0 (x0.alloc (.cells #[] 31))) := Lib.hid ((Below.refl _ _).alloc (Nat.le_refl _) _)
                generalize x0.alloc (.cells #[] 31) = x1 at OE B1 ⊢
                have SP : Hid (Sl x1 x1.heap.size encBg (some ⟨gb, ob, none⟩) PX) := Lib.hid (by rw [← HTk.out]; exact (N0.out.below B1.out).ob.sl.take (i + 1))
                refine wpAnyN_one (i := 5) (by kernel_rfl) rfl (fun K hK => ?_)
                refine step_app (o := ⟨some 152, _, _, _, _, _⟩) tyBg rfl _ _ rfl encBg x0.heap.size (.slice (some ⟨x0.heap.size, 0, none⟩) 0 0) [] rfl OE.out (some ⟨gb, ob, none⟩) cbb PX x1.heap.size rfl SP.out (small_app (a := 0) (b := PX.length) (by rw [Nat.zero_add]; exact HP5.out.1) (by decide)).1 (small_app (a := 0) (b := PX.length) (c := 1) (by rw [Nat.zero_add]; exact HP5.out.1) (by decide)).2 B1.out.size ?_
                intro v2 x2 ho2 _ _ hb2 _
                have O2 : Hid (Own x2 x0.heap.size 31 encBg v2 PX) := Lib.hid (by simpa using ho2)
                have B2 := Lib.hid (B1.out.trans hb2)
                clear ho2 hb2 OE B1 SP
                refine hK.out _ _ (fun _ _ => N0.out.below B2.out) ?_
                clear hK K
                try simp only [List.getElem_toArray, List.getElem_cons_zero, List.getElem_cons_succ, Act.put, List.setIfInBounds_toArray, List.set_cons_zero, List.set_cons_succ]
                have SQ : Hid (Sl x2 x2.heap.size encBg (fromA cbb (i + 2) 2 gb ob) Q) := Lib.hid (by rw [← HDr.out]; exact sl_from (N0.out.below B2.out).ob (i + 2))
                refine wpAnyN_one (i := 10) (by kernel_rfl) rfl (fun K hK => ?_)
                refine step_app (o := ⟨some 157, _, _, _, _, _⟩) tyBg rfl _ _ rfl encBg x0.heap.size v2 PX rfl O2.out (fromA cbb (i + 2) 2 gb ob) (cbb - (i + 2)) Q x2.heap.size rfl SQ.out (small_app HP5.out.2 (by decide)).1 (small_app (c := 1) HP5.out.2 (by decide)).2 B2.out.size ?_
                intro v13 x3 ho3 _ _ hb3 _
                have O3 := Lib.hid ho3
                have B3 := Lib.hid (B2.out.trans hb3)
                clear ho3 hb3 O2 B2 SQ
                refine hK.out _ _ (fun _ _ => N0.out.below B3.out) ?_
                clear hK K
                try simp only [List.getElem_toArray, List.getElem_cons_zero, List.getElem_cons_succ, Act.put, List.setIfInBounds_toArray, List.set_cons_zero, List.set_cons_succ]
                refine wpAnyN_one (i := 11) (by kernel_rfl) rfl (fun K hK => ?_)
                go_simp
                refine hK.out _ _ (fun _ _ => N0.out.below B3.out) ?_
                clear hK K
                try simp only [List.getElem_toArray, List.getElem_cons_zero, List.getElem_cons_succ, Act.put, List.setIfInBounds_toArray, List.set_cons_zero, List.set_cons_succ]
                refine wpAnyN_done (by kernel_rfl) ?_ _
                refine NoPanic.normal ?_
                have M13 := Lib.hid ((N0.out.below B3.out).newB O3.out N0.out.blw.size)
                clear N0 O3 B3
                clear M11
                go_wp2_with fail
                go_roundw
                case rel => exact ⟨q + 1, PX ++ Q, hlt, by rw [List.length_append]; exact HP5.out.2, by go_num, M13.out.sub (fun s hs => by
                  rw [HPX.out] at hs
                  simp only [List.mem_append, List.mem_cons, List.not_mem_nil, or_false] at hs ⊢
                  rcases hs with (hs | hs) | hs
                  · exact .inr (.inl hs)
                  · exact .inl hs
                  · exact .inr (.inr (.inr (.inr hs)))), by rw [HPX.out, List.append_assoc]; exact SU.out.merge HX1.out.1 HX1.out.2⟩
                case measure => have := hlt; simp [intOf, kq]; omega
            · have HNo := Lib.hid (fun W (h : MS w (.slice (some ⟨ga, oa, none⟩) n ca) (P ++ (⟨g1, K1, l1, ka, r1, m1, F1, A1, c1⟩ : Itm) :: ⟨g2, K2, l2, kb, r2, m2, F2, A2, c2⟩ :: Q) (.slice (some ⟨gb, ob, none⟩) n cbb) (P ++ (⟨g1, K1, l1, ka, r1, m1, F1, A1, c1⟩ : Itm) :: ⟨g2, K2, l2, kb, r2, m2, F2, A2, c2⟩ :: Q) (P ++ (⟨g1, K1, l1, ka, r1, m1, F1, A1, c1⟩ : Itm) :: ⟨g2, K2, l2, kb, r2, m2, F2, A2, c2⟩ :: Q) W) => blend_Merge_no W g1 K1 l1 ka r1 F1 g2 K2 l2 kb r2 F2 (h.ok _ (List.mem_of_getElem? hI1.out)).1 (h.ok _ (List.mem_of_getElem? hI2.out)).1 he)
              have hne : (blendErr l1 l2 r1 r2 != 0) = true := by simpa using he
              clear he
              generalize blendErr l1 l2 r1 r2 = er at HNo hne
              refine wp_region_noPanic ?_
              refine wp_region_N (fun W' => MS w (.slice (some ⟨ga, oa, none⟩) n ca) (P ++ (⟨g1, K1, l1, ka, r1, m1, F1, A1, c1⟩ : Itm) :: ⟨g2, K2, l2, kb, r2, m2, F2, A2, c2⟩ :: Q) (.slice (some ⟨gb, ob, none⟩) n cbb) (P ++ (⟨g1, K1, l1, ka, r1, m1, F1, A1, c1⟩ : Itm) :: ⟨g2, K2, l2, kb, r2, m2, F2, A2, c2⟩ :: Q) (P ++ (⟨g1, K1, l1, ka, r1, m1, F1, A1, c1⟩ : Itm) :: ⟨g2, K2, l2, kb, r2, m2, F2, A2, c2⟩ :: Q) W') [] (by kernel_rfl) (M0.out.drew) (fun hHeld => ?_)
              have M3 := Lib.hid hHeld
              refine wpAnyN_pure (i := 0) (v := Value.slice (some ⟨ga, oa, none⟩) n ca) rfl (by kernel_rfl) (by kernel_rfl) (by kernel_rfl) (fun _ _ _ h => h) (Or.inl ⟨by rfl, fun W _ => by go_simp⟩) ?_
              try simp only [List.getElem_toArray, List.getElem_cons_zero, List.getElem_cons_succ, Act.put, List.setIfInBounds_toArray, List.set_cons_zero, List.set_cons_succ]
              refine wpAnyN_pure (i := 1) (v := Value.int .i64 i) rfl (by kernel_rfl) (by kernel_rfl) (by kernel_rfl) (fun _ _ _ h => h) (Or.inl ⟨by rfl, fun W _ => by go_simp⟩) ?_
              try simp only [List.getElem_toArray, List.getElem_cons_zero, List.getElem_cons_succ, Act.put, List.setIfInBounds_toArray, List.set_cons_zero, List.set_cons_succ]
              refine wpAnyN_pure (i := 2) (v := Value.pointer (some ⟨ga, oa + i, none⟩)) rfl (by kernel_rfl) (by kernel_rfl) (by kernel_rfl) (fun _ _ _ h => h) (Or.inl ⟨by rfl, fun W _ => by go_simp⟩) ?_
              try simp only [List.getElem_toArray, List.getElem_cons_zero, List.getElem_cons_succ, Act.put, List.setIfInBounds_toArray, List.set_cons_zero, List.set_cons_succ]
              refine wpAnyN_take (i := 3) (v := Value.pointer (some ⟨g1, 0, none⟩)) rfl (by kernel_rfl) (by kernel_rfl) (by kernel_rfl) (by kernel_rfl) (fun _ _ _ h => h) (Or.inl ⟨by rfl, fun W hW => by obtain ⟨⟨q1, _⟩, q2, _, _, q3, _⟩ := ms_at hW hI1.out; obtain ⟨_, q4, _, _, _, _⟩ := ms_at hW hI2.out; go_simp⟩) M3.out ?_
              try simp only [List.getElem_toArray, List.getElem_cons_zero, List.getElem_cons_succ, Act.put, List.setIfInBounds_toArray, List.set_cons_zero, List.set_cons_succ]
              refine wpAnyN_pure (i := 4) (v := Value.slice (some ⟨ga, oa, none⟩) n ca) rfl (by kernel_rfl) (by kernel_rfl) (by kernel_rfl) (fun _ _ _ h => h) (Or.inl ⟨by rfl, fun W _ => by go_simp⟩) ?_
              try simp only [List.getElem_toArray, List.getElem_cons_zero, List.getElem_cons_succ, Act.put, List.setIfInBounds_toArray, List.set_cons_zero, List.set_cons_succ]
              refine wpAnyN_pure (i := 5) (v := Value.int .i64 i) rfl (by kernel_rfl) (by kernel_rfl) (by kernel_rfl) (fun _ _ _ h => h) (Or.inl ⟨by rfl, fun W _ => by go_simp⟩) ?_
              try simp only [List.getElem_toArray, List.getElem_cons_zero, List.getElem_cons_succ, Act.put, List.setIfInBounds_toArray, List.set_cons_zero, List.set_cons_succ]
              refine wpAnyN_pure (i := 6) (v := Value.int .i64 ((i : Int) + 1)) rfl (by kernel_rfl) (by kernel_rfl) (by kernel_rfl) (fun _ _ _ h => h) (Or.inl ⟨by rfl, fun W _ => by go_simp⟩) ?_
              try simp only [List.getElem_toArray, List.getElem_cons_zero, List.getElem_cons_succ, Act.put, List.setIfInBounds_toArray, List.set_cons_zero, List.set_cons_succ]
              refine wpAnyN_pure (i := 7) (v := Value.pointer (some ⟨ga, oa + (i + 1), none⟩)) rfl (by kernel_rfl) (by kernel_rfl) (by kernel_rfl) (fun _ _ _ h => h) (Or.inl ⟨by rfl, fun W _ => by go_simp⟩) ?_
              try simp only [List.getElem_toArray, List.getElem_cons_zero, List.getElem_cons_succ, Act.put, List.setIfInBounds_toArray, List.set_cons_zero, List.set_cons_succ]
              refine wpAnyN_take (i := 8) (v := Value.pointer (some ⟨g2, 0, none⟩)) rfl (by kernel_rfl) (by kernel_rfl) (by kernel_rfl) (by kernel_rfl) (fun _ _ _ h => h) (Or.inl ⟨by rfl, fun W hW => by obtain ⟨⟨q1, _⟩, q2, _, _, q3, _⟩ := ms_at hW hI1.out; obtain ⟨_, q4, _, _, _, _⟩ := ms_at hW hI2.out; go_simp⟩) M3.out ?_
              try simp only [List.getElem_toArray, List.getElem_cons_zero, List.getElem_cons_succ, Act.put, List.setIfInBounds_toArray, List.set_cons_zero, List.set_cons_succ]
              refine wpAnyN_one (i := 9) (by kernel_rfl) rfl (fun K hK => ?_)
              go_simp
              refine (HNo.out wr.drew M3.out).mono ?_
              rintro e w5 ⟨rfl, hb5⟩
              have M5 := Lib.hid (M3.out.below hb5)
              clear hb5
              refine hK.out _ _ (fun _ _ => M5.out) ?_
              clear hK K
              try simp only [List.getElem_toArray, List.getElem_cons_zero, List.getElem_cons_succ, Act.put, List.setIfInBounds_toArray, List.set_cons_zero, List.set_cons_succ]
              refine wpAnyN_pure (i := 10) (v := Value.tuple #[Value.pointer none, Value.int .i64 er]) rfl (by kernel_rfl) (by kernel_rfl) (by kernel_rfl) (fun _ _ _ h => h) (Or.inl ⟨by rfl, fun W _ => by go_simp⟩) ?_
              try simp only [List.getElem_toArray, List.getElem_cons_zero, List.getElem_cons_succ, Act.put, List.setIfInBounds_toArray, List.set_cons_zero, List.set_cons_succ]
              refine wpAnyN_pure (i := 11) (v := Value.pointer none) rfl (by kernel_rfl) (by kernel_rfl) (by kernel_rfl) (fun _ _ _ h => h) (Or.inl ⟨by rfl, fun W _ => by go_simp⟩) ?_
              try simp only [List.getElem_toArray, List.getElem_cons_zero, List.getElem_cons_succ, Act.put, List.setIfInBounds_toArray, List.set_cons_zero, List.set_cons_succ]
              refine wpAnyN_pure (i := 12) (v := Value.int .i64 er) rfl (by kernel_rfl) (by kernel_rfl) (by kernel_rfl) (fun _ _ _ h => h) (Or.inl ⟨by rfl, fun W _ => by go_simp⟩) ?_
              try simp only [List.getElem_toArray, List.getElem_cons_zero, List.getElem_cons_succ, Act.put, List.setIfInBounds_toArray, List.set_cons_zero, List.set_cons_succ]
              refine wpAnyN_pure (i := 13) (v := Value.pointer none) rfl (by kernel_rfl) (by kernel_rfl) (by kernel_rfl) (fun _ _ _ h => h) (Or.inl ⟨by rfl, fun W _ => by go_simp⟩) ?_
              try simp only [List.getElem_toArray, List.getElem_cons_zero, List.getElem_cons_succ, Act.put, List.setIfInBounds_toArray, List.set_cons_zero, List.set_cons_succ]
              refine wpAnyN_one (i := 14) (by kernel_rfl) rfl (fun K hK => ?_)
              go_simp
              refine hK.out _ _ (fun _ _ => M5.out) ?_
              clear hK K
              try simp only [List.getElem_toArray, List.getElem_cons_zero, List.getElem_cons_succ, Act.put, List.setIfInBounds_toArray, List.set_cons_zero, List.set_cons_succ]
              refine wpAnyN_done (by kernel_rfl) ?_ _
              refine NoPanic.normal ?_
              go_wp2_with fail
              refine (alive16 _).mono ?_
              rintro e w6 ⟨rfl, hb6⟩
              have B6 := Lib.hid (Below.then_ M5.out.blw hb6)
              go_wp2_with fail
              go_ret
              exact ⟨rfl, B6.out⟩
          · obtain ⟨Ao, co, rfl, _⟩ := M0.out.oa.form
            have hl1 : decide ((1 : Int) < (L.length : Int)) = false := by simp; omega
            have hqi : (q : Int) < (us.length : Int) := by omega
            go_wp2_with fail
            refine (alive16 _).mono ?_
            rintro e w6 ⟨rfl, hb6⟩
            have B6 := Lib.hid (Below.then_ M0.out.blw hb6)
            go_wp2_with fail
            go_ret
            exact ⟨rfl, B6.out⟩
        · have hqi : decide ((q : Int) < (us.length : Int)) = false := by simp; omega
          go_wp2_with fail
          refine (alive16 _).mono ?_
          rintro e w6 ⟨rfl, hb6⟩
          have B6 := Lib.hid (Below.then_ M0.out.blw hb6)
          go_wp2_with fail
          go_ret
          exact ⟨rfl, B6.out⟩
theorem law_RankMerged (ss : List SideX) (A : Option Addr) (cap : Nat) (us : List Nat) (B : Option Addr) (cb : Nat) (y : Int) (W : World) (hS : Sl W W.heap.size encSd A ss) (hE : ∀ s ∈ ss, SideOk W s) (_ : ss.length ≤ maxLen) (hU : Sl W W.heap.size encU B us) (hu : ∀ u ∈ us, u ≤ 255) (hm : us.length ≤ maxLen) (_ : (Lit.int IntKind.i64 y).wf = true) :
    Calls Tryz.prog 4 #[.slice A ss.length cap, .slice B us.length cb, .int .i64 y] W fun e W' => e = .returned (.bool true) ∧ Below W.heap.size W W' := by
  by_cases h : ss.length ≤ 5
  · exact law_RankMerged_few A cap ss B cb us y W hS hE hU hu h hm
  · exact law_RankMerged_big A cap ss.length _ y W (by omega)
end Go.Proofs.YtcjnchjmpkapmaaGreat
