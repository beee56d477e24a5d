/-
  Texts of this proof, one behind the other: BinsLaw, Runs, Part1, ReachRef, Edges, EachOf, Bound, Bound2, BoundRef, BinsOfP, Same, Bars, Alive19, DigCells, BoundsP, Ref19B, OpenInts, BinsHoldsW.
-/
import Derived.Deep.DeepCutAuto
import Derived.Test.YtcjnchjmpkapmaaGreatP2
import Derived.Test.YtcjnchjmpkapmaaGreatP3
import Derived.Test.YtcjnchjmpkapmaaGreatP4
import Derived.Test.YtcjnchjmpkapmaaGreatP5
import Derived.Test.YtcjnchjmpkapmaaGreatR7
/- Chapter 19: bins: plain laws. -/
set_option linter.unusedSimpArgs false namespace Go.Proofs.YtcjnchjmpkapmaaGreat
open Go.ChangeShapes Go.WideShapes Go.ChangeAt Go.RowKit
set_option linter.unusedVariables false

def rightE (l : Nat) (p : Int) : List Int → Bool
  | [] => true
  | x :: r => (decide (0 ≤ x) && decide (x < 2 ^ l) && decide (p < x)) && rightE l x r
def prevE (es : List Int) (q : Nat) : Int := if q = 0 then -1 else es.getD (q - 1) 0
theorem prevE_succ {es : List Int} {q : Nat} (h : q < es.length) : prevE es (q + 1) = es[q] := by
  unfold prevE
  rw [if_neg (by omega), Nat.add_sub_cancel, List.getD_eq_getElem?_getD, List.getElem?_eq_getElem h]; rfl
theorem prevE_at {es : List Int} {q : Nat} (h : q < es.length) (h0 : 0 < q) : prevE es q = es[q - 1] := by
  unfold prevE
  rw [if_neg (by omega), List.getD_eq_getElem?_getD, List.getElem?_eq_getElem (by omega)]; rfl
theorem rightE_drop {l : Nat} {es : List Int} {q : Nat} (h : q < es.length) : rightE l (prevE es q) (es.drop q) = ((decide (0 ≤ es[q]) && decide (es[q] < 2 ^ l) && decide (prevE es q < es[q])) && rightE l (prevE es (q + 1)) (es.drop (q + 1))) := by
  rw [List.drop_eq_getElem_cons h, prevE_succ h]; rfl
def lowN (l : Int) (r : List Nd) (es : List Int) : Nat → Int
  | 0 => 0
  | q + 1 => if h : q < es.length then lowOf l r es[q] else sumR r
def binAt (l : Int) (r : List Nd) (es : List Int) (q : Nat) : Int := lowN l r es (q + 1) - lowN l r es q
def binsL (l : Int) (r : List Nd) (es : List Int) : List Int := (List.range (es.length + 1)).map (binAt l r es)
def runAt (l : Nat) (es : List Int) (q : Nat) : Int × Int := (if q = 0 then 0 else es.getD (q - 1) 0 + 1, if q < es.length then es.getD q 0 else 2 ^ l - 1)
def runsL (l : Nat) (es : List Int) : List (Int × Int) := (List.range (es.length + 1)).map (runAt l es)
theorem binsL_len (l : Int) (r : List Nd) (es : List Int) : (binsL l r es).length = es.length + 1 := by simp [binsL]
theorem runsL_len (l : Nat) (es : List Int) : (runsL l es).length = es.length + 1 := by simp [runsL]
theorem binsL_at {l : Int} {r : List Nd} {es : List Int} {q : Nat} (h : q < (binsL l r es).length) : (binsL l r es)[q] = binAt l r es q := by simp [binsL]
theorem map_range_succ {α : Type} (f : Nat → α) (q : Nat) : (List.range (q + 1)).map f = (List.range q).map f ++ [f q] := by rw [List.range_succ, List.map_append]; rfl
def binStep (l : Int) (r : List Nd) (a : List Int × Int) (p : Int × Int) : List Int × Int := (a.1 ++ [lowOf l r p.2 - a.2], lowOf l r p.2)
def binFold (l : Int) (r : List Nd) (ps : List (Int × Int)) : List Int × Int := ps.foldl (binStep l r) ([], 0)
theorem binFold_snoc (l : Int) (r : List Nd) (ps : List (Int × Int)) (p : Int × Int) : binFold l r (ps ++ [p]) = binStep l r (binFold l r ps) p := by
  unfold binFold
  rw [List.foldl_append]; rfl
theorem binFold_len (l : Int) (r : List Nd) (ps : List (Int × Int)) : (binFold l r ps).1.length = ps.length := by
  suffices h : ∀ (a : List Int × Int), (ps.foldl (binStep l r) a).1.length = a.1.length + ps.length by
    have := h ([], 0)
    unfold binFold
    simpa using this
  induction ps with
  | nil => intro a; simp
  | cons p ps ih => intro a; rw [List.foldl_cons, ih]; simp [binStep]; omega
theorem binFold_range {l : Nat} {r : List Nd} (hr : rightOf l r = true) (es : List Int) (q : Nat) (hq : q ≤ es.length + 1) : binFold l r ((List.range q).map (runAt l es)) = ((List.range q).map (binAt l r es), lowN l r es q) := by
  induction q with
  | zero => rfl
  | succ q ih =>
    rw [map_range_succ, binFold_snoc, ih (by omega), map_range_succ]
    have e : lowOf l r (runAt l es q).2 = lowN l r es (q + 1) := by
      unfold runAt
      simp only [lowN]
      by_cases h : q < es.length
      · rw [dif_pos h, if_pos h, List.getD_eq_getElem?_getD, List.getElem?_eq_getElem h]; rfl
      · rw [dif_neg h, if_neg h]
        exact low_top hr (by omega)
    simp only [binStep, binAt, e]
theorem binFold_runs {l : Nat} {r : List Nd} (hr : rightOf l r = true) (es : List Int) : (binFold l r (runsL l es)).1 = binsL l r es := by
  unfold runsL
  rw [binFold_range hr es _ (Nat.le_refl _)]; rfl
def lessE (es : List Int) (at_ : Nat) : List Int := es.take at_ ++ es.drop (at_ + 1)
theorem lessE_len {es : List Int} {at_ : Nat} (h : at_ < es.length) : (lessE es at_).length = es.length - 1 := by
  unfold lessE
  rw [List.length_append, List.length_take, List.length_drop]; omega
theorem lessE_get (es : List Int) (at_ i : Nat) (h : at_ < es.length) : (lessE es at_)[i]? = if i < at_ then es[i]? else es[i + 1]? := by
  unfold lessE
  by_cases hi : i < at_
  · rw [if_pos hi, List.getElem?_append_left (by rw [List.length_take]; omega), List.getElem?_take, if_pos hi]
  · rw [if_neg hi, List.getElem?_append_right (by rw [List.length_take]; omega), List.getElem?_drop, List.length_take]
    congr 1; omega
theorem lowN_get (l : Int) (r : List Nd) (es : List Int) (q : Nat) : lowN l r es (q + 1) = match es[q]? with | some x => lowOf l r x | none => sumR r := by
  simp only [lowN]
  by_cases h : q < es.length
  · rw [dif_pos h, List.getElem?_eq_getElem h]
  · rw [dif_neg h, List.getElem?_eq_none (by omega)]
theorem lowN_less {l : Int} {r : List Nd} {es : List Int} {at_ : Nat} (h : at_ < es.length) (j : Nat) : lowN l r (lessE es at_) j = if j ≤ at_ then lowN l r es j else lowN l r es (j + 1) := by
  cases j with
  | zero => rw [if_pos (Nat.zero_le _)]; rfl
  | succ j =>
    rw [lowN_get, lessE_get _ _ _ h, lowN_get, lowN_get]
    by_cases hj : j < at_
    · rw [if_pos hj, if_pos (by omega)]
    · rw [if_neg hj, if_neg (by omega)]
theorem bins_join {l : Int} {r : List Nd} {es : List Int} {at_ : Nat} (h : at_ < es.length) :
    binsL l r (lessE es at_) = (binsL l r es).take at_ ++ [binAt l r es at_ + binAt l r es (at_ + 1)] ++ (binsL l r es).drop (at_ + 2) := by
  have hl := lessE_len h
  apply List.ext_getElem
  · rw [binsL_len, hl, List.length_append, List.length_append, List.length_take, List.length_drop, binsL_len]; simp only [List.length_singleton]; omega
  · intro i h1 h2
    rw [binsL_at]
    rw [binsL_len] at h1
    have hb : ∀ j, binAt l r (lessE es at_) j = (if j + 1 ≤ at_ then lowN l r es (j + 1) else lowN l r es (j + 1 + 1)) - (if j ≤ at_ then lowN l r es j else lowN l r es (j + 1)) := fun j => by
      unfold binAt; rw [lowN_less h, lowN_less h]
    rw [hb]
    have ht : ((binsL l r es).take at_).length = at_ := by rw [List.length_take, binsL_len]; omega
    rcases Nat.lt_trichotomy i at_ with hi | hi | hi
    · rw [if_pos (by omega), if_pos (by omega), List.getElem_append_left (by rw [List.length_append, ht]; omega), List.getElem_append_left (by rw [ht]; omega), List.getElem_take, binsL_at]; rfl
    · subst hi
      rw [if_neg (by omega), if_pos (by omega), List.getElem_append_left (by rw [List.length_append, ht]; simp), List.getElem_append_right (by rw [ht]; omega)]
      simp only [ht, Nat.sub_self, List.getElem_singleton, binAt]; omega
    · rw [if_neg (by omega), if_neg (by omega), List.getElem_append_right (by rw [List.length_append, ht]; simp; omega), List.getElem_drop, binsL_at]
      unfold binAt
      have e : at_ + 2 + (i - ((binsL l r es).take at_ ++ [binAt l r es at_ + binAt l r es (at_ + 1)]).length) = i + 1 := by
        rw [List.length_append, ht]; simp only [List.length_singleton]; omega
      simp only [binAt] at e
      rw [e]
theorem rightE_less {l : Nat} (es : List Int) : ∀ (p : Int) (at_ : Nat), rightE l p es = true → rightE l p (lessE es at_) = true := by
  induction es with
  | nil => intro p at_ h; simp [lessE, rightE]
  | cons x es ih =>
    intro p at_ h
    simp only [rightE, Bool.and_eq_true, decide_eq_true_eq] at h
    obtain ⟨⟨⟨h1, h2⟩, h3⟩, h4⟩ := h
    cases at_ with
    | zero =>
      show rightE l p es = true
      cases es with
      | nil => rfl
      | cons y es =>
        simp only [rightE, Bool.and_eq_true, decide_eq_true_eq] at h4 ⊢
        obtain ⟨⟨⟨h5, h6⟩, h7⟩, h8⟩ := h4
        exact ⟨⟨⟨h5, h6⟩, by omega⟩, h8⟩
    | succ a =>
      show rightE l p (x :: lessE es a) = true
      simp only [rightE, Bool.and_eq_true, decide_eq_true_eq]
      exact ⟨⟨⟨h1, h2⟩, h3⟩, ih x a h4⟩
end Go.Proofs.YtcjnchjmpkapmaaGreat
/- Package bins: runs, an iterator over where bins begin and end. -/
namespace Go.Proofs.YtcjnchjmpkapmaaGreat
open Go.ChangeShapes Go.WideShapes Go.ChangeAt Go.RowKit
set_option linter.unusedVariables false
attribute [local go_sem] Oper.semAt_some

theorem bins_runs (w : World) (l : Int) (A : Option Addr) (n cap : Nat) : Calls Tryz.prog 113 #[.int .i64 l, .slice A n cap] w fun e w' => e = .returned (.func (.func 215) #[] #[.pointer (some ⟨w.heap.size + 1, 0, none⟩), .pointer (some ⟨w.heap.size, 0, none⟩)]) ∧ (w.alloc (.cells #[.int .i64 l] 3)).alloc (.cells #[.slice A n cap] 49) = w' := by
  go_enter Tryz.func113, Tryz.ntmps113
  go_wp2_with fail
  go_ret
  exact ⟨rfl, rfl⟩
theorem runAt_fst_succ {l : Nat} {es : List Int} {q : Nat} (h : q < es.length) : (runAt l es (q + 1)).1 = es[q] + 1 := by
  unfold runAt
  simp only
  rw [if_neg (by omega), Nat.add_sub_cancel, List.getD_eq_getElem?_getD, List.getElem?_eq_getElem h]; rfl
theorem runAt_in {l : Nat} {es : List Int} {q : Nat} (h : q < es.length) : (runAt l es q).2 = es[q] := by
  unfold runAt
  simp only
  rw [if_pos h, List.getD_eq_getElem?_getD, List.getElem?_eq_getElem h]; rfl
theorem runAt_last (l : Nat) (es : List Int) : (runAt l es es.length).2 = 2 ^ l - 1 := by
  unfold runAt
  simp
theorem runs_take (l : Nat) (es : List Int) {q : Nat} (h : q ≤ es.length) : (runsL l es).take q ++ [((runAt l es q).1, (runAt l es q).2)] = (runsL l es).take (q + 1) := by
  have hq : q < (runsL l es).length := by rw [runsL_len]; omega
  rw [List.take_succ_eq_append_getElem hq]
  congr 1
  simp [runsL]
set_option maxRecDepth 100000 in
set_option maxHeartbeats 2000000 in
theorem runs_stops (n be bl z : Nat) (X : Nat → Prop) (l : Nat) (A : Option Addr) (cap : Nat) (es : List Int) (w : World) (hn : 1 ≤ n) (hl : 1 ≤ l ∧ l ≤ 48) (hz : z ≤ w.heap.size)
    (hbe : w.heap[be]? = some (.cells #[.slice A es.length cap] 49 (0, 0))) (hbl : w.heap[bl]? = some (.cells #[.int .i64 l] 3 (0, 0))) (hS : SlX w z X A es) (be1 : be < z) (be2 : ¬ X be) (bl1 : bl < z) (bl2 : ¬ X bl) (hes : ∀ x ∈ es, x ≤ 281474976710656) (hes0 : ∀ x ∈ es, 0 ≤ x) (hlen : es.length ≤ 67108864) :
    SeqStopsK Fence.wide n Tryz.prog 215 #[.pointer (some ⟨be, 0, none⟩), .pointer (some ⟨bl, 0, none⟩)] (fun x : Int × Int => #[Value.int .i64 x.1, Value.int .i64 x.2]) (KeepX z X) (fun ys => ys = runsL l es) (fun pre => pre <+: runsL l es) (runsL l es).length w := fun q J Jx W hW hJ hJx hY h0 => by
  have hWz : Below z w W := hW.mono hz
  have ke := Lib.hid (blk_below hbe hW)
  have kl := Lib.hid (blk_below hbl hW)
  have KS := Lib.hid (hS.below hWz)
  have ce := blk_cell ke.out
  have HY := Lib.hid hY
  have H0 := Lib.hid h0
  have HES := Lib.hid (And.intro hes hes0)
  have p1 := pow_pos' l
  have p2 := pow_48 hl.2
  clear hbe hbl hS hY hJ hJx h0 hes hes0
  refine callsIn_of_wp Tryz.func215 rfl trivial ?_ rfl
  simp only [Tryz.ntmps215, List.size_toArray, List.length_cons, List.length_nil, Nat.reduceAdd, Nat.reduceSub, Array.replicate_succ, Array.replicate_zero, List.push_toArray, List.append_toArray, List.nil_append, List.cons_append]
  gi_wp2_with fail
  gi_loopw [4, 9] (fun f i wr => ∃ k : Nat, k ≤ es.length ∧ i = .int .i64 k ∧ f = .int .i64 (runAt l es k).1 ∧ J ((runsL l es).take k) wr ∧ KeepX z X W wr) (fun _ i _ => es.length - (intOf i).toNat)
  case atStart => exact ⟨0, Nat.zero_le _, rfl, rfl, H0.out, KeepX.refl _⟩
  case round =>
    obtain ⟨k, hk, rfl, rfl, hJk, hK⟩ := hrel
    have KJ := Lib.hid hJk
    have KK := Lib.hid hK
    have hT := runs_take l es hk
    have HT := Lib.hid hT
    by_cases hlt : k < es.length
    · obtain ⟨b, off, rfl, hb, hc⟩ := (KS.out.keep hK).at_ hlt
      have e1 := runAt_in (l := l) hlt
      have e2 := runAt_fst_succ (l := l) hlt
      have hx1 := HES.out.1 _ (List.getElem_mem hlt)
      have hx0 := HES.out.2 _ (List.getElem_mem hlt)
      rw [e1] at hT
      obtain ⟨x, hx⟩ : ∃ x, x = es[k] := ⟨_, rfl⟩
      rw [← hx] at hc e1 e2 hx1 hx0 hT
      have E2 := Lib.hid e2
      obtain ⟨fn, tmps, assign, body, hy, hR⟩ := HY.out _ ((runAt l es k).1, x) _ KJ.out (by rw [List.length_take, runsL_len]; omega)
      rw [hT] at hR
      clear hx e1 e2 hT hJk hK
      gi_wp2_with fail
      refine hR.mono ?_
      rintro e w3 (⟨rfl, hJ3, hk3⟩ | ⟨rfl, hJx3⟩)
      · have K3 := Lib.hid (keepX_t KK.out hk3)
        have J3 := Lib.hid hJ3
        clear hJ3 hk3
        gi_wp2_with fail
        go_roundw
        case rel => exact ⟨k + 1, by omega, by go_num, by rw [E2.out], J3.out, K3.out⟩
        case measure => simp [intOf]; omega
      · have J3 := Lib.hid hJx3
        clear hJx3
        gi_wp2_with fail
        refine bodyPost_ret (results_none rfl _ _ _) rfl ?_
        exact ⟨⟨_, rfl⟩, .inr ⟨_, List.take_prefix _ _, J3.out⟩⟩
    · obtain rfl : k = es.length := by omega
      have cl := hK.cell bl1 bl2 (blk_cell kl.out 0)
      have e1 := runAt_last l es
      rw [e1] at hT
      obtain ⟨fn, tmps, assign, body, hy, hR⟩ := HY.out _ ((runAt l es es.length).1, 2 ^ l - 1) _ KJ.out (by rw [List.length_take, runsL_len]; omega)
      rw [hT, show es.length + 1 = (runsL l es).length by rw [runsL_len], List.take_length] at hR
      clear hT hJk hK e1
      gi_wp2_with fail
      refine hR.mono ?_
      rintro e w3 (⟨rfl, hJ3, hk3⟩ | ⟨rfl, hJx3⟩)
      · have J3 := Lib.hid hJ3
        clear hJ3 hk3
        gi_wp2_with fail
        go_end0
        exact ⟨⟨_, rfl⟩, .inl ⟨_, rfl, J3.out⟩⟩
      · have J3 := Lib.hid hJx3
        clear hJx3
        gi_wp2_with fail
        go_end0
        exact ⟨⟨_, rfl⟩, .inr ⟨_, List.prefix_refl _, J3.out⟩⟩
end Go.Proofs.YtcjnchjmpkapmaaGreat
/- The reference of layer 1: Part. -/
namespace Go.Proofs.YtcjnchjmpkapmaaGreat
open Go.ChangeShapes Go.WideShapes Go.ChangeAt Go.RowKit
set_option linter.unusedVariables false
set_option maxRecDepth 100000

end Go.Proofs.YtcjnchjmpkapmaaGreat
/- The reference of layer 18 (reach): Between, Share. -/
namespace Go.Proofs.YtcjnchjmpkapmaaGreat
open Go.ChangeShapes Go.WideShapes Go.ChangeAt Go.RowKit
set_option linter.unusedVariables false
set_option maxRecDepth 100000

theorem three (p q : Prop) [Decidable p] [Decidable q] : (p ∧ q) ∨ (p ∧ decide q = false) ∨ decide p = false := by
  by_cases hp : p
  · by_cases hq : q
    · exact .inl ⟨hp, hq⟩
    · exact .inr (.inl ⟨hp, decide_eq_false hq⟩)
  · exact .inr (.inr (decide_eq_false hp))
theorem drew_heap (W : World) : W.drew.heap = W.heap := rfl
end Go.Proofs.YtcjnchjmpkapmaaGreat
/- Edges of bins: package bins, and the reference of layer 19: Right. -/
namespace Go.Proofs.YtcjnchjmpkapmaaGreat
open Go.ChangeShapes Go.WideShapes Go.ChangeAt Go.RowKit
set_option linter.unusedVariables false
set_option maxRecDepth 100000

theorem isNode_one {l : Nat} (h1 : 1 ≤ l) (h2 : l ≤ 48) : isNode l 1 = true := by
  have := pow_pos' l
  simp only [isNode, decide_eq_true_eq, Int.toNat_natCast]; omega
theorem right_step {l : Nat} {es : List Int} {q : Nat} (h : q < es.length) :
    (isVal l es[q] = true ∧ (q = 0 ∨ prevE es q < es[q]) → rightE l (prevE es q) (es.drop q) = rightE l (prevE es (q + 1)) (es.drop (q + 1))) ∧
    (isVal l es[q] = false ∨ (0 < q ∧ es[q] ≤ prevE es q) → rightE l (prevE es q) (es.drop q) = false) := by
  rw [rightE_drop h]
  unfold isVal
  constructor
  · rintro ⟨h1, h2⟩
    simp only [Bool.and_eq_true, decide_eq_true_eq] at h1
    have : prevE es q < es[q] := by
      rcases h2 with rfl | h2
      · unfold prevE; simp; omega
      · exact h2
    simp [h1.1, h1.2, this]
  · rintro (h1 | ⟨h1, h2⟩)
    · rw [h1]; simp
    · have : decide (prevE es q < es[q]) = false := by simp; omega
      rw [this]; simp
set_option maxHeartbeats 1000000 in
theorem bins_Right (w : World) (l : Nat) (A : Option Addr) (cap : Nat) (es : List Int) (h1 : 1 ≤ l) (h2 : l ≤ 48) (hS : Sl w w.heap.size encZ A es) (hm : es.length ≤ 67108864) :
    Calls Tryz.prog 214 #[.int .i64 l, .slice A es.length cap] w fun e w' => e = .returned (.bool (rightE l (-1) es)) ∧ Below w.heap.size w w' := by
  have HS := Lib.hid hS
  have HL := Lib.hid (twig_Leaf · l · h1 h2)
  have HU := Lib.hid (isNode_one h1 h2)
  have HR := Lib.hid (show rightE l (-1) es = rightE l (prevE es 0) (es.drop 0) by simp [prevE])
  clear hS
  go_enter Tryz.func214, Tryz.ntmps214
  go_wp2_with fail
  go_loopw [11] (fun i wr => ∃ q : Nat, q ≤ es.length ∧ i = .int .i64 q ∧ rightE l (-1) es = rightE l (prevE es q) (es.drop q) ∧ Below w.heap.size w wr) (fun i _ => es.length - (intOf i).toNat)
  case atStart => exact ⟨0, Nat.zero_le _, rfl, HR.out, Below.refl _ _⟩
  case round =>
    obtain ⟨q, hq, rfl, hr, hB⟩ := hrel
    have hsz := hB.size
    by_cases hlt : q < es.length
    · obtain ⟨b, off, rfl, hb, hc⟩ := HS.out.at_ hlt
      have d0 := (hB.cell (p := ⟨b, off + q, none⟩) hb).trans (by have := hc 0 (.int .i64 es[q]) rfl; simpa using this)
      have lb : b < wr.heap.size := Nat.lt_of_lt_of_le hb hsz
      obtain ⟨g1, g2⟩ := right_step (l := l) hlt
      have dp : 0 < q → wr.cell? ⟨b, off + (q - 1), none⟩ = some (.int .i64 (prevE es q)) := fun h0 => by
        rcases HS.out with h | ⟨b', off', hA, _, hc'⟩
        · subst h; simp at hlt
        cases hA
        rw [prevE_at (by omega) h0]
        exact (hB.cell (p := ⟨b, off + (q - 1), none⟩) hb).trans (by have := hc' (q - 1) _ (List.getElem?_eq_getElem (show q - 1 < es.length by omega)) 0 (.int .i64 es[q - 1]) rfl; simpa using this)
      obtain ⟨x, hx⟩ : ∃ x, x = es[q] := ⟨_, rfl⟩
      rw [← hx] at d0 g1 g2
      have HX := Lib.hid (HL.out · x)
      have G1 := Lib.hid (fun h => hr.trans (g1 h))
      have G2 := Lib.hid (fun h => hr.trans (g2 h))
      clear hc hx hr g1 g2
      cases hv : isVal l x
      · have HF := Lib.hid (G2.out (.inl hv))
        rw [leafV_no hv] at HX
        clear hv dp
        go_wp2_with fail
        refine (HX.out _).mono ?_
        rintro e w1 ⟨rfl, hb1⟩
        have B1 : Below w.heap.size w w1 := Below.then_ (by repeat (first | with_reducible exact Below.refl _ _ | with_reducible assumption | ((with_reducible refine Below.setCell ?_ ?_ _); rotate_left; · (first | omega | exact Nat.le_refl _ | (simp <;> omega))) | (with_reducible refine Below.allocW ?_ _) | (with_reducible refine Below.drew ?_) | (with_reducible refine Below.extW ?_ _))) hb1
        have s1 : w.heap.size ≤ w1.heap.size := B1.size
        go_wp2_with fail
        go_ret
        exact ⟨by rw [HF.out]; rfl, (by repeat (first | with_reducible exact Below.refl _ _ | with_reducible assumption | ((with_reducible refine Below.setCell ?_ ?_ _); rotate_left; · (first | omega | exact Nat.le_refl _ | (simp <;> omega))) | (with_reducible refine Below.allocW ?_ _) | (with_reducible refine Below.drew ?_) | (with_reducible refine Below.extW ?_ _)))⟩
      · rw [leafV_yes hv] at HX
        rcases Nat.eq_zero_or_pos q with rfl | h0
        · have HF := Lib.hid (G1.out ⟨hv, .inl rfl⟩)
          simp only [Nat.add_zero] at d0
          clear hv dp
          go_wp2_with fail
          refine (HX.out _).mono ?_
          rintro e w1 ⟨rfl, hb1⟩
          have B1 : Below w.heap.size w w1 := Below.then_ (by repeat (first | with_reducible exact Below.refl _ _ | with_reducible assumption | ((with_reducible refine Below.setCell ?_ ?_ _); rotate_left; · (first | omega | exact Nat.le_refl _ | (simp <;> omega))) | (with_reducible refine Below.allocW ?_ _) | (with_reducible refine Below.drew ?_) | (with_reducible refine Below.extW ?_ _))) hb1
          have s1 : w.heap.size ≤ w1.heap.size := B1.size
          go_wp2_with fail
          go_roundw
          case rel => exact ⟨1, by omega, by go_num, HF.out, (by repeat (first | with_reducible exact Below.refl _ _ | with_reducible assumption | ((with_reducible refine Below.setCell ?_ ?_ _); rotate_left; · (first | omega | exact Nat.le_refl _ | (simp <;> omega))) | (with_reducible refine Below.allocW ?_ _) | (with_reducible refine Below.drew ?_) | (with_reducible refine Below.extW ?_ _)))⟩
          case measure => simp [intOf]; omega
        · have d1 := dp h0
          have i0 : (0 : Int) < (q : Int) := by omega
          have i1 : (q : Int) - 1 = ((q - 1 : Nat) : Int) := by omega
          have i2 : ((q : Int) - 1) < (es.length : Int) := by omega
          have i3 : 0 ≤ (q : Int) - 1 := by omega
          obtain ⟨q', rfl⟩ : ∃ q', q = q' + 1 := ⟨q - 1, by omega⟩
          simp only [Nat.add_sub_cancel] at d1
          have hql : q' + 1 < 67108864 := by omega
          by_cases hle : x ≤ prevE es (q' + 1)
          · have HF := Lib.hid (G2.out (.inr ⟨h0, hle⟩))
            clear hv dp
            generalize prevE es (q' + 1) = p at d1 hle
            go_wp2_with fail
            refine (HX.out _).mono ?_
            rintro e w1 ⟨rfl, hb1⟩
            have B1 : Below w.heap.size w w1 := Below.then_ (by repeat (first | with_reducible exact Below.refl _ _ | with_reducible assumption | ((with_reducible refine Below.setCell ?_ ?_ _); rotate_left; · (first | omega | exact Nat.le_refl _ | (simp <;> omega))) | (with_reducible refine Below.allocW ?_ _) | (with_reducible refine Below.drew ?_) | (with_reducible refine Below.extW ?_ _))) hb1
            have s1 : w.heap.size ≤ w1.heap.size := B1.size
            have d2 := (hb1.cell (p := ⟨b, off + q', none⟩) lb).trans d1
            have lb2 := Nat.lt_of_lt_of_le lb hb1.size
            go_wp2_with fail
            go_ret
            exact ⟨by rw [HF.out]; rfl, (by repeat (first | with_reducible exact Below.refl _ _ | with_reducible assumption | ((with_reducible refine Below.setCell ?_ ?_ _); rotate_left; · (first | omega | exact Nat.le_refl _ | (simp <;> omega))) | (with_reducible refine Below.allocW ?_ _) | (with_reducible refine Below.drew ?_) | (with_reducible refine Below.extW ?_ _)))⟩
          · have HF := Lib.hid (G1.out ⟨hv, .inr (by omega)⟩)
            have hn : decide (x ≤ prevE es (q' + 1)) = false := by simpa using hle
            clear hv dp
            generalize prevE es (q' + 1) = p at d1 hle hn
            go_wp2_with fail
            refine (HX.out _).mono ?_
            rintro e w1 ⟨rfl, hb1⟩
            have B1 : Below w.heap.size w w1 := Below.then_ (by repeat (first | with_reducible exact Below.refl _ _ | with_reducible assumption | ((with_reducible refine Below.setCell ?_ ?_ _); rotate_left; · (first | omega | exact Nat.le_refl _ | (simp <;> omega))) | (with_reducible refine Below.allocW ?_ _) | (with_reducible refine Below.drew ?_) | (with_reducible refine Below.extW ?_ _))) hb1
            have s1 : w.heap.size ≤ w1.heap.size := B1.size
            have d2 := (hb1.cell (p := ⟨b, off + q', none⟩) lb).trans d1
            have lb2 := Nat.lt_of_lt_of_le lb hb1.size
            go_wp2_with fail
            go_roundw
            case rel => exact ⟨q' + 1 + 1, by omega, by go_num, HF.out, (by repeat (first | with_reducible exact Below.refl _ _ | with_reducible assumption | ((with_reducible refine Below.setCell ?_ ?_ _); rotate_left; · (first | omega | exact Nat.le_refl _ | (simp <;> omega))) | (with_reducible refine Below.allocW ?_ _) | (with_reducible refine Below.drew ?_) | (with_reducible refine Below.extW ?_ _)))⟩
            case measure => simp [intOf]; omega
    · obtain rfl : q = es.length := by omega
      rw [List.drop_length] at hr
      have HF := Lib.hid (show rightE l (-1) es = true from hr)
      clear hr
      go_wp2_with fail
      refine (twig_Right _ l 1).mono ?_
      rintro e w1 ⟨rfl, hb1⟩
      have B1 : Below w.heap.size w w1 := Below.then_ (by repeat (first | with_reducible exact Below.refl _ _ | with_reducible assumption | ((with_reducible refine Below.setCell ?_ ?_ _); rotate_left; · (first | omega | exact Nat.le_refl _ | (simp <;> omega))) | (with_reducible refine Below.allocW ?_ _) | (with_reducible refine Below.drew ?_) | (with_reducible refine Below.extW ?_ _))) hb1
      have s1 : w.heap.size ≤ w1.heap.size := B1.size
      rw [HU.out]
      go_wp2_with fail
      go_ret
      exact ⟨by rw [HF.out]; rfl, (by repeat (first | with_reducible exact Below.refl _ _ | with_reducible assumption | ((with_reducible refine Below.setCell ?_ ?_ _); rotate_left; · (first | omega | exact Nat.le_refl _ | (simp <;> omega))) | (with_reducible refine Below.allocW ?_ _) | (with_reducible refine Below.drew ?_) | (with_reducible refine Below.extW ?_ _)))⟩
set_option maxHeartbeats 1000000 in
theorem ref19_Right (w : World) (l : Nat) (A : Option Addr) (cap : Nat) (es : List Int) (h1 : 1 ≤ l) (h2 : l ≤ 48) (hS : Sl w w.heap.size encZ A es) (hm : es.length ≤ 67108864) :
    Calls Tryz.prog 42 #[.int .i64 l, .slice A es.length cap] w fun e w' => e = .returned (.bool (rightE l (-1) es)) ∧ Below w.heap.size w w' := by
  have HS := Lib.hid hS
  have HL := Lib.hid (ref2_Leaf · l · h1 h2)
  have HU := Lib.hid (show decide (1 ≤ (l : Int) ∧ (l : Int) ≤ 48) = true by simp; omega)
  have HR := Lib.hid (show rightE l (-1) es = rightE l (prevE es 0) (es.drop 0) by simp [prevE])
  clear hS
  go_enter Tryz.func42, Tryz.ntmps42
  go_wp2_with fail
  go_loopw [5] (fun i wr => ∃ q : Nat, q ≤ es.length ∧ i = .int .i64 q ∧ rightE l (-1) es = rightE l (prevE es q) (es.drop q) ∧ Below w.heap.size w wr) (fun i _ => es.length - (intOf i).toNat)
  case atStart => exact ⟨0, Nat.zero_le _, rfl, HR.out, Below.refl _ _⟩
  case round =>
    obtain ⟨q, hq, rfl, hr, hB⟩ := hrel
    have hsz := hB.size
    by_cases hlt : q < es.length
    · obtain ⟨b, off, rfl, hb, hc⟩ := HS.out.at_ hlt
      have d0 := (hB.cell (p := ⟨b, off + q, none⟩) hb).trans (by have := hc 0 (.int .i64 es[q]) rfl; simpa using this)
      have lb : b < wr.heap.size := Nat.lt_of_lt_of_le hb hsz
      obtain ⟨g1, g2⟩ := right_step (l := l) hlt
      have dp : 0 < q → wr.cell? ⟨b, off + (q - 1), none⟩ = some (.int .i64 (prevE es q)) := fun h0 => by
        rcases HS.out with h | ⟨b', off', hA, _, hc'⟩
        · subst h; simp at hlt
        cases hA
        rw [prevE_at (by omega) h0]
        exact (hB.cell (p := ⟨b, off + (q - 1), none⟩) hb).trans (by have := hc' (q - 1) _ (List.getElem?_eq_getElem (show q - 1 < es.length by omega)) 0 (.int .i64 es[q - 1]) rfl; simpa using this)
      obtain ⟨x, hx⟩ : ∃ x, x = es[q] := ⟨_, rfl⟩
      rw [← hx] at d0 g1 g2
      have HX := Lib.hid (HL.out · x)
      have G1 := Lib.hid (fun h => hr.trans (g1 h))
      have G2 := Lib.hid (fun h => hr.trans (g2 h))
      clear hc hx hr g1 g2
      cases hv : isVal l x
      · have HF := Lib.hid (G2.out (.inl hv))
        rw [leafV_no hv] at HX
        clear hv dp
        go_wp2_with fail
        refine (HX.out _).mono ?_
        rintro e w1 ⟨rfl, hb1⟩
        have B1 : Below w.heap.size w w1 := Below.then_ (by repeat (first | with_reducible exact Below.refl _ _ | with_reducible assumption | ((with_reducible refine Below.setCell ?_ ?_ _); rotate_left; · (first | omega | exact Nat.le_refl _ | (simp <;> omega))) | (with_reducible refine Below.allocW ?_ _) | (with_reducible refine Below.drew ?_) | (with_reducible refine Below.extW ?_ _))) hb1
        have s1 : w.heap.size ≤ w1.heap.size := B1.size
        have d9 := (hb1.cell (p := ⟨b, off + q, none⟩) lb).trans d0
        have lb2 := Nat.lt_of_lt_of_le lb hb1.size
        go_wp2_with fail
        refine wp_region_ext (by kernel_rfl) (by kernel_rfl) ?_
        repeat (go_big_quiet_step (fail))
        refine wpQuiet_nil ?_
        intro w2 hb2
        replace hb2 := below_of_ext hb2
        have B2 : Below w.heap.size w w2 := Below.then_ (by repeat (first | with_reducible exact Below.refl _ _ | with_reducible assumption | ((with_reducible refine Below.setCell ?_ ?_ _); rotate_left; · (first | omega | exact Nat.le_refl _ | (simp <;> omega))) | (with_reducible refine Below.allocW ?_ _) | (with_reducible refine Below.drew ?_) | (with_reducible refine Below.extW ?_ _))) hb2
        have s2 : w.heap.size ≤ w2.heap.size := B2.size
        go_wp2_with fail
        go_ret
        exact ⟨by rw [HF.out]; rfl, (by repeat (first | with_reducible exact Below.refl _ _ | with_reducible assumption | ((with_reducible refine Below.setCell ?_ ?_ _); rotate_left; · (first | omega | exact Nat.le_refl _ | (simp <;> omega))) | (with_reducible refine Below.allocW ?_ _) | (with_reducible refine Below.drew ?_) | (with_reducible refine Below.extW ?_ _)))⟩
      · rw [leafV_yes hv] at HX
        rcases Nat.eq_zero_or_pos q with rfl | h0
        · have HF := Lib.hid (G1.out ⟨hv, .inl rfl⟩)
          simp only [Nat.add_zero] at d0
          clear hv dp
          go_wp2_with fail
          refine (HX.out _).mono ?_
          rintro e w1 ⟨rfl, hb1⟩
          have B1 : Below w.heap.size w w1 := Below.then_ (by repeat (first | with_reducible exact Below.refl _ _ | with_reducible assumption | ((with_reducible refine Below.setCell ?_ ?_ _); rotate_left; · (first | omega | exact Nat.le_refl _ | (simp <;> omega))) | (with_reducible refine Below.allocW ?_ _) | (with_reducible refine Below.drew ?_) | (with_reducible refine Below.extW ?_ _))) hb1
          have s1 : w.heap.size ≤ w1.heap.size := B1.size
          go_wp2_with fail
          refine wp_region_ext (by kernel_rfl) (by kernel_rfl) ?_
          repeat (go_big_quiet_step (fail))
          refine wpQuiet_nil ?_
          intro w2 hb2
          replace hb2 := below_of_ext hb2
          have B2 : Below w.heap.size w w2 := Below.then_ (by repeat (first | with_reducible exact Below.refl _ _ | with_reducible assumption | ((with_reducible refine Below.setCell ?_ ?_ _); rotate_left; · (first | omega | exact Nat.le_refl _ | (simp <;> omega))) | (with_reducible refine Below.allocW ?_ _) | (with_reducible refine Below.drew ?_) | (with_reducible refine Below.extW ?_ _))) hb2
          have s2 : w.heap.size ≤ w2.heap.size := B2.size
          go_wp2_with fail
          go_roundw
          case rel => exact ⟨1, by omega, by go_num, HF.out, (by repeat (first | with_reducible exact Below.refl _ _ | with_reducible assumption | ((with_reducible refine Below.setCell ?_ ?_ _); rotate_left; · (first | omega | exact Nat.le_refl _ | (simp <;> omega))) | (with_reducible refine Below.allocW ?_ _) | (with_reducible refine Below.drew ?_) | (with_reducible refine Below.extW ?_ _)))⟩
          case measure => simp [intOf]; omega
        · have d1 := dp h0
          have i0 : (0 : Int) < (q : Int) := by omega
          obtain ⟨q', rfl⟩ : ∃ q', q = q' + 1 := ⟨q - 1, by omega⟩
          simp only [Nat.add_sub_cancel] at d1
          have hql : q' + 1 < 67108864 := by omega
          by_cases hle : x ≤ prevE es (q' + 1)
          · have HF := Lib.hid (G2.out (.inr ⟨h0, hle⟩))
            clear hv dp
            generalize prevE es (q' + 1) = p at d1 hle
            go_wp2_with fail
            refine (HX.out _).mono ?_
            rintro e w1 ⟨rfl, hb1⟩
            have B1 : Below w.heap.size w w1 := Below.then_ (by repeat (first | with_reducible exact Below.refl _ _ | with_reducible assumption | ((with_reducible refine Below.setCell ?_ ?_ _); rotate_left; · (first | omega | exact Nat.le_refl _ | (simp <;> omega))) | (with_reducible refine Below.allocW ?_ _) | (with_reducible refine Below.drew ?_) | (with_reducible refine Below.extW ?_ _))) hb1
            have s1 : w.heap.size ≤ w1.heap.size := B1.size
            have d2 := (hb1.cell (p := ⟨b, off + q', none⟩) lb).trans d1
            have d3 := (hb1.cell (p := ⟨b, off + (q' + 1), none⟩) lb).trans d0
            have lb2 := Nat.lt_of_lt_of_le lb hb1.size
            go_wp2_with fail
            refine wp_region_ext (by kernel_rfl) (by kernel_rfl) ?_
            repeat (go_big_quiet_step (fail))
            refine wpQuiet_nil ?_
            intro w2 hb2
            replace hb2 := below_of_ext hb2
            have B2 : Below w.heap.size w w2 := Below.then_ (by repeat (first | with_reducible exact Below.refl _ _ | with_reducible assumption | ((with_reducible refine Below.setCell ?_ ?_ _); rotate_left; · (first | omega | exact Nat.le_refl _ | (simp <;> omega))) | (with_reducible refine Below.allocW ?_ _) | (with_reducible refine Below.drew ?_) | (with_reducible refine Below.extW ?_ _))) hb2
            have s2 : w.heap.size ≤ w2.heap.size := B2.size
            go_wp2_with fail
            go_ret
            exact ⟨by rw [HF.out]; rfl, (by repeat (first | with_reducible exact Below.refl _ _ | with_reducible assumption | ((with_reducible refine Below.setCell ?_ ?_ _); rotate_left; · (first | omega | exact Nat.le_refl _ | (simp <;> omega))) | (with_reducible refine Below.allocW ?_ _) | (with_reducible refine Below.drew ?_) | (with_reducible refine Below.extW ?_ _)))⟩
          · have HF := Lib.hid (G1.out ⟨hv, .inr (by omega)⟩)
            have hn : decide (x ≤ prevE es (q' + 1)) = false := by simpa using hle
            clear hv dp
            generalize prevE es (q' + 1) = p at d1 hle hn
            go_wp2_with fail
            refine (HX.out _).mono ?_
            rintro e w1 ⟨rfl, hb1⟩
            have B1 : Below w.heap.size w w1 := Below.then_ (by repeat (first | with_reducible exact Below.refl _ _ | with_reducible assumption | ((with_reducible refine Below.setCell ?_ ?_ _); rotate_left; · (first | omega | exact Nat.le_refl _ | (simp <;> omega))) | (with_reducible refine Below.allocW ?_ _) | (with_reducible refine Below.drew ?_) | (with_reducible refine Below.extW ?_ _))) hb1
            have s1 : w.heap.size ≤ w1.heap.size := B1.size
            have d2 := (hb1.cell (p := ⟨b, off + q', none⟩) lb).trans d1
            have d3 := (hb1.cell (p := ⟨b, off + (q' + 1), none⟩) lb).trans d0
            have lb2 := Nat.lt_of_lt_of_le lb hb1.size
            go_wp2_with fail
            refine wp_region_ext (by kernel_rfl) (by kernel_rfl) ?_
            repeat (go_big_quiet_step (fail))
            refine wpQuiet_nil ?_
            intro w2 hb2
            replace hb2 := below_of_ext hb2
            have B2 : Below w.heap.size w w2 := Below.then_ (by repeat (first | with_reducible exact Below.refl _ _ | with_reducible assumption | ((with_reducible refine Below.setCell ?_ ?_ _); rotate_left; · (first | omega | exact Nat.le_refl _ | (simp <;> omega))) | (with_reducible refine Below.allocW ?_ _) | (with_reducible refine Below.drew ?_) | (with_reducible refine Below.extW ?_ _))) hb2
            have s2 : w.heap.size ≤ w2.heap.size := B2.size
            go_wp2_with fail
            go_roundw
            case rel => exact ⟨q' + 1 + 1, by omega, by go_num, HF.out, (by repeat (first | with_reducible exact Below.refl _ _ | with_reducible assumption | ((with_reducible refine Below.setCell ?_ ?_ _); rotate_left; · (first | omega | exact Nat.le_refl _ | (simp <;> omega))) | (with_reducible refine Below.allocW ?_ _) | (with_reducible refine Below.drew ?_) | (with_reducible refine Below.extW ?_ _)))⟩
            case measure => simp [intOf]; omega
    · obtain rfl : q = es.length := by omega
      rw [List.drop_length] at hr
      have HF := Lib.hid (show rightE l (-1) es = true from hr)
      clear hr
      go_wp2_with fail
      refine (ref2_Is _ l).mono ?_
      rintro e w1 ⟨rfl, hb1⟩
      have B1 : Below w.heap.size w w1 := Below.then_ (by repeat (first | with_reducible exact Below.refl _ _ | with_reducible assumption | ((with_reducible refine Below.setCell ?_ ?_ _); rotate_left; · (first | omega | exact Nat.le_refl _ | (simp <;> omega))) | (with_reducible refine Below.allocW ?_ _) | (with_reducible refine Below.drew ?_) | (with_reducible refine Below.extW ?_ _))) hb1
      have s1 : w.heap.size ≤ w1.heap.size := B1.size
      rw [HU.out]
      go_wp2_with fail
      go_ret
      exact ⟨by rw [HF.out]; rfl, (by repeat (first | with_reducible exact Below.refl _ _ | with_reducible assumption | ((with_reducible refine Below.setCell ?_ ?_ _); rotate_left; · (first | omega | exact Nat.le_refl _ | (simp <;> omega))) | (with_reducible refine Below.allocW ?_ _) | (with_reducible refine Below.drew ?_) | (with_reducible refine Below.extW ?_ _)))⟩
def binErr (l : Nat) (es : List Int) : Int := if rightE l (-1) es = true then 0 else 8
theorem bins_wrong_nil (w : World) (v : Value) : Calls Tryz.prog 112 #[.pointer none, v] w fun e w' => e = .returned (.int .i64 1) ∧ Below w.heap.size w w' := by
  go_enter Tryz.func112, Tryz.ntmps112
  go_wp2_with fail
  go_ret
  exact ⟨rfl, (by repeat (first | with_reducible exact Below.refl _ _ | with_reducible assumption | ((with_reducible refine Below.setCell ?_ ?_ _); rotate_left; · (first | omega | exact Nat.le_refl _ | (simp <;> omega))) | (with_reducible refine Below.allocW ?_ _) | (with_reducible refine Below.drew ?_) | (with_reducible refine Below.extW ?_ _)))⟩
theorem bins_wrong (w : World) (g K l : Nat) (k : Int) (r : List Nd) (F : Nat → Prop) (A : Option Addr) (cap : Nat) (es : List Int) (h : DigAt w g K l k r F) (hS : Sl w w.heap.size encZ A es) (hm : es.length ≤ 67108864) :
    Calls Tryz.prog 112 #[.pointer (some ⟨g, 0, none⟩), .slice A es.length cap] w fun e w' => e = .returned (.int .i64 (binErr l es)) ∧ Below w.heap.size w w' := by
  have hl := h.l_le
  have HD := Lib.hid h
  have HS := Lib.hid hS
  have HR := Lib.hid (bins_Right · l A cap es hl.1 hl.2 · hm)
  unfold binErr
  clear h hS
  cases hr : rightE l (-1) es
  all_goals (
    rw [hr] at HR
    clear hr
    go_enter Tryz.func112, Tryz.ntmps112
    go_wp2_with fail
    refine (digest_Conf _ g K l k r F HD.out).mono ?_
    rintro e w1 ⟨rfl, hb1⟩
    have B1 : Below w.heap.size w w1 := Below.then_ (by repeat (first | with_reducible exact Below.refl _ _ | with_reducible assumption | ((with_reducible refine Below.setCell ?_ ?_ _); rotate_left; · (first | omega | exact Nat.le_refl _ | (simp <;> omega))) | (with_reducible refine Below.allocW ?_ _) | (with_reducible refine Below.drew ?_) | (with_reducible refine Below.extW ?_ _))) hb1
    have s1 : w.heap.size ≤ w1.heap.size := B1.size
    go_wp2_with fail
    refine (HR.out _ (HS.out.keep s1 fun p hp => B1.cell hp)).mono ?_
    rintro e w2 ⟨rfl, hb2⟩
    have B2 : Below w.heap.size w w2 := Below.then_ (by repeat (first | with_reducible exact Below.refl _ _ | with_reducible assumption | ((with_reducible refine Below.setCell ?_ ?_ _); rotate_left; · (first | omega | exact Nat.le_refl _ | (simp <;> omega))) | (with_reducible refine Below.allocW ?_ _) | (with_reducible refine Below.drew ?_) | (with_reducible refine Below.extW ?_ _))) hb2
    have s2 : w.heap.size ≤ w2.heap.size := B2.size
    go_wp2_with fail
    go_ret
    exact ⟨rfl, (by repeat (first | with_reducible exact Below.refl _ _ | with_reducible assumption | ((with_reducible refine Below.setCell ?_ ?_ _); rotate_left; · (first | omega | exact Nat.le_refl _ | (simp <;> omega))) | (with_reducible refine Below.allocW ?_ _) | (with_reducible refine Below.drew ?_) | (with_reducible refine Below.extW ?_ _)))⟩)
end Go.Proofs.YtcjnchjmpkapmaaGreat
/- Package bound: each: a function value called for all nodes. -/
namespace Go.Proofs.YtcjnchjmpkapmaaGreat
open Go.ChangeShapes Go.WideShapes Go.ChangeAt Go.RowKit
set_option linter.unusedVariables false
set_option maxRecDepth 100000

structure Stays (I : Nat → World → Prop) : Prop where
  st : ∀ q W W', I q W → Below W.heap.size W W' → I q W'
set_option maxHeartbeats 1000000 in
theorem bound_each (w : World) (g K l : Nat) (k : Int) (r : List Nd) (F : Nat → Prop) (h : DigAt w g K l k r F) (hn : r.length ≤ 67108864)
    (fn : Nat) (caps : Array Value) (eg : ∀ args W, (callFunc fn args).run Tryz.prog W = .ok (.enter fn args) W)
    (I : Nat → World → Prop) (hI : Stays I) (h0 : I 0 w)
    (step : ∀ (q : Nat) (hq : q < r.length) (W : World), I q W → Calls Tryz.prog fn (#[.int .i64 (endsOf l r[q].1).1, .int .i64 (endsOf l r[q].1).2.1, .int .i64 r[q].2] ++ caps) W fun e W' => e = .returned (.tuple #[]) ∧ I (q + 1) W' ∧ KeepN W W') :
    Calls Tryz.prog 121 #[.pointer (some ⟨g, 0, none⟩), .func (.func fn) #[] caps] w fun e w' => e = .returned (.tuple #[]) ∧ I r.length w' ∧ w.heap.size ≤ w'.heap.size := by
  have hf := h.fits
  have hll := h.l_le
  have HD := Lib.hid h
  have H0 := Lib.hid h0
  have HS := Lib.hid step
  clear h h0 step
  go_enter Tryz.func121, Tryz.ntmps121
  go_wp2_with fail
  refine (digest_Conf _ g K l k r F HD.out).mono ?_
  rintro e w1 ⟨rfl, hb1⟩
  have B1 : Below w.heap.size w w1 := Below.then_ (by repeat (first | with_reducible exact Below.refl _ _ | with_reducible assumption | ((with_reducible refine Below.setCell ?_ ?_ _); rotate_left; · (first | omega | exact Nat.le_refl _ | (simp <;> omega))) | (with_reducible refine Below.allocW ?_ _) | (with_reducible refine Below.drew ?_) | (with_reducible refine Below.extW ?_ _))) hb1
  have s1 : w.heap.size ≤ w1.heap.size := B1.size
  go_wp2_with fail
  refine (digest_Nodes _ g K l k r F (HD.out.below B1) hn).mono ?_
  rintro e w2 ⟨v, rfl, ho, hb2⟩
  have B2 : Below w.heap.size w w2 := Below.then_ (by repeat (first | with_reducible exact Below.refl _ _ | with_reducible assumption | ((with_reducible refine Below.setCell ?_ ?_ _); rotate_left; · (first | omega | exact Nat.le_refl _ | (simp <;> omega))) | (with_reducible refine Below.allocW ?_ _) | (with_reducible refine Below.drew ?_) | (with_reducible refine Below.extW ?_ _))) hb2
  have s2 : w.heap.size ≤ w2.heap.size := B2.size
  have HO := Lib.hid ho
  have H2 := Lib.hid (hI.st 0 w w2 H0.out B2)
  obtain ⟨A, cap, rfl, _⟩ := ho.form
  clear ho hb1 hb2 B1
  go_wp2_with fail
  go_loopw [16] (fun i wr => ∃ q : Nat, q ≤ r.length ∧ i = .int .i64 q ∧ Own wr w1.heap.size 153 encN (.slice A r.length cap) r ∧ I q wr ∧ w.heap.size ≤ wr.heap.size) (fun i _ => r.length - (intOf i).toNat)
  case atStart => exact ⟨0, Nat.zero_le _, rfl, HO.out, H2.out, s2⟩
  case round =>
    obtain ⟨j, hj, rfl, hown, hIj, hs⟩ := hrel
    have KO := Lib.hid hown
    have KI := Lib.hid hIj
    clear hown hIj
    by_cases hlt : j < r.length
    · obtain ⟨c, off, rfl, hc, hcl⟩ := KO.out.sl.at_ hlt
      have d0 := hcl 0 (.int .i64 r[j].1) rfl
      have d1 := hcl 1 (.int .i64 r[j].2) rfl
      simp only [Nat.add_zero] at d0
      have hx := hf.roll.2 _ (List.getElem_mem hlt)
      have hxl := hf.lt _ (List.getElem_mem hlt)
      have hp := pow_48 (n := l) hll.2
      have ST := Lib.hid (HS.out j hlt)
      obtain ⟨x, hxe⟩ : ∃ x, x = r[j] := ⟨_, rfl⟩
      rw [← hxe] at d0 d1 hx hxl ST
      have hx1 : x.1 ≤ 562949953421312 := by omega
      have HE := Lib.hid (twig_Ends · l x.1 (by omega))
      generalize endsOf l x.1 = t at HE ST
      obtain ⟨t1, t2, t3⟩ := t
      unfold endsV at HE
      clear hcl hxe hxl hp hx
      go_wp2_with fail
      refine (HE.out _).mono ?_
      rintro e w3 ⟨rfl, hb3⟩
      have c3 := fun o => hb3.cell (p := ⟨wr.heap.size, o, none⟩) (by simp)
      have z3 : wr.heap.size < w3.heap.size := by have := hb3.size; simp at this; omega
      have BW : Below wr.heap.size wr w3 := ((Below.refl wr.heap.size wr).alloc (Nat.le_refl _) _).trans (hb3.mono (by simp))
      have I3 := Lib.hid (hI.st j wr w3 KI.out BW)
      have O3 := Lib.hid (KO.out.below BW)
      clear BW hb3
      go_wp2_with fail
      refine (ST.out _ I3.out).mono ?_
      rintro e w4 ⟨rfl, hI4, hk4⟩
      have I4 := Lib.hid hI4
      have O4 := Lib.hid (hk4.own O3.out)
      have z4 := hk4.1
      clear hI4 hk4
      go_wp2_with fail
      go_roundw
      case rel => exact ⟨j + 1, by omega, by go_num, O4.out, I4.out, by omega⟩
      case measure => simp [intOf]; omega
    · obtain rfl : j = r.length := by omega
      go_wp2_with fail
      go_end0
      exact ⟨rfl, KI.out, hs⟩
end Go.Proofs.YtcjnchjmpkapmaaGreat
/- Package bound: Least, Greatest. -/
namespace Go.Proofs.YtcjnchjmpkapmaaGreat
open Go.ChangeShapes Go.WideShapes Go.ChangeAt Go.RowKit
set_option linter.unusedVariables false
set_option maxRecDepth 100000

theorem bound_each_nil (w : World) (fv : Value) : Calls Tryz.prog 121 #[.pointer none, fv] w fun e w' => e = .returned (.tuple #[]) ∧ Below w.heap.size w w' := by
  go_enter Tryz.func121, Tryz.ntmps121
  go_wp2_with fail
  refine (digest_Conf_nil _).mono ?_
  rintro e w1 ⟨rfl, hb1⟩
  have B1 : Below w.heap.size w w1 := Below.then_ (by repeat (first | with_reducible exact Below.refl _ _ | with_reducible assumption | ((with_reducible refine Below.setCell ?_ ?_ _); rotate_left; · (first | omega | exact Nat.le_refl _ | (simp <;> omega))) | (with_reducible refine Below.allocW ?_ _) | (with_reducible refine Below.drew ?_) | (with_reducible refine Below.extW ?_ _))) hb1
  have s1 : w.heap.size ≤ w1.heap.size := B1.size
  go_wp2_with fail
  refine (digest_Nodes_nil _).mono ?_
  rintro e w2 ⟨rfl, hb2⟩
  have B2 : Below w.heap.size w w2 := Below.then_ (by repeat (first | with_reducible exact Below.refl _ _ | with_reducible assumption | ((with_reducible refine Below.setCell ?_ ?_ _); rotate_left; · (first | omega | exact Nat.le_refl _ | (simp <;> omega))) | (with_reducible refine Below.allocW ?_ _) | (with_reducible refine Below.drew ?_) | (with_reducible refine Below.extW ?_ _))) hb2
  have s2 : w.heap.size ≤ w2.heap.size := B2.size
  go_wp2_with fail
  go_loop [16] (fun i => i = .int .i64 0) (fun _ => 0)
  case atStart => rfl
  case round =>
    subst hrel
    go_wp2_with fail
    go_end0
    exact ⟨rfl, B2⟩
theorem bound_wrong_nil (w : World) : Calls Tryz.prog 120 #[.pointer none] w fun e w' => e = .returned (.int .i64 1) ∧ Below w.heap.size w w' := by
  go_enter Tryz.func120, Tryz.ntmps120
  go_wp2_with fail
  go_ret
  exact ⟨rfl, (by repeat (first | with_reducible exact Below.refl _ _ | with_reducible assumption | ((with_reducible refine Below.setCell ?_ ?_ _); rotate_left; · (first | omega | exact Nat.le_refl _ | (simp <;> omega))) | (with_reducible refine Below.allocW ?_ _) | (with_reducible refine Below.drew ?_) | (with_reducible refine Below.extW ?_ _)))⟩
def wrongOf (r : List Nd) : Int := if sumR r = 0 then 7 else 0
theorem bound_wrong (w : World) (g K l : Nat) (k : Int) (r : List Nd) (F : Nat → Prop) (h : DigAt w g K l k r F) : Calls Tryz.prog 120 #[.pointer (some ⟨g, 0, none⟩)] w fun e w' => e = .returned (.int .i64 (wrongOf r)) ∧ Below w.heap.size w w' := by
  have HN := Lib.hid (digest_N w g K l k r F h)
  unfold wrongOf
  by_cases hN : sumR r = 0
  · rw [if_pos hN]
    rw [hN] at HN
    clear hN h
    go_enter Tryz.func120, Tryz.ntmps120
    go_wp2_with fail
    refine (HN.out).mono ?_
    rintro e w1 ⟨rfl, hb1⟩
    have B1 : Below w.heap.size w w1 := Below.then_ (by repeat (first | with_reducible exact Below.refl _ _ | with_reducible assumption | ((with_reducible refine Below.setCell ?_ ?_ _); rotate_left; · (first | omega | exact Nat.le_refl _ | (simp <;> omega))) | (with_reducible refine Below.allocW ?_ _) | (with_reducible refine Below.drew ?_) | (with_reducible refine Below.extW ?_ _))) hb1
    have s1 : w.heap.size ≤ w1.heap.size := B1.size
    go_wp2_with fail
    go_ret
    exact ⟨rfl, (by repeat (first | with_reducible exact Below.refl _ _ | with_reducible assumption | ((with_reducible refine Below.setCell ?_ ?_ _); rotate_left; · (first | omega | exact Nat.le_refl _ | (simp <;> omega))) | (with_reducible refine Below.allocW ?_ _) | (with_reducible refine Below.drew ?_) | (with_reducible refine Below.extW ?_ _)))⟩
  · rw [if_neg hN]
    have hN0 : ((sumR r) == 0) = false := by simpa using hN
    clear hN h
    go_enter Tryz.func120, Tryz.ntmps120
    go_wp2_with fail
    refine (HN.out).mono ?_
    rintro e w1 ⟨rfl, hb1⟩
    have B1 : Below w.heap.size w w1 := Below.then_ (by repeat (first | with_reducible exact Below.refl _ _ | with_reducible assumption | ((with_reducible refine Below.setCell ?_ ?_ _); rotate_left; · (first | omega | exact Nat.le_refl _ | (simp <;> omega))) | (with_reducible refine Below.allocW ?_ _) | (with_reducible refine Below.drew ?_) | (with_reducible refine Below.extW ?_ _))) hb1
    have s1 : w.heap.size ≤ w1.heap.size := B1.size
    go_wp2_with fail
    go_ret
    exact ⟨rfl, (by repeat (first | with_reducible exact Below.refl _ _ | with_reducible assumption | ((with_reducible refine Below.setCell ?_ ?_ _); rotate_left; · (first | omega | exact Nat.le_refl _ | (simp <;> omega))) | (with_reducible refine Below.allocW ?_ _) | (with_reducible refine Below.drew ?_) | (with_reducible refine Below.extW ?_ _)))⟩

def leastStep (l : Int) (a : Int × Int) (x : Nd) : Int × Int := (min a.1 (endsOf l x.1).1, min a.2 (endsOf l x.1).2.1)
def leastOf (l : Int) (r : List Nd) : Int × Int := r.foldl (leastStep l) (9223372036854775807, 9223372036854775807)
theorem leastOf_succ {l : Int} {r : List Nd} {q : Nat} (h : q < r.length) : leastOf l (r.take (q + 1)) = leastStep l (leastOf l (r.take q)) r[q] := by
  unfold leastOf
  rw [List.take_succ_eq_append_getElem h, List.foldl_append]; rfl
theorem bound_Least1 (w : World) (lo hi n x y : Int) (b : Nat) (h : bothAt w b x y) :
    Calls Tryz.prog 122 #[.int .i64 lo, .int .i64 hi, .int .i64 n, .pointer (some ⟨b, 0, none⟩)] w fun e w' => e = .returned (.tuple #[]) ∧ w' = (w.setCell ⟨b, 0, none⟩ (.int .i64 (min x lo))).setCell ⟨b, 1, none⟩ (.int .i64 (min y hi)) := by
  have cc := blk_cell h
  have cf := blk_frozen h
  have zb := lt_of_block h
  clear h
  go_enter Tryz.func122, Tryz.ntmps122
  go_wp2_with fail
  go_end0
  exact ⟨rfl, rfl⟩
theorem KeepN.set {w : World} {b o : Nat} {x y : Int} (h : bothAt w b x y) (u : Value) : KeepN w (w.setCell ⟨b, o, none⟩ u) := by
  refine ⟨by simp [World.setCell], fun c cs fr hc => ?_⟩
  have hne : c ≠ b := by
    rintro rfl
    unfold bothAt at h
    rw [h] at hc
    injection hc with hc
    injection hc with _ ht
    exact absurd ht (by decide)
  exact (Below.heap_setCell _ _ _ _ hne).trans hc
theorem Below.set_at {B : Nat} {w W : World} {b o : Nat} {u : Value} (h : Below B w W) (hb : B ≤ b) : Below B w (W.setCell ⟨b, o, none⟩ u) := h.setCell (p := ⟨b, o, none⟩) hb u

def BoundI (w : World) (b0 b1 : Nat) (f : Nat → Int × Int) (q : Nat) (W : World) : Prop := Below w.heap.size w W ∧ bothAt W b0 0 0 ∧ bothAt W b1 (f q).1 (f q).2
theorem boundI_stays (w : World) (b0 b1 : Nat) (f : Nat → Int × Int) : Stays (BoundI w b0 b1 f) := ⟨fun q W W' ⟨h1, h2, h3⟩ hb => ⟨h1.trans (hb.mono h1.size), h2.below hb, h3.below hb⟩⟩
def leastT (l : Int) (r : List Nd) : Int × Int × Int := if sumR r = 0 then (0, 0, 7) else ((leastOf l r).1, (leastOf l r).2, 0)
theorem enters_Least : ∀ args W, (callFunc 122 args).run Tryz.prog W = .ok (.enter 122 args) W := enters_of Tryz.func122 (by kernel_rfl) rfl
theorem bound_Least (w : World) (g K l : Nat) (k : Int) (r : List Nd) (F : Nat → Prop) (h : DigAt w g K l k r F) (hn : r.length ≤ 67108864) :
    Calls Tryz.prog 47 #[.pointer (some ⟨g, 0, none⟩)] w fun e w' => e = .returned (bothV (leastT l r)) ∧ Below w.heap.size w w' := by
  have HD := Lib.hid (h.alloc (.cells #[.int .i64 0, .int .i64 0] 57))
  have HW := Lib.hid (bound_wrong · g K l k r F ·)
  clear h
  unfold bothV leastT
  unfold wrongOf at HW
  by_cases hN : sumR r = 0
  · rw [if_pos hN]
    rw [if_pos hN] at HW
    clear hN
    go_enter Tryz.func47, Tryz.ntmps47
    go_wp2_with fail
    refine (HW.out _ HD.out).mono ?_
    rintro e w1 ⟨rfl, hb1⟩
    have B1 : Below w.heap.size w w1 := Below.then_ (by repeat (first | with_reducible exact Below.refl _ _ | with_reducible assumption | ((with_reducible refine Below.setCell ?_ ?_ _); rotate_left; · (first | omega | exact Nat.le_refl _ | (simp <;> omega))) | (with_reducible refine Below.allocW ?_ _) | (with_reducible refine Below.drew ?_) | (with_reducible refine Below.extW ?_ _))) hb1
    have s1 : w.heap.size ≤ w1.heap.size := B1.size
    have z1_0 : w.heap.size < w1.heap.size := by have := hb1.size; (try simp at this); omega
    have y1_0 : w.heap.size ≤ w1.heap.size := Nat.le_of_lt z1_0
    have c1_0 := fun o => hb1.cell (p := ⟨w.heap.size, o, none⟩) (by first | omega | (simp <;> omega))
    have f1_0 := fun o => hb1.frozen (p := ⟨w.heap.size, o, none⟩) (by first | omega | (simp <;> omega))
    go_wp2_with fail
    exact bodyPost_ret (v := .tuple #[.agg #[.int .i64 0, .int .i64 0], .int .i64 7]) (by simp only [results, Tryz.results47]; go_simp) rfl ⟨rfl, (by repeat (first | with_reducible exact Below.refl _ _ | with_reducible assumption | ((with_reducible refine Below.setCell ?_ ?_ _); rotate_left; · (first | omega | exact Nat.le_refl _ | (simp <;> omega))) | (with_reducible refine Below.allocW ?_ _) | (with_reducible refine Below.drew ?_) | (with_reducible refine Below.extW ?_ _)))⟩
  · rw [if_neg hN]
    rw [if_neg hN] at HW
    clear hN
    have N0 := Lib.hid (bothAt.new w 0 0)
    go_enter Tryz.func47, Tryz.ntmps47
    go_wp2_with fail
    refine (HW.out _ HD.out).mono ?_
    rintro e w1 ⟨rfl, hb1⟩
    have B1 : Below w.heap.size w w1 := Below.then_ (by repeat (first | with_reducible exact Below.refl _ _ | with_reducible assumption | ((with_reducible refine Below.setCell ?_ ?_ _); rotate_left; · (first | omega | exact Nat.le_refl _ | (simp <;> omega))) | (with_reducible refine Below.allocW ?_ _) | (with_reducible refine Below.drew ?_) | (with_reducible refine Below.extW ?_ _))) hb1
    have s1 : w.heap.size ≤ w1.heap.size := B1.size
    have z1_0 : w.heap.size < w1.heap.size := by have := hb1.size; (try simp at this); omega
    have y1_0 : w.heap.size ≤ w1.heap.size := Nat.le_of_lt z1_0
    have c1_0 := fun o => hb1.cell (p := ⟨w.heap.size, o, none⟩) (by first | omega | (simp <;> omega))
    have f1_0 := fun o => hb1.frozen (p := ⟨w.heap.size, o, none⟩) (by first | omega | (simp <;> omega))
    have n0 := Lib.hid ((N0.out.below hb1).alloc (.cells #[.int .i64 9223372036854775807, .int .i64 9223372036854775807] 57))
    have n1 := Lib.hid (bothAt.new w1 9223372036854775807 9223372036854775807)
    have HD1 := Lib.hid ((HD.out.below hb1).alloc (.cells #[.int .i64 9223372036854775807, .int .i64 9223372036854775807] 57))
    have BA : Hid (Below w.heap.size w (w1.alloc (.cells #[.int .i64 9223372036854775807, .int .i64 9223372036854775807] 57))) := Lib.hid (by repeat (first | with_reducible exact Below.refl _ _ | with_reducible assumption | ((with_reducible refine Below.setCell ?_ ?_ _); rotate_left; · (first | omega | exact Nat.le_refl _ | (simp <;> omega))) | (with_reducible refine Below.allocW ?_ _) | (with_reducible refine Below.drew ?_) | (with_reducible refine Below.extW ?_ _)))
    go_wp2_with fail
    refine (bound_each _ g K l k r F HD1.out hn 122 #[.pointer (some ⟨w1.heap.size, 0, none⟩)] enters_Least (BoundI w w.heap.size w1.heap.size (fun q => leastOf l (r.take q))) (boundI_stays _ _ _ _) ⟨BA.out, n0.out, n1.out⟩ ?_).mono ?_
    · intro q hq W ⟨i1, i2, i3⟩
      refine (bound_Least1 W _ _ _ _ _ _ i3).mono ?_
      rintro e W' ⟨rfl, rfl⟩
      refine ⟨rfl, ⟨Below.set_at (Below.set_at i1 (by omega)) (by omega), (i2.set (by omega) _).set (by omega) _, ?_⟩, keepN_t (KeepN.set i3 _) (KeepN.set (i3.set0 _) _)⟩
      simp only
      rw [leastOf_succ hq]
      exact (i3.set0 _).set1 _
    · rintro e w2 ⟨rfl, ⟨i1, i2, i3⟩, hs2⟩
      simp only [List.take_length] at i3
      have cc := blk_cell i3
      have cf := blk_frozen i2
      have c0 := blk_cell i2
      have z0 := lt_of_block i2
      have z1 := lt_of_block i3
      clear i2 i3
      go_wp2_with fail
      exact bodyPost_ret (v := .tuple #[.agg #[.int .i64 (leastOf l r).1, .int .i64 (leastOf l r).2], .int .i64 0]) (by simp only [results, Tryz.results47]; go_simp) rfl ⟨rfl, (by repeat (first | with_reducible exact Below.refl _ _ | with_reducible assumption | ((with_reducible refine Below.setCell ?_ ?_ _); rotate_left; · (first | omega | exact Nat.le_refl _ | (simp <;> omega))) | (with_reducible refine Below.allocW ?_ _) | (with_reducible refine Below.drew ?_) | (with_reducible refine Below.extW ?_ _)))⟩
end Go.Proofs.YtcjnchjmpkapmaaGreat
/- Package bound: Greatest, Spread. -/
namespace Go.Proofs.YtcjnchjmpkapmaaGreat
open Go.ChangeShapes Go.WideShapes Go.ChangeAt Go.RowKit
set_option linter.unusedVariables false
set_option maxRecDepth 100000

def mostStep (l : Int) (a : Int × Int) (x : Nd) : Int × Int := (max a.1 (endsOf l x.1).1, max a.2 (endsOf l x.1).2.1)
def mostOf (l : Int) (r : List Nd) : Int × Int := r.foldl (mostStep l) (0, 0)
theorem mostOf_succ {l : Int} {r : List Nd} {q : Nat} (h : q < r.length) : mostOf l (r.take (q + 1)) = mostStep l (mostOf l (r.take q)) r[q] := by
  unfold mostOf
  rw [List.take_succ_eq_append_getElem h, List.foldl_append]; rfl
theorem bound_Greatest1 (w : World) (lo hi n x y : Int) (b : Nat) (h : bothAt w b x y) :
    Calls Tryz.prog 123 #[.int .i64 lo, .int .i64 hi, .int .i64 n, .pointer (some ⟨b, 0, none⟩)] w fun e w' => e = .returned (.tuple #[]) ∧ w' = (w.setCell ⟨b, 0, none⟩ (.int .i64 (max x lo))).setCell ⟨b, 1, none⟩ (.int .i64 (max y hi)) := by
  have cc := blk_cell h
  have cf := blk_frozen h
  have zb := lt_of_block h
  clear h
  go_enter Tryz.func123, Tryz.ntmps123
  go_wp2_with fail
  go_end0
  exact ⟨rfl, rfl⟩
def mostT (l : Int) (r : List Nd) : Int × Int × Int := if sumR r = 0 then (0, 0, 7) else ((mostOf l r).1, (mostOf l r).2, 0)
theorem enters_Greatest : ∀ args W, (callFunc 123 args).run Tryz.prog W = .ok (.enter 123 args) W := enters_of Tryz.func123 (by kernel_rfl) rfl
theorem bound_Greatest (w : World) (g K l : Nat) (k : Int) (r : List Nd) (F : Nat → Prop) (h : DigAt w g K l k r F) (hn : r.length ≤ 67108864) :
    Calls Tryz.prog 48 #[.pointer (some ⟨g, 0, none⟩)] w fun e w' => e = .returned (bothV (mostT l r)) ∧ Below w.heap.size w w' := by
  have HD := Lib.hid (h.alloc (.cells #[.int .i64 0, .int .i64 0] 57))
  have HW := Lib.hid (bound_wrong · g K l k r F ·)
  clear h
  unfold bothV mostT
  unfold wrongOf at HW
  by_cases hN : sumR r = 0
  · rw [if_pos hN]
    rw [if_pos hN] at HW
    clear hN
    go_enter Tryz.func48, Tryz.ntmps48
    go_wp2_with fail
    refine (HW.out _ HD.out).mono ?_
    rintro e w1 ⟨rfl, hb1⟩
    have B1 : Below w.heap.size w w1 := Below.then_ (by repeat (first | with_reducible exact Below.refl _ _ | with_reducible assumption | ((with_reducible refine Below.setCell ?_ ?_ _); rotate_left; · (first | omega | exact Nat.le_refl _ | (simp <;> omega))) | (with_reducible refine Below.allocW ?_ _) | (with_reducible refine Below.drew ?_) | (with_reducible refine Below.extW ?_ _))) hb1
    have s1 : w.heap.size ≤ w1.heap.size := B1.size
    have z1_0 : w.heap.size < w1.heap.size := by have := hb1.size; (try simp at this); omega
    have y1_0 : w.heap.size ≤ w1.heap.size := Nat.le_of_lt z1_0
    have c1_0 := fun o => hb1.cell (p := ⟨w.heap.size, o, none⟩) (by first | omega | (simp <;> omega))
    have f1_0 := fun o => hb1.frozen (p := ⟨w.heap.size, o, none⟩) (by first | omega | (simp <;> omega))
    go_wp2_with fail
    exact bodyPost_ret (v := .tuple #[.agg #[.int .i64 0, .int .i64 0], .int .i64 7]) (by simp only [results, Tryz.results48]; go_simp) rfl ⟨rfl, (by repeat (first | with_reducible exact Below.refl _ _ | with_reducible assumption | ((with_reducible refine Below.setCell ?_ ?_ _); rotate_left; · (first | omega | exact Nat.le_refl _ | (simp <;> omega))) | (with_reducible refine Below.allocW ?_ _) | (with_reducible refine Below.drew ?_) | (with_reducible refine Below.extW ?_ _)))⟩
  · rw [if_neg hN]
    rw [if_neg hN] at HW
    clear hN
    have N0 := Lib.hid (bothAt.new w 0 0)
    go_enter Tryz.func48, Tryz.ntmps48
    go_wp2_with fail
    refine (HW.out _ HD.out).mono ?_
    rintro e w1 ⟨rfl, hb1⟩
    have B1 : Below w.heap.size w w1 := Below.then_ (by repeat (first | with_reducible exact Below.refl _ _ | with_reducible assumption | ((with_reducible refine Below.setCell ?_ ?_ _); rotate_left; · (first | omega | exact Nat.le_refl _ | (simp <;> omega))) | (with_reducible refine Below.allocW ?_ _) | (with_reducible refine Below.drew ?_) | (with_reducible refine Below.extW ?_ _))) hb1
    have s1 : w.heap.size ≤ w1.heap.size := B1.size
    have z1_0 : w.heap.size < w1.heap.size := by have := hb1.size; (try simp at this); omega
    have y1_0 : w.heap.size ≤ w1.heap.size := Nat.le_of_lt z1_0
    have c1_0 := fun o => hb1.cell (p := ⟨w.heap.size, o, none⟩) (by first | omega | (simp <;> omega))
    have f1_0 := fun o => hb1.frozen (p := ⟨w.heap.size, o, none⟩) (by first | omega | (simp <;> omega))
    have n0 := Lib.hid ((N0.out.below hb1).alloc (.cells #[.int .i64 0, .int .i64 0] 57))
    have n1 := Lib.hid (bothAt.new w1 0 0)
    have HD1 := Lib.hid ((HD.out.below hb1).alloc (.cells #[.int .i64 0, .int .i64 0] 57))
    have BA : Hid (Below w.heap.size w (w1.alloc (.cells #[.int .i64 0, .int .i64 0] 57))) := Lib.hid (by repeat (first | with_reducible exact Below.refl _ _ | with_reducible assumption | ((with_reducible refine Below.setCell ?_ ?_ _); rotate_left; · (first | omega | exact Nat.le_refl _ | (simp <;> omega))) | (with_reducible refine Below.allocW ?_ _) | (with_reducible refine Below.drew ?_) | (with_reducible refine Below.extW ?_ _)))
    go_wp2_with fail
    refine (bound_each _ g K l k r F HD1.out hn 123 #[.pointer (some ⟨w1.heap.size, 0, none⟩)] enters_Greatest (BoundI w w.heap.size w1.heap.size (fun q => mostOf l (r.take q))) (boundI_stays _ _ _ _) ⟨BA.out, n0.out, n1.out⟩ ?_).mono ?_
    · intro q hq W ⟨i1, i2, i3⟩
      refine (bound_Greatest1 W _ _ _ _ _ _ i3).mono ?_
      rintro e W' ⟨rfl, rfl⟩
      refine ⟨rfl, ⟨Below.set_at (Below.set_at i1 (by omega)) (by omega), (i2.set (by omega) _).set (by omega) _, ?_⟩, keepN_t (KeepN.set i3 _) (KeepN.set (i3.set0 _) _)⟩
      simp only
      rw [mostOf_succ hq]
      exact (i3.set0 _).set1 _
    · rintro e w2 ⟨rfl, ⟨i1, i2, i3⟩, hs2⟩
      simp only [List.take_length] at i3
      have cc := blk_cell i3
      have cf := blk_frozen i2
      have c0 := blk_cell i2
      have z0 := lt_of_block i2
      have z1 := lt_of_block i3
      clear i2 i3
      go_wp2_with fail
      exact bodyPost_ret (v := .tuple #[.agg #[.int .i64 (mostOf l r).1, .int .i64 (mostOf l r).2], .int .i64 0]) (by simp only [results, Tryz.results48]; go_simp) rfl ⟨rfl, (by repeat (first | with_reducible exact Below.refl _ _ | with_reducible assumption | ((with_reducible refine Below.setCell ?_ ?_ _); rotate_left; · (first | omega | exact Nat.le_refl _ | (simp <;> omega))) | (with_reducible refine Below.allocW ?_ _) | (with_reducible refine Below.drew ?_) | (with_reducible refine Below.extW ?_ _)))⟩
end Go.Proofs.YtcjnchjmpkapmaaGreat
/- The reference of layer 20 (bound): Ends. -/
namespace Go.Proofs.YtcjnchjmpkapmaaGreat
open Go.ChangeShapes Go.WideShapes Go.ChangeAt Go.RowKit
set_option linter.unusedVariables false
set_option maxRecDepth 100000

theorem lt_or_dec (a b : Int) : a < b ∨ decide (a < b) = false := by
  by_cases h : a < b
  · exact .inl h
  · exact .inr (decide_eq_false h)
structure E4 where
  a : Int
  b : Int
  c : Int
  d : Int
def e4Step (l : Int) (e : E4) (x : Nd) : E4 := ⟨if (endsOf l x.1).1 < e.a then (endsOf l x.1).1 else e.a, if (endsOf l x.1).2.1 < e.b then (endsOf l x.1).2.1 else e.b, if e.c < (endsOf l x.1).1 then (endsOf l x.1).1 else e.c, if e.d < (endsOf l x.1).2.1 then (endsOf l x.1).2.1 else e.d⟩
def e4Of (l : Int) (r : List Nd) : E4 := r.foldl (e4Step l) ⟨281474976710656, 281474976710656, -1, -1⟩
theorem e4Of_succ {l : Int} {r : List Nd} {q : Nat} (h : q < r.length) : e4Of l (r.take (q + 1)) = e4Step l (e4Of l (r.take q)) r[q] := by
  unfold e4Of
  rw [List.take_succ_eq_append_getElem h, List.foldl_append]; rfl
theorem blk_set {w : World} {b q o : Nat} {u : Value} {ob : Obj} (h : w.heap[b]? = some ob) (hne : b ≠ q) : (w.setCell ⟨q, o, none⟩ u).heap[b]? = some ob := (Below.heap_setCell _ _ _ _ hne).trans h

end Go.Proofs.YtcjnchjmpkapmaaGreat
/- Package bins: Of. -/
namespace Go.Proofs.YtcjnchjmpkapmaaGreat
open Go.ChangeShapes Go.WideShapes Go.ChangeAt Go.RowKit
set_option linter.unusedVariables false
set_option maxRecDepth 100000
attribute [local go_sem] Oper.semAt_some

def ofBins (l : Nat) (r : List Nd) (es : List Int) : List Int := if binErr l es = 0 then binsL l r es else []
def BinsPost (l : Nat) (r : List Nd) (es : List Int) (w : World) (e : Ending) (w' : World) : Prop := ∃ v, e = .returned (.tuple #[v, .int .i64 (binErr l es)]) ∧ Own w' w.heap.size 3 encZ v (ofBins l r es) ∧ Below w.heap.size w w'
theorem bins_Of_nil (w : World) (v : Value) : Calls Tryz.prog 40 #[.pointer none, v] w fun e w' => e = .returned (.tuple #[.slice none 0 0, .int .i64 1]) ∧ Below w.heap.size w w' := by
  refine (callsIn_wide (n := 3)).1 ?_
  refine callsIn_of_wp_marks Tryz.func40 rfl trivial ?_ rfl
  simp only [Tryz.ntmps40, List.size_toArray, List.length_cons, List.length_nil, Nat.reduceAdd, Nat.reduceSub, Array.replicate_succ, Array.replicate_zero, List.push_toArray, List.append_toArray, List.nil_append, List.cons_append]
  gi_wp2_with fail
  refine ⟨trivial, ?_⟩
  refine (callsIn_wide.2 (bins_wrong_nil _ v)).mono ?_
  rintro e w1 ⟨rfl, hb1⟩
  gi_wp2_with fail
  exact ⟨.tuple #[.slice none 0 0, .int .i64 1], by simp [results, Tryz.f40, go_sem], rfl, hb1⟩
theorem rightE_all {l : Nat} (es : List Int) : ∀ p, rightE l p es = true → ∀ x ∈ es, 0 ≤ x ∧ x < 2 ^ l := by
  induction es with
  | nil => intro p _ x hx; simp at hx
  | cons y es ih =>
    intro p h x hx
    simp only [rightE, Bool.and_eq_true, decide_eq_true_eq] at h
    rcases List.mem_cons.1 hx with rfl | hx
    · exact h.1.1
    · exact ih y h.2 x hx
structure OfI (w : World) (l : Nat) (r : List Nd) (L B g bt bo ba z : Nat) (lt ft : List Nd) (pre : List (Int × Int)) (W : World) : Prop where
  t : W.heap[bt]? = some (.cells #[.pointer (some ⟨g, 0, none⟩)] 52 (0, 0))
  o : ∃ v, W.heap[bo]? = some (.cells #[v] 49 (0, 0)) ∧ Own W z 3 encZ v (binFold l r pre).1
  a : W.heap[ba]? = some (.cells #[.int .i64 (binFold l r pre).2] 3 (0, 0))
  tab : TabAt W L B g (sumR r) lt ft
  sz : z ≤ W.heap.size
theorem tab_grown {A B : World} {L B0 g : Nat} {n : Int} {lt ft : List Nd} {row : Option Nat} (h : TabAt A L B0 g n lt ft) (hg : A.grownBy B row) (hr : ∀ r, row = some r → ∃ o : Obj, A.heap[r]? = some o ∧ o.isCells = false) : TabAt B L B0 g n lt ft := by
  obtain ⟨h0, h0', A1, c1, A2, c2, A3, c3, A4, c4, h1, ⟨h2, h3, h4, h5⟩, h6⟩ := h
  exact ⟨h0, h0', A1, c1, A2, c2, A3, c3, A4, c4, row_grown h1 hg hr, ⟨own_grown h2 hg hr, own_grown h3 hg hr, own_grown h4 hg hr, own_grown h5 hg hr⟩, h6⟩
theorem binFold_range2 (l : Int) (r : List Nd) (hr : Roll r) (ps : List (Int × Int)) : 0 ≤ (binFold l r ps).2 ∧ (binFold l r ps).2 ≤ sumR r := by
  have h0 := sumR_nonneg hr
  rcases List.eq_nil_or_concat ps with rfl | ⟨qs, p, rfl⟩
  · simp only [binFold, List.foldl_nil]; omega
  · rw [List.concat_eq_append, binFold_snoc]
    exact weighR_le hr
set_option maxHeartbeats 1000000 in
theorem bins_Of (w : World) (g K l : Nat) (k : Int) (r : List Nd) (F : Nat → Prop) (A : Option Addr) (cap : Nat) (es : List Int) (h : DigAt w g K l k r F) (hn : r.length ≤ 67108864) (hS : Sl w w.heap.size encZ A es) (hm : es.length ≤ 67108864) (hr : rightOf l r = true) :
    Calls Tryz.prog 40 #[.pointer (some ⟨g, 0, none⟩), .slice A es.length cap] w (BinsPost l r es w) := by
  have hl := h.l_le
  have hfit := h.fits
  have HD := Lib.hid h
  have HS := Lib.hid hS
  have HW := Lib.hid (bins_wrong · g K l k r F A cap es · · hm)
  clear h hS
  refine (callsIn_wide (n := 3)).1 ?_
  refine callsIn_of_wp_marks Tryz.func40 rfl trivial ?_ rfl
  simp only [Tryz.ntmps40, List.size_toArray, List.length_cons, List.length_nil, Nat.reduceAdd, Nat.reduceSub, Array.replicate_succ, Array.replicate_zero, List.push_toArray, List.append_toArray, List.nil_append, List.cons_append]
  gi_wp2_with fail
  refine ⟨trivial, ?_⟩
  refine (callsIn_wide.2 (HW.out _ HD.out HS.out)).mono ?_
  rintro e w1 ⟨rfl, hb1⟩
  have B1 : Below w.heap.size w w1 := Below.then_ (by repeat (first | with_reducible exact Below.refl _ _ | with_reducible assumption | ((with_reducible refine Below.setCell ?_ ?_ _); rotate_left; · (first | omega | exact Nat.le_refl _ | (simp <;> omega))) | (with_reducible refine Below.allocW ?_ _) | (with_reducible refine Below.drew ?_) | (with_reducible refine Below.extW ?_ _))) hb1
  have s1 : w.heap.size ≤ w1.heap.size := B1.size
  by_cases hE : binErr l es = 0
  · have HE := Lib.hid hE
    rw [hE]
    have hre : rightE l (-1) es = true := by unfold binErr at hE; split at hE <;> simp_all
    have hall := rightE_all es _ hre
    have p48 := pow_48 hl.2
    have D1 := Lib.hid (HD.out.below hb1)
    have S1 := Lib.hid (HS.out.keep s1 fun p hp => B1.cell hp)
    clear hE hre
    gi_wp2_with fail
    refine ⟨trivial, ?_⟩
    refine (callsIn_wide.2 (rank_Of _ g K l k r F D1.out hn)).mono ?_
    rintro e w2 ⟨tg, lt, ft, rfl, htab, htl, htf, hl1, hl2, hb2⟩
    have B2 : Below w.heap.size w w2 := Below.then_ (by repeat (first | with_reducible exact Below.refl _ _ | with_reducible assumption | ((with_reducible refine Below.setCell ?_ ?_ _); rotate_left; · (first | omega | exact Nat.le_refl _ | (simp <;> omega))) | (with_reducible refine Below.allocW ?_ _) | (with_reducible refine Below.drew ?_) | (with_reducible refine Below.extW ?_ _))) hb2
    have s2 : w.heap.size ≤ w2.heap.size := B2.size
    have D2 := Lib.hid ((((D1.out.below hb2).alloc (.cells #[.pointer (some ⟨tg, 0, none⟩)] 52)).alloc (.cells #[.slice none 0 0] 49)).alloc (.cells #[.int .i64 0] 3))
    gi_wp2_with fail
    refine ⟨trivial, ?_⟩
    refine (callsIn_wide.2 (digest_Conf _ g K l k r F D2.out)).mono ?_
    rintro e w3 ⟨rfl, hb3⟩
    have B3 : Below w.heap.size w w3 := Below.then_ (by repeat (first | with_reducible exact Below.refl _ _ | with_reducible assumption | ((with_reducible refine Below.setCell ?_ ?_ _); rotate_left; · (first | omega | exact Nat.le_refl _ | (simp <;> omega))) | (with_reducible refine Below.allocW ?_ _) | (with_reducible refine Below.drew ?_) | (with_reducible refine Below.extW ?_ _))) hb3
    have s3 : w.heap.size ≤ w3.heap.size := B3.size
    have z3_0 : w2.heap.size < w3.heap.size := by have := hb3.size; (try simp at this); omega
    have y3_0 : w2.heap.size ≤ w3.heap.size := Nat.le_of_lt z3_0
    have c3_0 := fun o => hb3.cell (p := ⟨w2.heap.size, o, none⟩) (by first | omega | (simp <;> omega))
    have f3_0 := fun o => hb3.frozen (p := ⟨w2.heap.size, o, none⟩) (by first | omega | (simp <;> omega))
    have z3_1 : w2.heap.size + 1 < w3.heap.size := by have := hb3.size; (try simp at this); omega
    have y3_1 : w2.heap.size + 1 ≤ w3.heap.size := Nat.le_of_lt z3_1
    have c3_1 := fun o => hb3.cell (p := ⟨w2.heap.size + 1, o, none⟩) (by first | omega | (simp <;> omega))
    have f3_1 := fun o => hb3.frozen (p := ⟨w2.heap.size + 1, o, none⟩) (by first | omega | (simp <;> omega))
    have z3_2 : w2.heap.size + 1 + 1 < w3.heap.size := by have := hb3.size; (try simp at this); omega
    have y3_2 : w2.heap.size + 1 + 1 ≤ w3.heap.size := Nat.le_of_lt z3_2
    have c3_2 := fun o => hb3.cell (p := ⟨w2.heap.size + 1 + 1, o, none⟩) (by first | omega | (simp <;> omega))
    have f3_2 := fun o => hb3.frozen (p := ⟨w2.heap.size + 1 + 1, o, none⟩) (by first | omega | (simp <;> omega))
    gi_wp2_with fail
    refine ⟨trivial, ?_⟩
    refine (callsIn_wide.2 (bins_runs _ l A es.length cap)).mono ?_
    rintro e w4 ⟨rfl, rfl⟩
    gi_wp2_with fail
    have T2 := Lib.hid htab
    have zz : w2.heap.size + 1 + 1 < w3.heap.size := z3_2
    have hne1 : w2.heap.size + 1 ≠ w2.heap.size + 1 + 1 := by omega
    have kt := blk_below (show (((w2.alloc (.cells #[.pointer (some ⟨tg, 0, none⟩)] 52)).alloc (.cells #[.slice none 0 0] 49)).alloc (.cells #[.int .i64 0] 3)).heap[w2.heap.size]? = _ from (Below.heap_alloc _ _ _ (by simp; omega)).trans ((Below.heap_alloc _ _ _ (by simp)).trans (heap_alloc_new w2 _))) hb3
    have ko := blk_below (show (((w2.alloc (.cells #[.pointer (some ⟨tg, 0, none⟩)] 52)).alloc (.cells #[.slice none 0 0] 49)).alloc (.cells #[.int .i64 0] 3)).heap[w2.heap.size + 1]? = _ from (Below.heap_alloc _ _ _ (by simp)).trans (heap_new_at (w2.alloc (.cells #[.pointer (some ⟨tg, 0, none⟩)] 52)) (.cells #[.slice none 0 0] 49) _ (by simp))) hb3
    have ka := blk_below (heap_new_at ((w2.alloc (.cells #[.pointer (some ⟨tg, 0, none⟩)] 52)).alloc (.cells #[.slice none 0 0] 49)) (.cells #[.int .i64 0] 3) (w2.heap.size + 1 + 1) (by simp)) hb3
    have T3 := (T2.out.below (((((Below.refl w2.heap.size w2).alloc (Nat.le_refl _) (.cells #[.pointer (some ⟨tg, 0, none⟩)] 52)).alloc (by simp) (.cells #[.slice none 0 0] 49)).alloc (by simp; omega) (.cells #[.int .i64 0] 3)).trans (hb3.mono (by simp; omega))))
    have BA : Below w3.heap.size w3 ((w3.alloc (.cells #[.int .i64 l] 3)).alloc (.cells #[.slice A es.length cap] 49)) := ((Below.refl _ _).alloc (Nat.le_refl _) _).alloc (by simp) _
    have kt0 := Lib.hid (blk_below kt BA)
    have ko0 := Lib.hid (blk_below ko BA)
    have ka0 := Lib.hid (blk_below ka BA)
    have T0 := Lib.hid (T3.below (BA.mono (show w2.heap.size ≤ w3.heap.size by omega)))
    have kbl := Lib.hid (show ((w3.alloc (.cells #[.int .i64 l] 3)).alloc (.cells #[.slice A es.length cap] 49)).heap[w3.heap.size]? = some (.cells #[.int .i64 l] 3 (0, 0)) from (Below.heap_alloc _ _ _ (by simp)).trans (heap_alloc_new w3 _))
    have kbe := Lib.hid (heap_new_at (w3.alloc (.cells #[.int .i64 l] 3)) (.cells #[.slice A es.length cap] 49) (w3.heap.size + 1) (by simp))
    have hB0 : Below w.heap.size w ((w3.alloc (.cells #[.int .i64 l] 3)).alloc (.cells #[.slice A es.length cap] 49)) := B3.trans (BA.mono s3)
    have SX := Lib.hid (SlX.of (z := w3.heap.size + 2) (X := fun b => b = w2.heap.size + 1 ∨ b = w2.heap.size + 1 + 1) (HS.out.keep (Nat.le_refl _) fun p hp => hB0.cell hp) (by omega) (fun b hb => by rintro (rfl | rfl) <;> omega))
    have zW0 : ((w3.alloc (.cells #[.int .i64 l] 3)).alloc (.cells #[.slice A es.length cap] 49)).heap.size = w3.heap.size + 2 := by simp
    generalize (w3.alloc (.cells #[.int .i64 l] 3)).alloc (.cells #[.slice A es.length cap] 49) = W0 at kt0 ko0 ka0 T0 kbl kbe hB0 SX zW0 ⊢
    have HTL := Lib.hid (fun x W (hT : TabAt W w1.heap.size w2.heap.size tg (sumR r) lt ft) => table_Low x hT (by omega) htl.rise)
    have e : ∀ x, upT lt x = lowOf l r x := fun x => by rw [htl.upT, low_up]
    simp only [e] at HTL
    clear kt ko ka T3 BA T2 htab htl htf hl1 hl2 e hb1 hb2 hb3 D1 D2 S1 HD HS HW B1 B2 B3 z3_0 y3_0 c3_0 f3_0 z3_1 y3_1 c3_1 f3_1 z3_2 y3_2 c3_2 f3_2
    have hKB := Lib.hid (fun (W : World) (q : Nat) (o o' : Obj) (h : W.heap[q]? = some o) (hc : o.isCells = false) => keepX_b (z := w3.heap.size + 2) (X := fun b => b = w2.heap.size + 1 ∨ b = w2.heap.size + 1 + 1) W q o o' h hc)
    refine wpIn_rangeFunc_ownG rfl (by decide) (gf := 215) (lb := #[.pointer (some ⟨w3.heap.size + 1, 0, none⟩), .pointer (some ⟨w3.heap.size, 0, none⟩)]) rfl trivial (enters_of Tryz.func215 (by kernel_rfl) rfl)
      (runs_stops (3 - 1) (w3.heap.size + 1) w3.heap.size (w3.heap.size + 2) (fun b => b = w2.heap.size + 1 ∨ b = w2.heap.size + 1 + 1) l A cap es W0 (by decide) hl (by omega) kbe.out kbl.out SX.out (by omega) (fun h => by rcases h with h | h <;> omega) (by omega) (fun h => by rcases h with h | h <;> omega) (fun x hx => by have := hall x hx; omega) (fun x hx => (hall x hx).1) hm)
      keepX_t (fun W q o o' _ h hc _ => hKB.out W q o o' h hc) (Below.refl _ _) (fun _ => rfl)
      (fun pre W => OfI w l r w1.heap.size w2.heap.size tg w2.heap.size (w2.heap.size + 1) (w2.heap.size + 1 + 1) (w3.heap.size + 2) lt ft pre W ∧ Below w.heap.size w W)
      (fun _ _ _ => False)
      (OwnFrom.and (Go.Own.from (fun s A B row hs hg hr => ⟨row_grown hs.t hg hr, by obtain ⟨v, h1, h2⟩ := hs.o; exact ⟨v, row_grown h1 hg hr, own_grown h2 hg hr⟩, row_grown hs.a hg hr, tab_grown hs.tab hg hr, Nat.le_trans hs.sz hg.size⟩) _) (ownFrom_below (Nat.le_refl _) (by omega)))
      (fun c => fun _ _ _ _ hs _ _ => hs)
      ⟨⟨kt0.out, ⟨_, ko0.out, Own.nil _ _ _ _⟩, ka0.out, T0.out, by omega⟩, hB0⟩
      (fun x => { tmps := #[.pointer (some ⟨g, 0, none⟩), .slice A es.length cap, undef, undef, .slice none 0 0, .int .i64 0, .int .i64 0, .pointer (some ⟨w2.heap.size, 0, none⟩), .pointer (some ⟨w2.heap.size + 1, 0, none⟩), .pointer (some ⟨w2.heap.size + 1 + 1, 0, none⟩), undef, .int .i64 x.2, undef,
        .pointer (some ⟨g, 0, none⟩), .slice A es.length cap, .int .i64 0, .int .i64 0, .bool false, undef, .pointer (some ⟨g, 0, none⟩), .pointer (some ⟨tg, 0, none⟩), .pointer (some ⟨g, 0, none⟩), .agg #[.int .i64 l, .int .i64 k, .int .i64 K], .int .i64 l, .slice A es.length cap,
        .func (.func 215) #[] #[.pointer (some ⟨w3.heap.size + 1, 0, none⟩), .pointer (some ⟨w3.heap.size, 0, none⟩)], .int .i64 x.1, .int .i64 x.2, undef, undef, undef, undef, undef, undef, undef, undef, undef, undef, undef], defers := [] }) ?assign ?body ?done ?stop
    case assign =>
      intro q x W Kc hK
      gi_wp2
      exact hK
    case body =>
      rintro q pre x W ⟨⟨ht, ⟨v, ho, hown⟩, ha, htb, hsz⟩, hB⟩ hlen
      have KT := Lib.hid ht
      have KO := Lib.hid ho
      have KA := Lib.hid ha
      have KTb := Lib.hid htb
      have KW := Lib.hid hown
      have HB := Lib.hid hB
      have ct := blk_cell ht
      have zt := lt_of_block ht
      have zo := lt_of_block ho
      have za := lt_of_block ha
      have hW0 := (Own.lt hown)
      have b2 := binFold_range2 l r hfit.roll pre
      have b3 := weighR_le (l := l) (f := fun _ hi => decide (hi ≤ x.2)) hfit.roll
      have hs1 := hfit.sum
      have hlenL := binFold_len l r pre
      rw [runsL_len] at hlen
      have HSn := Lib.hid (binFold_snoc l r pre x)
      have HX := Lib.hid (HTL.out x.2)
      unfold lowOf at HX
      unfold binStep lowOf at HSn
      generalize weighR l (fun _ hi => decide (hi ≤ x.2)) r = n at b3 HX HSn
      generalize binFold l r pre = p at KO KA KW HSn hlenL b2 ho ha hown
      obtain ⟨L, a⟩ := p
      simp only at KO KA KW HSn hlenL b2 ho ha hown
      have ca := blk_cell ha
      have fo := blk_frozen ho
      have fa := blk_frozen ha
      clear ht ho ha htb hown hB
      gi_wp2_with fail
      refine ⟨trivial, ?_⟩
      refine (CallsIn.inRound q (callsIn_wide.2 (HX.out _ KTb.out))).mono ?_
      rintro e w5 ⟨rfl, hb5⟩
      have s5 := hb5.size
      have ko5 := blk_below KO.out hb5
      have ka5 := blk_below KA.out hb5
      have co5 := blk_cell ko5
      have ca5 := blk_cell ka5
      have fo5 := blk_frozen ko5
      have fa5 := blk_frozen ka5
      have O5 := Lib.hid (KW.out.below hb5)
      have T5 := Lib.hid (blk_below KT.out hb5)
      have zt5 : w2.heap.size + 1 < w5.heap.size := lt_of_block ko5
      have KO5 := Lib.hid ko5
      have KA5 := Lib.hid ka5
      have KB5 := Lib.hid (KTb.out.keep fun b _ hb => hb5.block b (by have := KTb.out.2.1; omega))
      have zz5 : w3.heap.size + 2 ≤ w5.heap.size := by omega
      clear ct ca fo fa ko5 ka5
      gi_wp2_with ((gi_at_builtin; refine wpListIn_push tyZ rfl _ _ rfl encZ w5 (w3.heap.size + 2) v L rfl O5.out (n - a) (by go_simp) rfl ?c1 ?c2 ?c3 ?c4))
      case c1 => omega
      case c2 => simp only [maxLen]; omega
      case c3 => exact zz5
      case c4 =>
        intro v6 w6 hown6 hgrow6 _ hlies6 hb6 _
        obtain ⟨A6, c6, rfl, _⟩ := hown6.form
        have hrow : ∀ b, b < w3.heap.size + 2 → some b ≠ v.ownBlock := fun b hb h => by have := O5.out.lt b h.symm; omega
        have s6 := hgrow6.size
        have ko6 := (hgrow6.block (w2.heap.size + 1) zt5 (hrow _ (by omega))).trans KO5.out
        have ka6 := (hgrow6.block (w2.heap.size + 1 + 1) (lt_of_block KA5.out) (hrow _ (by omega))).trans KA5.out
        have kt6 := (hgrow6.block w2.heap.size (by omega) (hrow _ (by omega))).trans T5.out
        have KB6 := Lib.hid (KB5.out.keep fun b _ hb => hgrow6.block b (by have := KB5.out.2.1; omega) (hrow _ (by omega)))
        have KK : Hid (KeepX (w3.heap.size + 2) (fun b => b = w2.heap.size + 1 ∨ b = w2.heap.size + 1 + 1) W w6) := Lib.hid ((KeepX.of_below hb5).grown hgrow6 (fun b h => (O5.out.lt b h).1))
        have KF : Hid (KeepsFrom W0.heap.size W w6) := Lib.hid (((KeepsOthers.of_grownBy (grownBy_of_below hb5 none) (fun _ _ h => by cases h)).trans (KeepsOthers.of_grownBy hgrow6 (fun j o h ho => by
          rcases O5.out with ⟨rfl, _⟩ | ⟨g1, o1, c1, u1, rfl, _, hh1, _⟩
          · cases h
          · have : g1 = j := by simpa [Value.ownBlock] using h
            subst this
            rw [hh1] at ho; cases ho; rfl))).from _)
        have BB : Hid (Below w.heap.size w w6) := Lib.hid ((HB.out.trans (hb5.mono HB.out.size)).trans (hb6.mono (by omega)))
        have co6 := blk_cell ko6
        have fo6 := blk_frozen ko6
        have ca6 := blk_cell ka6
        have fa6 := blk_frozen ka6
        have O6 := Lib.hid (show Own w6 (w3.heap.size + 2) 3 encZ (.slice A6 (pre.length + 1) c6) (L ++ [n - a]) by simpa [hlenL] using hown6)
        have KO6 := Lib.hid ko6
        have KA6 := Lib.hid ka6
        have KT6 := Lib.hid kt6
        have zo6 : w2.heap.size + 1 < w6.heap.size := lt_of_block ko6
        have za6 : w2.heap.size + 1 + 1 < w6.heap.size := lt_of_block ka6
        have hne2 : w2.heap.size + 1 + 1 ≠ w2.heap.size + 1 := by omega
        clear hown6 hgrow6 hlies6 hb6 ko6 ka6 kt6 co5 ca5 fo5 fa5 hb5
        gi_wp2_with fail
        refine ⟨(KF.out.trans ((KeepsOthers.setCell _ _ _).from _)).trans ((KeepsOthers.setCell _ _ _).from _), (KK.out.set (.inl (.inl rfl)) _).set (.inl (.inr rfl)) _, ⟨?_, ⟨.slice A6 (pre.length + 1) c6, ?_, ?_⟩, ?_, ?_, ?_⟩, (BB.out.setCell (p := ⟨w2.heap.size + 1, 0, none⟩) (by simp only; omega) _).setCell (p := ⟨w2.heap.size + 1 + 1, 0, none⟩) (by simp only; omega) _⟩
        · exact blk_set (blk_set KT6.out (by omega)) (by omega)
        · exact blk_set (heap_set_at (i := 0) KO6.out _) (by omega)
        · rw [HSn.out]
          exact (O6.out.setCell (p := ⟨w2.heap.size + 1, 0, none⟩) (fun h => by have := O6.out.lt _ h; simp only at this; omega) _).setCell (p := ⟨w2.heap.size + 1 + 1, 0, none⟩) (fun h => by have := O6.out.lt _ h; simp only at this; omega) _
        · rw [HSn.out]
          exact heap_set_at (i := 0) ((Below.heap_setCell _ _ _ _ hne2).trans KA6.out) _
        · exact KB6.out.keep fun b _ hb => (Below.heap_setCell _ _ _ _ (Nat.ne_of_lt (show b < w2.heap.size + 1 + 1 by omega))).trans (Below.heap_setCell _ _ _ _ (Nat.ne_of_lt (show b < w2.heap.size + 1 by omega)))
        · simp [World.setCell]; omega
    case done =>
      rintro D ys W hD hys ⟨⟨ht, ⟨v, ho, hown⟩, ha, htb, hsz⟩, hB⟩ hK
      have hys' : ys = runsL l es := hys
      rw [hys', binFold_runs hr] at hown
      have he2 : ofBins l r es = binsL l r es := by unfold ofBins; rw [if_pos HE.out]
      rw [← he2] at hown
      clear hys hys'
      have co := blk_cell ho
      have zo := lt_of_block ho
      gi_wp2
      refine ⟨by simp, .inl ⟨_, _, rfl, run_takeDeferred hK, ?_⟩⟩
      have hown2 := (own_grown hown (grownBy_putObj' W D (.deferred none)) (fun r e => by cases e; exact ⟨_, hK, rfl⟩)).base_le (b := w.heap.size) (by omega)
      exact ⟨.tuple #[v, .int .i64 0], by simp [results, Tryz.f40, go_sem], v, by rw [HE.out], hown2, hB.trans (belowK_b (w := w) (Nat.le_refl _) W D _ _ (by omega) hK rfl rfl)⟩
    case stop =>
      rintro D c pre W hD hpre h hK
      exact h.elim
  · have HE := Lib.hid (show (binErr l es == 0) = false by simpa using hE)
    have he2 : ofBins l r es = [] := by unfold ofBins; rw [if_neg hE]
    have hne := HE.out
    gi_wp2_with fail
    exact ⟨.tuple #[.slice none 0 0, .int .i64 (binErr l es)], by simp [results, Tryz.f40, go_sem], .slice none 0 0, rfl, by rw [he2]; exact Own.nil _ _ _ _, hb1⟩
end Go.Proofs.YtcjnchjmpkapmaaGreat
/- Reference 5: Same, of two lists that are the same. -/
namespace Go.Proofs.YtcjnchjmpkapmaaGreat
open Go.ChangeShapes Go.WideShapes Go.ChangeAt Go.RowKit
set_option linter.unusedVariables false
set_option maxRecDepth 100000

theorem ref5_Same (w : World) (A1 A2 : Option Addr) (c1 c2 : Nat) (l : List Int) (h1 : Sl w w.heap.size encZ A1 l) (h2 : Sl w w.heap.size encZ A2 l) (hm : l.length ≤ 67108864) :
    Calls Tryz.prog 28 #[.slice A1 l.length c1, .slice A2 l.length c2] w fun e w' => e = .returned (.bool true) ∧ Below w.heap.size w w' := by
  have H1 := Lib.hid h1
  have H2 := Lib.hid h2
  clear h1 h2
  go_enter Tryz.func28, Tryz.ntmps28
  go_wp2_with fail
  go_loopw [5] (fun i wr => ∃ q : Nat, q ≤ l.length ∧ i = .int .i64 q ∧ Below w.heap.size w wr) (fun i _ => l.length - (intOf i).toNat)
  case atStart => exact ⟨0, Nat.zero_le _, rfl, Below.refl _ _⟩
  case round =>
    obtain ⟨q, hq, rfl, hB⟩ := hrel
    have hsz := hB.size
    by_cases hlt : q < l.length
    · obtain ⟨b1, o1, rfl, hb1, hc1⟩ := H1.out.at_ hlt
      obtain ⟨b2, o2, rfl, hb2, hc2⟩ := H2.out.at_ hlt
      have d1 := hc1 0 (.int .i64 l[q]) rfl
      have d2 := hc2 0 (.int .i64 l[q]) rfl
      simp only [Nat.mul_one, Nat.add_zero] at d1 d2
      have e1 := (hB.cell (p := ⟨b1, o1 + q, none⟩) hb1).trans d1
      have e2 := (hB.cell (p := ⟨b2, o2 + q, none⟩) hb2).trans d2
      have lb1 : b1 < wr.heap.size := Nat.lt_of_lt_of_le hb1 hsz
      have lb2 : b2 < wr.heap.size := Nat.lt_of_lt_of_le hb2 hsz
      clear hc1 hc2 d1 d2
      go_wp2_with fail
      refine wp_region_ext (by kernel_rfl) (by kernel_rfl) ?_
      repeat (go_big_quiet_step (fail))
      refine wpQuiet_nil ?_
      intro w1 hb1
      replace hb1 := below_of_ext hb1
      have B1 : Below w.heap.size w w1 := Below.then_ (by repeat (first | with_reducible exact Below.refl _ _ | with_reducible assumption | ((with_reducible refine Below.setCell ?_ ?_ _); rotate_left; · (first | omega | exact Nat.le_refl _ | (simp <;> omega))) | (with_reducible refine Below.allocW ?_ _) | (with_reducible refine Below.drew ?_) | (with_reducible refine Below.extW ?_ _))) hb1
      have s1 : w.heap.size ≤ w1.heap.size := B1.size
      go_wp2_with fail
      go_roundw
      case rel => exact ⟨q + 1, by omega, by go_num, (by repeat (first | with_reducible exact Below.refl _ _ | with_reducible assumption | ((with_reducible refine Below.setCell ?_ ?_ _); rotate_left; · (first | omega | exact Nat.le_refl _ | (simp <;> omega))) | (with_reducible refine Below.allocW ?_ _) | (with_reducible refine Below.drew ?_) | (with_reducible refine Below.extW ?_ _)))⟩
      case measure => simp [intOf]; omega
    · obtain rfl : q = l.length := by omega
      go_wp2_with fail
      go_ret
      exact ⟨rfl, hB⟩
end Go.Proofs.YtcjnchjmpkapmaaGreat
/- Package bins, and the reference of layer 19: Heaviest, Bars. -/
namespace Go.Proofs.YtcjnchjmpkapmaaGreat
open Go.ChangeShapes Go.WideShapes Go.ChangeAt Go.RowKit
set_option linter.unusedVariables false
set_option maxRecDepth 100000

def heavAt (l : List Int) : Nat → Nat
  | 0 => 0
  | q + 1 => if l.getD (heavAt l q) 0 < l.getD q 0 then q else heavAt l q
theorem heavAt_lt (l : List Int) (q : Nat) : heavAt l q < max q 1 := by
  induction q with
  | zero => simp [heavAt]
  | succ q ih => simp only [heavAt]; split <;> omega
theorem heavAt_le (l : List Int) (q i : Nat) (hi : i < q) : l.getD i 0 ≤ l.getD (heavAt l q) 0 := by
  induction q with
  | zero => omega
  | succ q ih =>
    simp only [heavAt]
    rcases Nat.lt_or_eq_of_le (Nat.le_of_lt_succ hi) with h | rfl
    · have := ih h
      split <;> omega
    · split <;> omega
theorem getDz_at {l : List Int} {i : Nat} (h : i < l.length) : l.getD i 0 = l[i] := by rw [List.getD_eq_getElem?_getD, List.getElem?_eq_getElem h]; rfl
def heavV (l : List Int) : Value := .tuple #[.int .i64 (heavAt l l.length), .bool (decide (0 < l.length))]
theorem bins_Heaviest (w : World) (A : Option Addr) (cap : Nat) (l : List Int) (hS : Sl w w.heap.size encZ A l) (hm : l.length ≤ 67108864) :
    Calls Tryz.prog 212 #[.slice A l.length cap] w fun e w' => e = .returned (heavV l) ∧ Below w.heap.size w w' := by
  have HS := Lib.hid hS
  clear hS
  unfold heavV
  go_enter Tryz.func212, Tryz.ntmps212
  go_wp2_with fail
  go_loopw [4, 9] (fun a i wr => ∃ q : Nat, q ≤ l.length ∧ i = .int .i64 q ∧ a = .int .i64 (heavAt l q) ∧ Below w.heap.size w wr) (fun _ i _ => l.length - (intOf i).toNat)
  case atStart => exact ⟨0, Nat.zero_le _, rfl, rfl, Below.refl _ _⟩
  case round =>
    obtain ⟨q, hq, rfl, rfl, hB⟩ := hrel
    have hsz := hB.size
    by_cases hlt : q < l.length
    · have hh := heavAt_lt l q
      have hE : heavAt l (q + 1) = if l.getD (heavAt l q) 0 < l.getD q 0 then q else heavAt l q := rfl
      obtain ⟨a, ha⟩ : ∃ a, a = heavAt l q := ⟨_, rfl⟩
      rw [← ha] at hh hE ⊢
      have hal : a < l.length := by omega
      rw [getDz_at hlt, getDz_at hal] at hE
      obtain ⟨b, off, rfl, hb, hc⟩ := HS.out.at_ hlt
      have d0 := (hB.cell (p := ⟨b, off + q, none⟩) hb).trans (by have := hc 0 (.int .i64 l[q]) rfl; simpa using this)
      have hs2 := HS.out
      rcases hs2 with h | ⟨b', off', hA, _, hc'⟩
      · subst h; simp at hlt
      cases hA
      have d1 := (hB.cell (p := ⟨b, off + a, none⟩) hb).trans (by have := hc' a _ (List.getElem?_eq_getElem hal) 0 (.int .i64 l[a]) rfl; simpa using this)
      obtain ⟨x, hx⟩ : ∃ x, x = l[q] := ⟨_, rfl⟩
      obtain ⟨y, hy⟩ : ∃ y, y = l[a] := ⟨_, rfl⟩
      rw [← hx] at d0 hE
      rw [← hy] at d1 hE
      have HE := Lib.hid hE
      have lb : b < wr.heap.size := Nat.lt_of_lt_of_le hb hsz
      clear hc hc' hx hy hE hh ha
      by_cases hxy : y < x
      · have HX := Lib.hid (show heavAt l (q + 1) = q by rw [HE.out, if_pos hxy])
        go_wp2_with fail
        go_roundw
        case rel => exact ⟨q + 1, by omega, by go_num, by rw [HX.out], hB⟩
        case measure => simp [intOf]; omega
      · have HX := Lib.hid (show heavAt l (q + 1) = a by rw [HE.out, if_neg hxy])
        have hn : decide (y < x) = false := by simpa using hxy
        go_wp2_with fail
        go_roundw
        case rel => exact ⟨q + 1, by omega, by go_num, by rw [HX.out], hB⟩
        case measure => simp [intOf]; omega
    · obtain rfl : q = l.length := by omega
      go_wp2_with fail
      go_ret2
      exact ⟨by simp, hB⟩
def barV (l : List Int) (width : Nat) (n : Int) : Int := (n.toNat * width / (max (l.getD (heavAt l l.length) 0) 1).toNat : Nat)
def barsOk (l : List Int) (width : Int) : Bool := decide (0 ≤ width) && l.all fun n => decide (0 ≤ n)
def barsL (l : List Int) (width : Int) : List Int := if barsOk l width = true then l.map (barV l width.toNat) else []
def BarsPost (l : List Int) (width : Int) (w : World) (e : Ending) (w' : World) : Prop := ∃ v, e = .returned (.tuple #[v, .bool (barsOk l width)]) ∧ Own w' w.heap.size 3 encZ v (barsL l width) ∧ Below w.heap.size w w'
theorem bars_no {l : List Int} {width : Int} (h : barsOk l width = false) (w : World) (base : Nat) : Own w base 3 encZ (.slice none 0 0) (barsL l width) := by
  unfold barsL; rw [if_neg (by simp [h])]; exact Own.nil _ _ _ _
theorem bars_neg {l : List Int} {width : Int} {q : Nat} (h : q < l.length) (hn : l[q] < 0) : barsOk l width = false := by
  unfold barsOk
  rw [Bool.and_eq_false_iff]; right
  rw [List.all_eq_false]
  exact ⟨l[q], List.getElem_mem h, by simp; omega⟩
set_option maxHeartbeats 1000000 in
theorem bins_Bars (w : World) (A : Option Addr) (cap : Nat) (l : List Int) (width : Int) (hS : Sl w w.heap.size encZ A l) (hm : l.length ≤ 67108864) (hi : ∀ x ∈ l, i64 x) (hw : i64 width) :
    Calls Tryz.prog 111 #[.slice A l.length cap, .int .i64 width] w (BarsPost l width w) := by
  have HS := Lib.hid hS
  have HI := Lib.hid hi
  have HH := Lib.hid (bins_Heaviest · A cap l · hm)
  unfold heavV at HH
  clear hS hi
  by_cases hw0 : width < 0
  · have HB := Lib.hid (show barsOk l width = false by unfold barsOk; simp; omega)
    go_enter Tryz.func111, Tryz.ntmps111
    go_wp2_with fail
    go_ret2
    exact ⟨_, by rw [HB.out]; rfl, bars_no HB.out _ _, (by repeat (first | with_reducible exact Below.refl _ _ | with_reducible assumption | ((with_reducible refine Below.setCell ?_ ?_ _); rotate_left; · (first | omega | exact Nat.le_refl _ | (simp <;> omega))) | (with_reducible refine Below.allocW ?_ _) | (with_reducible refine Below.drew ?_) | (with_reducible refine Below.extW ?_ _)))⟩
  · obtain ⟨wd, rfl⟩ := Int.eq_ofNat_of_zero_le (show 0 ≤ width by omega)
    have hn0 : decide ((wd : Int) < 0) = false := by simp
    have hwd : wd ≤ 9223372036854775807 := by have := hw.2; omega
    have hal := heavAt_lt l l.length
    have HLE := Lib.hid (heavAt_le l l.length)
    obtain ⟨a, ha⟩ : ∃ a, a = heavAt l l.length := ⟨_, rfl⟩
    have HA := Lib.hid ha
    rw [← ha] at HH HLE hal
    clear hw0 hw ha
    go_enter Tryz.func111, Tryz.ntmps111
    go_wp2_with fail
    refine (HH.out _ HS.out).mono ?_
    rintro e w1 ⟨rfl, hb1⟩
    have B1 : Below w.heap.size w w1 := Below.then_ (by repeat (first | with_reducible exact Below.refl _ _ | with_reducible assumption | ((with_reducible refine Below.setCell ?_ ?_ _); rotate_left; · (first | omega | exact Nat.le_refl _ | (simp <;> omega))) | (with_reducible refine Below.allocW ?_ _) | (with_reducible refine Below.drew ?_) | (with_reducible refine Below.extW ?_ _))) hb1
    have s1 : w.heap.size ≤ w1.heap.size := B1.size
    have HS1 := Lib.hid (HS.out.keep s1 fun p hp => B1.cell hp)
    go_wp2_with fail
    go_loopw [8, 22] (fun o i wr => ∃ q : Nat, q ≤ l.length ∧ i = .int .i64 q ∧ Own wr w.heap.size 3 encZ o ((l.take q).map (barV l wd)) ∧ (∀ x ∈ l.take q, 0 ≤ x) ∧ Below w.heap.size w wr) (fun _ i _ => l.length - (intOf i).toNat)
    case atStart => exact ⟨0, Nat.zero_le _, rfl, Own.nil _ _ _ _, by simp, B1⟩
    case round =>
      obtain ⟨q, hq, rfl, hown, hpos, hB⟩ := hrel
      have HO := Lib.hid hown
      have HP := Lib.hid hpos
      have hsz := hB.size
      clear hown hpos
      by_cases hlt : q < l.length
      · have hs2 := HS.out
        rcases hs2 with h | ⟨b, off, rfl, hb, hc⟩
        · subst h; simp at hlt
        have hal2 : a < l.length := by omega
        have d0 := (hB.cell (p := ⟨b, off + q, none⟩) hb).trans (by have := hc q _ (List.getElem?_eq_getElem hlt) 0 (.int .i64 l[q]) rfl; simpa using this)
        have d1 := (hB.cell (p := ⟨b, off + a, none⟩) hb).trans (by have := hc a _ (List.getElem?_eq_getElem hal2) 0 (.int .i64 l[a]) rfl; simpa using this)
        have lb : b < wr.heap.size := Nat.lt_of_lt_of_le hb hsz
        have hle := HLE.out q hlt
        rw [getDz_at hlt, getDz_at hal2] at hle
        have hxi := HI.out _ (List.getElem_mem hlt)
        have hyi := HI.out _ (List.getElem_mem hal2)
        have et : l.take (q + 1) = l.take q ++ [l[q]] := List.take_succ_eq_append_getElem hlt
        have HBN := Lib.hid (fun h : l[q] < 0 => bars_neg (width := wd) hlt h)
        have EB := Lib.hid (show barV l wd l[q] = ((l[q].toNat * wd / (max l[a] 1).toNat : Nat) : Int) by unfold barV; rw [← HA.out, getDz_at hal2])
        obtain ⟨x, hx⟩ : ∃ x, x = l[q] := ⟨_, rfl⟩
        obtain ⟨y, hy⟩ : ∃ y, y = l[a] := ⟨_, rfl⟩
        rw [← hx] at d0 hle hxi et HBN EB
        rw [← hy] at d1 hle hyi EB
        have ET := Lib.hid et
        clear hc hx hy et
        by_cases hx0 : x < 0
        · have HB := Lib.hid (HBN.out hx0)
          go_wp2_with fail
          go_ret2
          exact ⟨_, by rw [HB.out]; rfl, bars_no HB.out _ _, hB⟩
        · obtain ⟨n, rfl⟩ := Int.eq_ofNat_of_zero_le (show 0 ≤ x by omega)
          obtain ⟨m, hm'⟩ := Int.eq_ofNat_of_zero_le (show 0 ≤ max y 1 by omega)
          have hxn : decide ((n : Int) < 0) = false := by simp
          have HPt := Lib.hid (reckon_Part · n wd m hwd (by omega) (by have := hyi.2; omega) (by omega))
          have hpl := part_le (b := wd) (show n ≤ m by omega) (by omega)
          have EB2 := Lib.hid (show barV l wd n = ((n * wd / m : Nat) : Int) by rw [EB.out, hm']; rfl)
          generalize n * wd / m = p at HPt hpl EB2
          have HM := Lib.hid hm'
          clear hx0 EB hle hxi hyi
          rw [HM.out] at *
          go_wp2_with fail
          refine (HPt.out _).mono ?_
          rintro e w2 ⟨rfl, hb2⟩
          have B2 : Below w.heap.size w w2 := Below.then_ (by repeat (first | with_reducible exact Below.refl _ _ | with_reducible assumption | ((with_reducible refine Below.setCell ?_ ?_ _); rotate_left; · (first | omega | exact Nat.le_refl _ | (simp <;> omega))) | (with_reducible refine Below.allocW ?_ _) | (with_reducible refine Below.drew ?_) | (with_reducible refine Below.extW ?_ _))) hb2
          have s2 : w.heap.size ≤ w2.heap.size := B2.size
          have O2 := Lib.hid (HO.out.below hb2)
          have BW2 : Below w.heap.size w w2 := hB.trans (hb2.mono hsz)
          go_wp2_with ((at_builtin; refine wpList_push tyZ rfl _ _ rfl encZ w2 w.heap.size u8 _ rfl O2.out p (by go_simp) rfl ?c1 ?c2 ?c3 ?c4))
          case c1 => simp; omega
          case c2 => simp [maxLen]; omega
          case c3 => exact BW2.size
          case c4 =>
            intro v' w3 hown3 hgrow _ hlies hb3 _
            have e3 : (l.take q).map (barV l wd) ++ [(p : Int)] = (l.take (q + 1)).map (barV l wd) := by rw [ET.out, List.map_append, List.map_singleton, EB2.out]
            have HO3 := Lib.hid (show Own w3 w.heap.size 3 encZ v' ((l.take (q + 1)).map (barV l wd)) by rw [← e3]; simpa using hown3)
            have BW3 := Below.trans BW2 hb3
            clear hown3
            go_wp2_with fail
            go_roundw
            case rel => exact ⟨q + 1, by omega, by go_num, HO3.out, by
              intro z hz
              rw [ET.out] at hz
              rcases List.mem_append.1 hz with hz | hz
              · exact HP.out z hz
              · rw [List.mem_singleton.1 hz]; omega, BW3⟩
            case measure => simp [intOf]; omega
      · obtain rfl : q = l.length := by omega
        have HOk := Lib.hid (show barsOk l wd = true by
          unfold barsOk
          rw [Bool.and_eq_true]
          refine ⟨by simp, List.all_eq_true.2 fun x hx => ?_⟩
          have := HP.out x (by rw [List.take_length]; exact hx)
          simpa using this)
        have HL := Lib.hid (show barsL l wd = (l.take l.length).map (barV l wd) by unfold barsL; rw [if_pos HOk.out, List.take_length]; rfl)
        go_wp2_with fail
        go_ret2
        exact ⟨_, by rw [HOk.out]; rfl, by rw [HL.out]; exact HO.out, hB⟩
end Go.Proofs.YtcjnchjmpkapmaaGreat
/- Chapter 19's example. -/
namespace Go.Proofs.YtcjnchjmpkapmaaGreat
open Go.ChangeShapes Go.WideShapes Go.ChangeAt Go.RowKit
set_option linter.unusedVariables false
set_option maxRecDepth 100000

theorem right16_2 : rightOf ((2 : Nat) : Int) nodes16 = true := by decide +kernel
theorem of19 : ofBins 2 nodes16 [0, 2] = [2, 0, 4] := by decide +kernel
theorem err19 : binErr 2 [0, 2] = 0 := by decide +kernel
theorem bars19 : barsL [2, 0, 4] 10 = [5, 0, 10] := by decide +kernel
theorem barsok19 : barsOk [2, 0, 4] 10 = true := by decide +kernel
set_option maxHeartbeats 1000000 in
theorem alive19 (w : World) : Calls Tryz.prog 39 #[] w fun e w' => e = .returned (.bool true) ∧ Below w.heap.size w w' := by
  have HS := Lib.hid (sl_lit w encN nodes16 153 _ rfl)
  have HC := Lib.hid (digest_Load · 2 2 4 (some ⟨w.heap.size, 0, none⟩) 3 nodes16 load16 · nodes16_ints (by decide))
  go_enter Tryz.func39, Tryz.ntmps39
  go_wp2_with fail
  refine (HC.out _ (HS.out.keep (by simp) fun p hp => rfl)).mono ?_
  rintro e w1 ⟨g, F, rfl, hD, _, hb1⟩
  have B1 : Below w.heap.size w w1 := Below.then_ (by repeat (first | with_reducible exact Below.refl _ _ | with_reducible assumption | ((with_reducible refine Below.setCell ?_ ?_ _); rotate_left; · (first | omega | exact Nat.le_refl _ | (simp <;> omega))) | (with_reducible refine Below.allocW ?_ _) | (with_reducible refine Below.drew ?_) | (with_reducible refine Below.extW ?_ _))) hb1
  have s1 : w.heap.size ≤ w1.heap.size := B1.size
  have KD := Lib.hid (hD.alloc (.cells #[.int .i64 0, .int .i64 2] 3))
  have E1 := Lib.hid (sl_lit w1 encZ [0, 2] 3 _ rfl)
  clear hD
  go_wp2_with fail
  refine (bins_Of _ g 2 2 4 nodes16 F (some ⟨w1.heap.size, 0, none⟩) 2 [0, 2] KD.out (by decide) (E1.out.keep (by simp) fun p hp => rfl) (by decide) right16_2).mono ?_
  rintro e w2 ⟨v2, rfl, o2, hb2⟩
  rw [err19, of19] at *
  have B2 : Below w.heap.size w w2 := Below.then_ (by repeat (first | with_reducible exact Below.refl _ _ | with_reducible assumption | ((with_reducible refine Below.setCell ?_ ?_ _); rotate_left; · (first | omega | exact Nat.le_refl _ | (simp <;> omega))) | (with_reducible refine Below.allocW ?_ _) | (with_reducible refine Below.drew ?_) | (with_reducible refine Below.extW ?_ _))) hb2
  have s2 : w.heap.size ≤ w2.heap.size := B2.size
  obtain ⟨A2, c2, rfl, _⟩ := o2.form
  have O2 := Lib.hid o2
  clear o2
  go_wp2_with fail
  refine (bins_Bars _ A2 c2 [2, 0, 4] 10 O2.out.sl (by decide) (by intro x hx; simp only [List.mem_cons, List.not_mem_nil, or_false] at hx; rcases hx with rfl | rfl | rfl <;> (unfold i64; simp)) (by unfold i64; simp)).mono ?_
  rintro e w3 ⟨v3, rfl, o3, hb3⟩
  rw [bars19, barsok19] at *
  have B3 : Below w.heap.size w w3 := Below.then_ (by repeat (first | with_reducible exact Below.refl _ _ | with_reducible assumption | ((with_reducible refine Below.setCell ?_ ?_ _); rotate_left; · (first | omega | exact Nat.le_refl _ | (simp <;> omega))) | (with_reducible refine Below.allocW ?_ _) | (with_reducible refine Below.drew ?_) | (with_reducible refine Below.extW ?_ _))) hb3
  have s3 : w.heap.size ≤ w3.heap.size := B3.size
  obtain ⟨A3, c3, rfl, _⟩ := o3.form
  have O3 := Lib.hid o3
  have O23 := Lib.hid (O2.out.below hb3)
  clear o3
  go_wp2_with fail
  refine (ref5_Same _ A2 (some ⟨w3.heap.size, 0, none⟩) c2 3 [2, 0, 4] (O23.out.alloc _).sl ((sl_lit w3 encZ [2, 0, 4] 3 _ rfl).keep (by simp) fun p hp => rfl) (by decide)).mono ?_
  rintro e w4 ⟨rfl, hb4⟩
  have B4 : Below w.heap.size w w4 := Below.then_ (by repeat (first | with_reducible exact Below.refl _ _ | with_reducible assumption | ((with_reducible refine Below.setCell ?_ ?_ _); rotate_left; · (first | omega | exact Nat.le_refl _ | (simp <;> omega))) | (with_reducible refine Below.allocW ?_ _) | (with_reducible refine Below.drew ?_) | (with_reducible refine Below.extW ?_ _))) hb4
  have s4 : w.heap.size ≤ w4.heap.size := B4.size
  have O34 := Lib.hid ((O3.out.alloc (.cells #[.int .i64 2, .int .i64 0, .int .i64 4] 3)).below hb4)
  go_wp2_with fail
  refine (ref5_Same _ A3 (some ⟨w4.heap.size, 0, none⟩) c3 3 [5, 0, 10] (O34.out.alloc _).sl ((sl_lit w4 encZ [5, 0, 10] 3 _ rfl).keep (by simp) fun p hp => rfl) (by decide)).mono ?_
  rintro e w5 ⟨rfl, hb5⟩
  have B5 : Below w.heap.size w w5 := Below.then_ (by repeat (first | with_reducible exact Below.refl _ _ | with_reducible assumption | ((with_reducible refine Below.setCell ?_ ?_ _); rotate_left; · (first | omega | exact Nat.le_refl _ | (simp <;> omega))) | (with_reducible refine Below.allocW ?_ _) | (with_reducible refine Below.drew ?_) | (with_reducible refine Below.extW ?_ _))) hb5
  have s5 : w.heap.size ≤ w5.heap.size := B5.size
  go_wp2_with fail
  go_ret
  exact ⟨rfl, (by repeat (first | with_reducible exact Below.refl _ _ | with_reducible assumption | ((with_reducible refine Below.setCell ?_ ?_ _); rotate_left; · (first | omega | exact Nat.le_refl _ | (simp <;> omega))) | (with_reducible refine Below.allocW ?_ _) | (with_reducible refine Below.drew ?_) | (with_reducible refine Below.extW ?_ _)))⟩
end Go.Proofs.YtcjnchjmpkapmaaGreat
/- A digest's blocks are rows of cells: what an iterator's state turns is none of them. -/
namespace Go.Proofs.YtcjnchjmpkapmaaGreat
open Go.ChangeShapes Go.WideShapes Go.ChangeAt Go.RowKit
set_option linter.unusedVariables false

theorem tyB : SliceTy Tryz.prog 83 57 2 16 (.agg #[.int .i64 0, .int .i64 0]) := ⟨Tryz.underlying83, by kernel_rfl, rfl, by decide⟩
theorem own_cells {α : Type} {size base e : Nat} {E : Enc α size} {w : World} {v : Value} {l : List α} (h : Own w base e E v l) {b : Nat} (hb : v.ownBlock = some b) : ∃ o, w.heap[b]? = some o ∧ o.isCells = true := by
  rcases h with ⟨rfl, _⟩ | ⟨g1, o1, c1, u1, rfl, _, hh1, _⟩
  · cases hb
  · have : g1 = b := by simpa [Value.ownBlock] using hb
    subst this
    exact ⟨_, hh1, rfl⟩
theorem DigAt.cells {w : World} {g K l : Nat} {k : Int} {r : List Nd} {F : Nat → Prop} (h : DigAt w g K l k r F) : ∀ b, F b → ∃ o, w.heap[b]? = some o ∧ o.isCells = true := by
  obtain ⟨h1, h2, p, F0, rfl, h3, h4⟩ := h
  rintro q (rfl | hq)
  · exact ⟨_, h3, rfl⟩
  · obtain ⟨a1, a2, a3, p2, F1, rfl, h5⟩ := h4
    rcases h5 with ⟨_, _, c, d⟩ | ⟨_, c, d⟩
    · rcases hq with rfl | hq
      · exact ⟨_, c, rfl⟩
      · obtain ⟨v, C, e1, e2, _, _, rfl⟩ := d
        rcases hq with rfl | hq
        · exact ⟨_, e1, rfl⟩
        · exact own_cells e2 hq
    · rcases hq with rfl | hq
      · exact ⟨_, c, rfl⟩
      · obtain ⟨v, S, b, e1, e2, _, _, _, _, rfl⟩ := d
        rcases hq with rfl | hq
        · exact ⟨_, e1, rfl⟩
        · exact own_cells e2 hq
theorem DigAt.grown {A B : World} {g K l : Nat} {k : Int} {r : List Nd} {F : Nat → Prop} {row : Option Nat} (h : DigAt A g K l k r F) (hg : A.grownBy B row) (hr : ∀ r, row = some r → ∃ o : Obj, A.heap[r]? = some o ∧ o.isCells = false) : DigAt B g K l k r F :=
  h.keep fun b hb => by
    obtain ⟨o, ho, hc⟩ := h.cells b hb
    exact hg.block b (h.lt b hb) fun e => by
      obtain ⟨o2, ho2, hc2⟩ := hr b e.symm
      rw [ho] at ho2; cases ho2
      rw [hc] at hc2; cases hc2
end Go.Proofs.YtcjnchjmpkapmaaGreat
/- Package bins: Bounds. -/
namespace Go.Proofs.YtcjnchjmpkapmaaGreat
open Go.ChangeShapes Go.WideShapes Go.ChangeAt Go.RowKit
set_option linter.unusedVariables false
set_option maxRecDepth 100000
attribute [local go_sem] Oper.semAt_some

def bdOf (l : Int) (r : List Nd) (p : Int × Int) : Int × Int := ((betw l r p.1 p.2).1, (betw l r p.1 p.2).2.1)
def bdL (l : Nat) (r : List Nd) (es : List Int) : List (Int × Int) := if binErr l es = 0 then (runsL l es).map (bdOf l r) else []
def BdPost (l : Nat) (r : List Nd) (es : List Int) (w : World) (e : Ending) (w' : World) : Prop := ∃ v, e = .returned (.tuple #[v, .int .i64 (binErr l es)]) ∧ Own w' w.heap.size 57 encN v (bdL l r es) ∧ Below w.heap.size w w'
theorem betw_range {l : Int} {r : List Nd} (hr : Roll r) (a b : Int) : 0 ≤ (betw l r a b).1 ∧ (betw l r a b).1 ≤ sumR r ∧ 0 ≤ (betw l r a b).2.1 ∧ (betw l r a b).2.1 ≤ sumR r := by
  have h0 := sumR_nonneg hr
  unfold betw betwLow betwHigh
  split
  · simp only; omega
  · have h1 := weighR_le (l := l) (f := inLow a b) hr
    have h2 := weighR_le (l := l) (f := inHigh a b) hr
    simp only; omega
theorem bins_Bounds_nil (w : World) (v : Value) : Calls Tryz.prog 41 #[.pointer none, v] w fun e w' => e = .returned (.tuple #[.slice none 0 0, .int .i64 1]) ∧ Below w.heap.size w w' := by
  refine (callsIn_wide (n := 3)).1 ?_
  refine callsIn_of_wp_marks Tryz.func41 rfl trivial ?_ rfl
  simp only [Tryz.ntmps41, List.size_toArray, List.length_cons, List.length_nil, Nat.reduceAdd, Nat.reduceSub, Array.replicate_succ, Array.replicate_zero, List.push_toArray, List.append_toArray, List.nil_append, List.cons_append]
  gi_wp2_with fail
  refine ⟨trivial, ?_⟩
  refine (callsIn_wide.2 (bins_wrong_nil _ v)).mono ?_
  rintro e w1 ⟨rfl, hb1⟩
  have B1 := ((Below.refl w.heap.size w).alloc (Nat.le_refl _) (.cells #[.pointer none] 28)).trans (hb1.mono (by simp))
  gi_wp2_with fail
  exact ⟨.tuple #[.slice none 0 0, .int .i64 1], by simp [results, Tryz.f41, go_sem], rfl, B1⟩
structure BdI (w : World) (g K l : Nat) (k : Int) (r : List Nd) (F : Nat → Prop) (bt bo z : Nat) (pre : List (Int × Int)) (W : World) : Prop where
  t : W.heap[bt]? = some (.cells #[.pointer (some ⟨g, 0, none⟩)] 28 (0, 0))
  o : ∃ v, W.heap[bo]? = some (.cells #[v] 83 (0, 0)) ∧ Own W z 57 encN v (pre.map (bdOf l r))
  dig : DigAt W g K l k r F
  sz : z ≤ W.heap.size
set_option maxHeartbeats 1000000 in
theorem bins_Bounds (w : World) (g K l : Nat) (k : Int) (r : List Nd) (F : Nat → Prop) (A : Option Addr) (cap : Nat) (es : List Int) (h : DigAt w g K l k r F) (hn : r.length ≤ 67108864) (hS : Sl w w.heap.size encZ A es) (hm : es.length ≤ 67108864) (hr : rightOf l r = true) :
    Calls Tryz.prog 41 #[.pointer (some ⟨g, 0, none⟩), .slice A es.length cap] w (BdPost l r es w) := by
  have hl := h.l_le
  have hfit := h.fits
  have hflt := h.lt
  have HFl := Lib.hid hflt
  have BA0 : Below w.heap.size w (w.alloc (.cells #[.pointer (some ⟨g, 0, none⟩)] 28)) := (Below.refl _ _).alloc (Nat.le_refl _) _
  have HD := Lib.hid (h.alloc (.cells #[.pointer (some ⟨g, 0, none⟩)] 28))
  have HS := Lib.hid (hS.keep (B' := (w.alloc (.cells #[.pointer (some ⟨g, 0, none⟩)] 28)).heap.size) BA0.size fun p hp => BA0.cell hp)
  have T0 := Lib.hid (heap_alloc_new w (.cells #[.pointer (some ⟨g, 0, none⟩)] 28))
  have HW := Lib.hid (bins_wrong · g K l k r F A cap es · · hm)
  have BA := Lib.hid BA0
  clear h hS hflt BA0
  refine (callsIn_wide (n := 3)).1 ?_
  refine callsIn_of_wp_marks Tryz.func41 rfl trivial ?_ rfl
  simp only [Tryz.ntmps41, List.size_toArray, List.length_cons, List.length_nil, Nat.reduceAdd, Nat.reduceSub, Array.replicate_succ, Array.replicate_zero, List.push_toArray, List.append_toArray, List.nil_append, List.cons_append]
  gi_wp2_with fail
  refine ⟨trivial, ?_⟩
  refine (callsIn_wide.2 (HW.out _ HD.out HS.out)).mono ?_
  rintro e w1 ⟨rfl, hb1⟩
  have B1 : Below w.heap.size w w1 := BA.out.trans (hb1.mono BA.out.size)
  have s1 := B1.size
  have t1 := blk_below T0.out hb1
  have ct1 := blk_cell t1
  have zt1 := lt_of_block t1
  by_cases hE : binErr l es = 0
  · have HE := Lib.hid hE
    rw [hE]
    have hre : rightE l (-1) es = true := by unfold binErr at hE; split at hE <;> simp_all
    have hall := rightE_all es _ hre
    have p48 := pow_48 hl.2
    have S1 := Lib.hid (HS.out.keep (B' := w1.heap.size) hb1.size fun p hp => hb1.cell hp)
    have D2 := Lib.hid ((HD.out.below hb1).alloc (.cells #[.slice none 0 0] 83))
    have T2 := Lib.hid ((Below.heap_alloc w1 (.cells #[.slice none 0 0] 83) w.heap.size zt1).trans t1)
    have ct2 := blk_cell T2.out
    have zt2 : w.heap.size < (w1.alloc (.cells #[.slice none 0 0] 83)).heap.size := lt_of_block T2.out
    have O2 := Lib.hid (heap_alloc_new w1 (.cells #[.slice none 0 0] 83))
    clear hE hre t1
    gi_wp2_with fail
    refine ⟨trivial, ?_⟩
    refine (callsIn_wide.2 (digest_Conf _ g K l k r F D2.out)).mono ?_
    rintro e w3 ⟨rfl, hb3⟩
    have B3 : Below w.heap.size w w3 := (B1.alloc s1 _).trans (hb3.mono (by simp; omega))
    have s3 := B3.size
    have hb3s := hb3.size
    simp only [World.size_alloc] at hb3s
    have kt := blk_below T2.out hb3
    have ko := blk_below O2.out hb3
    have D3 := D2.out.below hb3
    gi_wp2_with fail
    refine ⟨trivial, ?_⟩
    refine (callsIn_wide.2 (bins_runs _ l A es.length cap)).mono ?_
    rintro e w4 ⟨rfl, rfl⟩
    gi_wp2_with fail
    have BA3 : Below w3.heap.size w3 ((w3.alloc (.cells #[.int .i64 l] 3)).alloc (.cells #[.slice A es.length cap] 49)) := ((Below.refl _ _).alloc (Nat.le_refl _) _).alloc (by simp) _
    have kt0 := Lib.hid (blk_below kt BA3)
    have ko0 := Lib.hid (blk_below ko BA3)
    have D0 := Lib.hid (D3.below BA3)
    have kbl := Lib.hid (show ((w3.alloc (.cells #[.int .i64 l] 3)).alloc (.cells #[.slice A es.length cap] 49)).heap[w3.heap.size]? = some (.cells #[.int .i64 l] 3 (0, 0)) from (Below.heap_alloc _ _ _ (by simp)).trans (heap_alloc_new w3 _))
    have kbe := Lib.hid (heap_new_at (w3.alloc (.cells #[.int .i64 l] 3)) (.cells #[.slice A es.length cap] 49) (w3.heap.size + 1) (by simp))
    have hB0 : Below w.heap.size w ((w3.alloc (.cells #[.int .i64 l] 3)).alloc (.cells #[.slice A es.length cap] 49)) := B3.trans (BA3.mono s3)
    have hB1 : Below w1.heap.size w1 ((w3.alloc (.cells #[.int .i64 l] 3)).alloc (.cells #[.slice A es.length cap] 49)) := (((Below.refl w1.heap.size w1).alloc (Nat.le_refl _) _).trans (hb3.mono (by simp))).trans (BA3.mono (by omega))
    have SX := Lib.hid (SlX.of (z := w3.heap.size + 2) (X := fun b => b = w1.heap.size) (S1.out.keep (Nat.le_refl _) fun p hp => hB1.cell hp) (by omega) (fun b hb => by rintro rfl; omega))
    have zW0 : ((w3.alloc (.cells #[.int .i64 l] 3)).alloc (.cells #[.slice A es.length cap] 49)).heap.size = w3.heap.size + 2 := by simp
    generalize (w3.alloc (.cells #[.int .i64 l] 3)).alloc (.cells #[.slice A es.length cap] 49) = W0 at kt0 ko0 D0 kbl kbe hB0 SX zW0 ⊢
    have HBt := Lib.hid (fun a b W (hD : DigAt W g K l k r F) => reach_Between W g K l k r F a b hD hn)
    unfold bothV at HBt
    clear kt ko D3 BA3 hB1 hb1 hb3 D2 S1 HD HS HW B1 B3 T0 T2 O2 BA ct1 ct2
    have hKB := Lib.hid (fun (W : World) (q : Nat) (o o' : Obj) (h : W.heap[q]? = some o) (hc : o.isCells = false) => keepX_b (z := w3.heap.size + 2) (X := fun b => b = w1.heap.size) W q o o' h hc)
    refine wpIn_rangeFunc_ownG rfl (by decide) (gf := 215) (lb := #[.pointer (some ⟨w3.heap.size + 1, 0, none⟩), .pointer (some ⟨w3.heap.size, 0, none⟩)]) rfl trivial (enters_of Tryz.func215 (by kernel_rfl) rfl)
      (runs_stops (3 - 1) (w3.heap.size + 1) w3.heap.size (w3.heap.size + 2) (fun b => b = w1.heap.size) l A cap es W0 (by decide) hl (by omega) kbe.out kbl.out SX.out (by omega) (fun (h : w3.heap.size + 1 = w1.heap.size) => by omega) (by omega) (fun (h : w3.heap.size = w1.heap.size) => by omega) (fun x hx => by have := hall x hx; omega) (fun x hx => (hall x hx).1) hm)
      keepX_t (fun W q o o' _ h hc _ => hKB.out W q o o' h hc) (Below.refl _ _) (fun _ => rfl)
      (fun pre W => BdI w g K l k r F w.heap.size w1.heap.size (w3.heap.size + 2) pre W ∧ Below w.heap.size w W)
      (fun _ _ _ => False)
      (OwnFrom.and (Go.Own.from (fun s A B row hs hg hr => ⟨row_grown hs.t hg hr, by obtain ⟨v, h1, h2⟩ := hs.o; exact ⟨v, row_grown h1 hg hr, own_grown h2 hg hr⟩, hs.dig.grown hg hr, Nat.le_trans hs.sz hg.size⟩) _) (ownFrom_below (Nat.le_refl _) (by omega)))
      (fun c => fun _ _ _ _ hs _ _ => hs)
      ⟨⟨kt0.out, ⟨_, ko0.out, Own.nil _ _ _ _⟩, D0.out, by omega⟩, hB0⟩
      (fun x => { tmps := #[.pointer (some ⟨g, 0, none⟩), .slice A es.length cap, .pointer (some ⟨w.heap.size, 0, none⟩), undef, .slice none 0 0, .int .i64 0, .int .i64 0, .pointer (some ⟨w1.heap.size, 0, none⟩), .int .i64 x.1, .int .i64 x.2, undef, undef,
        .pointer (some ⟨g, 0, none⟩), .slice A es.length cap, .int .i64 0, .int .i64 0, .bool false, undef, .pointer (some ⟨g, 0, none⟩), .agg #[.int .i64 l, .int .i64 k, .int .i64 K], .int .i64 l, .slice A es.length cap,
        .func (.func 215) #[] #[.pointer (some ⟨w3.heap.size + 1, 0, none⟩), .pointer (some ⟨w3.heap.size, 0, none⟩)], .int .i64 x.1, .int .i64 x.2, undef, undef, undef, undef, undef, undef, undef, undef, undef, undef, undef, undef], defers := [] }) ?assign ?body ?done ?stop
    case assign =>
      intro q x W Kc hK
      gi_wp2
      exact hK
    case body =>
      rintro q pre x W ⟨⟨ht, ⟨v, ho, hown⟩, hd, hsz⟩, hB⟩ hlen
      have KT := Lib.hid ht
      have KO := Lib.hid ho
      have KD := Lib.hid hd
      have KW := Lib.hid hown
      have HB := Lib.hid hB
      have ct := blk_cell ht
      have zt := lt_of_block ht
      have zo := lt_of_block ho
      have hW0 := (Own.lt hown)
      have br := betw_range (l := l) hfit.roll x.1 x.2
      have hs1 := hfit.sum
      have HX := Lib.hid (HBt.out x.1 x.2)
      have HSn : Hid ((pre ++ [x]).map (bdOf l r) = pre.map (bdOf l r) ++ [((betw l r x.1 x.2).1, (betw l r x.1 x.2).2.1)]) := Lib.hid (by rw [List.map_append]; rfl)
      have hlenL : (pre.map (bdOf (l : Int) r)).length = pre.length := by simp
      rw [runsL_len] at hlen
      generalize betw (l : Int) r x.1 x.2 = t at br HX HSn
      obtain ⟨p, p2, er⟩ := t
      simp only at br HX HSn
      generalize pre.map (bdOf (l : Int) r) = L at KO KW HSn hlenL ho hown
      have fo := blk_frozen ho
      clear ht ho hd hown hB
      gi_wp2_with fail
      refine ⟨trivial, ?_⟩
      refine (CallsIn.inRound q (callsIn_wide.2 (HX.out _ KD.out))).mono ?_
      rintro e w5 ⟨rfl, hb5⟩
      have s5 := hb5.size
      have ko5 := blk_below KO.out hb5
      have O5 := Lib.hid (KW.out.below hb5)
      have zz5 : w3.heap.size + 2 ≤ w5.heap.size := by omega
      have T5 := Lib.hid (blk_below KT.out hb5)
      have D5 := Lib.hid (KD.out.below hb5)
      have KO5 := Lib.hid ko5
      have co5 := blk_cell ((Below.heap_alloc w5 (.cells #[.int .i64 p, .int .i64 p2] 57) _ (lt_of_block ko5)).trans ko5)
      have zt5 : w1.heap.size < w5.heap.size := lt_of_block ko5
      clear ct fo ko5
      gi_wp2_with ((gi_at_builtin; refine wpListIn_push tyB rfl _ _ rfl encN (w5.alloc (.cells #[.int .i64 p, .int .i64 p2] 57)) (w3.heap.size + 2) v L rfl (O5.out.alloc _) (p, p2) (by go_simp) rfl ?c1 ?c2 ?c3 ?c4))
      case c1 => omega
      case c2 => simp only [maxLen]; omega
      case c3 => simp; omega
      case c4 =>
        intro v6 w6 hown6 hgrow6 _ hlies6 hb6 _
        obtain ⟨A6, c6, rfl, _⟩ := hown6.form
        have hrow : ∀ b, b < w3.heap.size + 2 → some b ≠ v.ownBlock := fun b hb h => by have := O5.out.lt b h.symm; omega
        have hb5' : Below W.heap.size W (w5.alloc (.cells #[.int .i64 p, .int .i64 p2] 57)) := hb5.alloc s5 _
        have s6 := hgrow6.size
        simp only [World.size_alloc] at s6
        have ko6 := (hgrow6.block w1.heap.size (by simp; omega) (hrow _ (by omega))).trans ((Below.heap_alloc w5 _ _ zt5).trans KO5.out)
        have kt6 := (hgrow6.block w.heap.size (by simp; omega) (hrow _ (by omega))).trans ((Below.heap_alloc w5 _ _ (lt_of_block T5.out)).trans T5.out)
        have D6 := Lib.hid (D5.out.keep fun b hb => (hgrow6.block b (by have := HFl.out b hb; simp; omega) (hrow b (by have := HFl.out b hb; omega))).trans (Below.heap_alloc w5 _ b (by have := HFl.out b hb; omega)))
        have KK : Hid (KeepX (w3.heap.size + 2) (fun b => b = w1.heap.size) W w6) := Lib.hid ((KeepX.of_below hb5').grown hgrow6 (fun b h => (O5.out.lt b h).1))
        have KF : Hid (KeepsFrom W0.heap.size W w6) := Lib.hid (((KeepsOthers.of_grownBy (grownBy_of_below hb5' none) (fun _ _ h => by cases h)).trans (KeepsOthers.of_grownBy hgrow6 (fun j o h ho => by
          obtain ⟨o2, h2, h3⟩ := own_cells (O5.out.alloc (.cells #[.int .i64 p, .int .i64 p2] 57)) h
          rw [h2] at ho; cases ho; exact h3))).from _)
        have BB : Hid (Below w.heap.size w w6) := Lib.hid ((HB.out.trans (hb5'.mono HB.out.size)).trans (hb6.mono (by omega)))
        have co6 := blk_cell ko6
        have fo6 := blk_frozen ko6
        have O6 := Lib.hid (show Own w6 (w3.heap.size + 2) 57 encN (.slice A6 (pre.length + 1) c6) (L ++ [(p, p2)]) by simpa [hlenL] using hown6)
        have KO6 := Lib.hid ko6
        have KT6 := Lib.hid kt6
        have zo6 : w1.heap.size < w6.heap.size := lt_of_block ko6
        have hwne : w.heap.size ≠ w1.heap.size := by omega
        clear hown6 hgrow6 hlies6 hb6 ko6 kt6 co5 hb5 hb5'
        gi_wp2_with fail
        refine ⟨KF.out.trans ((KeepsOthers.setCell _ _ _).from _), KK.out.set (.inl rfl) _, ⟨?_, ⟨.slice A6 (pre.length + 1) c6, ?_, ?_⟩, ?_, ?_⟩, BB.out.setCell (p := ⟨w1.heap.size, 0, none⟩) (by simp only; omega) _⟩
        · exact blk_set KT6.out hwne
        · exact heap_set_at (i := 0) KO6.out _
        · rw [HSn.out]
          exact O6.out.setCell (p := ⟨w1.heap.size, 0, none⟩) (fun h => by have := O6.out.lt _ h; simp only at this; omega) _
        · exact D6.out.set fun b hb => by have := HFl.out b hb; omega
        · simp [World.setCell]; omega
    case done =>
      rintro D ys W hD hys ⟨⟨ht, ⟨v, ho, hown⟩, hd, hsz⟩, hB⟩ hK
      have hys' : ys = runsL l es := hys
      have he2 : bdL l r es = (runsL l es).map (bdOf l r) := by unfold bdL; rw [if_pos HE.out]
      rw [hys', ← he2] at hown
      clear hys hys'
      have co := blk_cell ho
      have zo := lt_of_block ho
      gi_wp2
      refine ⟨by simp, .inl ⟨_, _, rfl, run_takeDeferred hK, ?_⟩⟩
      have hown2 := (own_grown hown (grownBy_putObj' W D (.deferred none)) (fun r e => by cases e; exact ⟨_, hK, rfl⟩)).base_le (b := w.heap.size) (by omega)
      exact ⟨.tuple #[v, .int .i64 0], by simp [results, Tryz.f41, go_sem], v, by rw [HE.out], hown2, hB.trans (belowK_b (w := w) (Nat.le_refl _) W D _ _ (by omega) hK rfl rfl)⟩
    case stop =>
      rintro D c pre W hD hpre h hK
      exact h.elim
  · have HE := Lib.hid (show (binErr l es == 0) = false by simpa using hE)
    have he2 : bdL l r es = [] := by unfold bdL; rw [if_neg hE]
    have hne := HE.out
    gi_wp2_with fail
    exact ⟨.tuple #[.slice none 0 0, .int .i64 (binErr l es)], by simp [results, Tryz.f41, go_sem], .slice none 0 0, rfl, by rw [he2]; exact Own.nil _ _ _ _, B1⟩
end Go.Proofs.YtcjnchjmpkapmaaGreat
/- The reference of layer 19 (bins): Run, Bounds. -/
namespace Go.Proofs.YtcjnchjmpkapmaaGreat
open Go.ChangeShapes Go.WideShapes Go.ChangeAt Go.RowKit
set_option linter.unusedVariables false
set_option maxRecDepth 100000

theorem ref19_Run (w : World) (l : Nat) (A : Option Addr) (cap : Nat) (es : List Int) (q : Nat) (hl : 1 ≤ l ∧ l ≤ 48) (hS : Sl w w.heap.size encZ A es) (he : ∀ x ∈ es, 0 ≤ x ∧ x < 2 ^ l) (hq : q ≤ es.length) (hm : es.length ≤ 67108864) :
    Calls Tryz.prog 44 #[.int .i64 l, .slice A es.length cap, .int .i64 q] w fun e w' => e = .returned (.tuple #[.int .i64 (runAt l es q).1, .int .i64 (runAt l es q).2]) ∧ Below w.heap.size w w' := by
  have p1 := pow_pos' l
  have p2 := pow_48 hl.2
  have HP := Lib.hid (ref2_Power · l (by omega))
  have el := runAt_last l es
  have e0 : (runAt l es 0).1 = 0 := by unfold runAt; simp
  by_cases hlt : q < es.length
  · have e2 := runAt_in (l := l) hlt
    have hr2 := he _ (List.getElem_mem hlt)
    obtain ⟨b, off, rfl, hb, hc⟩ := hS.at_ hlt
    have d2 := hc 0 (.int .i64 es[q]) rfl
    rw [e2]
    simp only [Nat.mul_one, Nat.add_zero] at d2
    have i2 : (q : Int) < (es.length : Int) := by omega
    rcases Nat.eq_zero_or_pos q with rfl | hq0
    · rw [e0]
      generalize es[0] = y at d2 hr2
      generalize (2 : Int) ^ l = P at HP p1 p2 hr2
      simp only [Nat.add_zero] at d2
      clear e0 e2 el hc he hS
      go_enter Tryz.func44, Tryz.ntmps44
      go_wp2_with fail
      refine (HP.out _).mono ?_
      rintro e w1 ⟨rfl, hb1⟩
      have B1 : Below w.heap.size w w1 := Below.then_ (by repeat (first | with_reducible exact Below.refl _ _ | with_reducible assumption | ((with_reducible refine Below.setCell ?_ ?_ _); rotate_left; · (first | omega | exact Nat.le_refl _ | (simp <;> omega))) | (with_reducible refine Below.allocW ?_ _) | (with_reducible refine Below.drew ?_) | (with_reducible refine Below.extW ?_ _))) hb1
      have s1 : w.heap.size ≤ w1.heap.size := B1.size
      have d3 := (hb1.cell (p := ⟨b, off, none⟩) hb).trans d2
      have lb : b < w1.heap.size := by omega
      go_wp2_with fail
      go_ret2
      exact ⟨rfl, B1⟩
    · obtain ⟨p, rfl⟩ : ∃ p, q = p + 1 := ⟨q - 1, by omega⟩
      have e1 := runAt_fst_succ (l := l) (q := p) (es := es) (by omega)
      have hr1 := he _ (List.getElem_mem (show p < es.length by omega))
      obtain ⟨b', off', hA, hb', hc'⟩ := hS.at_ (show p < es.length by omega)
      cases hA
      have d1 := hc' 0 (.int .i64 es[p]) rfl
      rw [e1]
      simp only [Nat.mul_one, Nat.add_zero] at d1
      generalize es[p] = x at d1 hr1
      generalize es[p + 1] = y at d2 hr2
      generalize (2 : Int) ^ l = P at HP p1 p2 hr1 hr2
      have i0 : (0 : Int) < (p : Int) + 1 := by omega
      clear e0 e1 e2 el hc hc' he hS
      go_enter Tryz.func44, Tryz.ntmps44
      go_wp2_with fail
      refine (HP.out _).mono ?_
      rintro e w1 ⟨rfl, hb1⟩
      have B1 : Below w.heap.size w w1 := Below.then_ (by repeat (first | with_reducible exact Below.refl _ _ | with_reducible assumption | ((with_reducible refine Below.setCell ?_ ?_ _); rotate_left; · (first | omega | exact Nat.le_refl _ | (simp <;> omega))) | (with_reducible refine Below.allocW ?_ _) | (with_reducible refine Below.drew ?_) | (with_reducible refine Below.extW ?_ _))) hb1
      have s1 : w.heap.size ≤ w1.heap.size := B1.size
      have d3 := (hb1.cell (p := ⟨b, off + p, none⟩) hb).trans d1
      have d4 := (hb1.cell (p := ⟨b, off + (p + 1), none⟩) hb).trans d2
      have lb : b < w1.heap.size := by omega
      go_wp2_with fail
      go_ret2
      exact ⟨rfl, B1⟩
  · obtain rfl : q = es.length := by omega
    have HL := Lib.hid (rfl : es.length = es.length)
    rw [el]
    rcases Nat.eq_zero_or_pos es.length with h0 | hq0
    · have e3 : (runAt l es es.length).1 = 0 := by rw [h0]; exact e0
      rw [e3]
      generalize (2 : Int) ^ l = P at HP p1 p2 he
      rw [h0]
      clear e0 e3 el hS he
      go_enter Tryz.func44, Tryz.ntmps44
      go_wp2_with fail
      refine (HP.out _).mono ?_
      rintro e w1 ⟨rfl, hb1⟩
      have B1 : Below w.heap.size w w1 := Below.then_ (by repeat (first | with_reducible exact Below.refl _ _ | with_reducible assumption | ((with_reducible refine Below.setCell ?_ ?_ _); rotate_left; · (first | omega | exact Nat.le_refl _ | (simp <;> omega))) | (with_reducible refine Below.allocW ?_ _) | (with_reducible refine Below.drew ?_) | (with_reducible refine Below.extW ?_ _))) hb1
      have s1 : w.heap.size ≤ w1.heap.size := B1.size
      go_wp2_with fail
      go_ret2
      exact ⟨rfl, B1⟩
    · obtain ⟨p, hp⟩ : ∃ p, es.length = p + 1 := ⟨es.length - 1, by omega⟩
      have hpl : p < es.length := by omega
      have hp9 : p ≤ 67108864 := by omega
      have e1 := runAt_fst_succ (l := l) hpl
      rw [← hp] at e1
      have hr1 := he _ (List.getElem_mem hpl)
      obtain ⟨b, off, rfl, hb, hc⟩ := hS.at_ hpl
      have d1 := hc 0 (.int .i64 es[p]) rfl
      rw [e1]
      simp only [Nat.mul_one, Nat.add_zero] at d1
      generalize es[p] = x at d1 hr1
      generalize (2 : Int) ^ l = P at HP p1 p2 hr1
      clear e0 e1 el hc he hS hlt
      rw [hp] at *
      have i0 : (0 : Int) < (p : Int) + 1 := by omega
      go_enter Tryz.func44, Tryz.ntmps44
      go_wp2_with fail
      refine (HP.out _).mono ?_
      rintro e w1 ⟨rfl, hb1⟩
      have B1 : Below w.heap.size w w1 := Below.then_ (by repeat (first | with_reducible exact Below.refl _ _ | with_reducible assumption | ((with_reducible refine Below.setCell ?_ ?_ _); rotate_left; · (first | omega | exact Nat.le_refl _ | (simp <;> omega))) | (with_reducible refine Below.allocW ?_ _) | (with_reducible refine Below.drew ?_) | (with_reducible refine Below.extW ?_ _))) hb1
      have s1 : w.heap.size ≤ w1.heap.size := B1.size
      have d3 := (hb1.cell (p := ⟨b, off + p, none⟩) hb).trans d1
      have lb : b < w1.heap.size := by omega
      go_wp2_with fail
      go_ret2
      exact ⟨rfl, B1⟩
end Go.Proofs.YtcjnchjmpkapmaaGreat
/- A list of ints that came in. -/
namespace Go.Proofs.YtcjnchjmpkapmaaGreat
open Go.ChangeShapes Go.WideShapes Go.ChangeAt Go.RowKit
set_option linter.unusedVariables false
set_option maxRecDepth 100000

theorem open_Ints {H : Type} {enc : TypeId × Value → H} {w : World} {base : Nat} {spare : Nat → Bool} {held : Bool} {r : Reach} {b0 : Nat} {v : Value} {d : DataW H} {p : List MemPlace}
    (hv : Value.okWide Tryz.prog w r b0 49 v) (h : DataW.Trod enc Tryz.prog w base spare held 49 v d p) :
    ∃ (ks : List Int) (A : Option Addr) (cap : Nat), v = .slice A ks.length cap ∧ Sl w w.heap.size encZ A ks ∧ (∀ x ∈ ks, i64 x) ∧ ks.length ≤ maxLen := by
  obtain ⟨A, n, cap, rfl⟩ := okWide_slice Tryz.underlying49 hv
  obtain ⟨fuel, hf⟩ := h
  obtain ⟨l, A', cap', hc, rest⟩ := slice_of_trod encZ i64 Tryz.underlying49 (by kernel_rfl) (by decide) (fun fuel cs x h => by
    obtain ⟨k, e0, _, k0⟩ := DataW.trod_int Tryz.underlying3 h
    exact ⟨k, e0, i64_of_wf k0⟩) hf
  have hc' : Value.slice A n cap = .slice A' l.length cap' := by simpa [Value.cells] using hc
  rw [hc']
  exact ⟨l, A', cap', rfl, rest⟩
end Go.Proofs.YtcjnchjmpkapmaaGreat
/- Chapter 19: the bins hold: the law. -/
namespace Go.Proofs.YtcjnchjmpkapmaaGreat
open Go.ChangeShapes Go.WideShapes Go.ChangeAt Go.RowKit
set_option linter.unusedVariables false
set_option linter.unusedSimpArgs false
set_option maxRecDepth 100000

theorem bdL_get {l : Nat} {r : List Nd} {es : List Int} (he : binErr l es = 0) {q : Nat} (hq : q < es.length + 1) : (bdL l r es)[q]? = some (bdOf l r (runAt l es q)) := by
  unfold bdL runsL
  rw [if_pos he, List.map_map, List.getElem?_map, List.getElem?_range hq]; rfl
theorem bdL_length {l : Nat} {r : List Nd} {es : List Int} (he : binErr l es = 0) : (bdL l r es).length = es.length + 1 := by
  unfold bdL
  rw [if_pos he, List.length_map, runsL_len]
theorem bin_holds {l : Nat} {k : Int} {r m : List Nd} (h : Held l k r m) (hl : 1 ≤ l ∧ l ≤ 48) (hk : 1 ≤ k) (p : Int × Int) : (bdOf l r p).1 ≤ betwB m p.1 p.2 ∧ betwB m p.1 p.2 ≤ (bdOf l r p).2 := by
  unfold bdOf betw
  by_cases hp : p.2 < p.1
  · rw [if_pos hp]
    rw [betwB_none fun z _ => by omega]
    exact ⟨Int.le_refl _, Int.le_refl _⟩
  · rw [if_neg hp]
    have := h.betw hl hk (a := p.1) (b := p.2) (by omega)
    exact ⟨this.1, this.2.1⟩
theorem rightE_vals {l : Nat} : ∀ {es : List Int} {p : Int}, rightE l p es = true → ∀ x ∈ es, 0 ≤ x ∧ x < 2 ^ l := by
  intro es
  induction es with
  | nil => intro _ _ x hx; simp at hx
  | cons y es ih =>
    intro p h x hx
    simp only [rightE, Bool.and_eq_true, decide_eq_true_eq] at h
    rcases List.mem_cons.1 hx with rfl | hx
    · exact ⟨h.1.1.1, h.1.1.2⟩
    · exact ih h.2 x hx
theorem lowN_rng {l : Int} {r : List Nd} (hr : Roll r) (es : List Int) (q : Nat) : 0 ≤ lowN l r es q ∧ lowN l r es q ≤ sumR r := by
  have h0 := sumR_nonneg hr
  cases q with
  | zero => simp only [lowN]; omega
  | succ q =>
    simp only [lowN]
    split
    · exact weighR_le hr
    · omega
structure BinsW (w : World) (g K l : Nat) (k : Int) (r m : List Nd) (F : Nat → Prop) (ops : List Op3) (A : Option Addr) (cap : Nat) (pb : Nat) (A1 : Option Addr) (c1 : Nat) (es : List Int) (B : Option Addr) (A2 : Option Addr) (n2 c2 : Nat) (L2 : List Int) (A3 : Option Addr) (n3 c3 : Nat) (L3 : List (Int × Int)) (b2 b3 : Nat) (W : World) : Prop where
  a : LawW w g K l k r m F ops A cap pb A1 c1 W
  e : Sl w w.heap.size encZ B es
  o2 : Own W b2 3 encZ (.slice A2 n2 c2) L2
  o3 : Own W b3 57 encN (.slice A3 n3 c3) L3
section
variable {w : World} {g K l : Nat} {k : Int} {r m : List Nd} {F : Nat → Prop} {ops : List Op3} {A : Option Addr} {cap : Nat} {pb : Nat} {A1 : Option Addr} {c1 : Nat} {es : List Int} {B : Option Addr} {A2 : Option Addr} {n2 c2 : Nat} {L2 : List Int} {A3 : Option Addr} {n3 c3 : Nat} {L3 : List (Int × Int)} {b2 b3 : Nat} {W W' : World}
theorem BinsW.below (h : BinsW w g K l k r m F ops A cap pb A1 c1 es B A2 n2 c2 L2 A3 n3 c3 L3 b2 b3 W) (hb : Below W.heap.size W W') : BinsW w g K l k r m F ops A cap pb A1 c1 es B A2 n2 c2 L2 A3 n3 c3 L3 b2 b3 W' :=
  ⟨h.a.below hb, h.e, h.o2.below hb, h.o3.below hb⟩
theorem BinsW.edges (h : BinsW w g K l k r m F ops A cap pb A1 c1 es B A2 n2 c2 L2 A3 n3 c3 L3 b2 b3 W) : Sl W W.heap.size encZ B es := h.e.keep h.a.blw.size fun p hp => h.a.blw.cell hp
end
set_option maxHeartbeats 4000000 in
theorem law_BinsHolds_big (l k K : Int) (ops : List Op3) (A : Option Addr) (cap : Nat) (es : List Int) (B : Option Addr) (cb : Nat) (w : World) (h : ¬ (ops.length ≤ 120 ∧ es.length ≤ 30 ∧ ¬ (K = 1 ∧ 10 < l))) (hm : ops.length ≤ maxLen) (hme : es.length ≤ maxLen) :
    Calls Tryz.prog 7 #[callsV l k K A ops.length cap, .slice B es.length cb] w fun e w' => e = .returned (.bool true) ∧ Below w.heap.size w w' := by
  unfold maxLen at hm hme
  unfold callsV
  by_cases h1 : 120 < ops.length
  · have h1p : (120 : Int) < (ops.length : Int) := by omega
    clear h
    go_enter Tryz.func7, Tryz.ntmps7
    go_wp2_with fail
    refine (alive19 _).mono ?_
    rintro e w1 ⟨rfl, hb1⟩
    have B1 : Below w.heap.size w w1 := Below.then_ (by repeat (first | with_reducible exact Below.refl _ _ | with_reducible assumption | ((with_reducible refine Below.setCell ?_ ?_ _); rotate_left; · (first | omega | exact Nat.le_refl _ | (simp <;> omega))) | (with_reducible refine Below.allocW ?_ _) | (with_reducible refine Below.drew ?_) | (with_reducible refine Below.extW ?_ _))) hb1
    have s1 : w.heap.size ≤ w1.heap.size := B1.size
    go_wp2_with fail
    go_ret
    exact ⟨rfl, (by repeat (first | with_reducible exact Below.refl _ _ | with_reducible assumption | ((with_reducible refine Below.setCell ?_ ?_ _); rotate_left; · (first | omega | exact Nat.le_refl _ | (simp <;> omega))) | (with_reducible refine Below.allocW ?_ _) | (with_reducible refine Below.drew ?_) | (with_reducible refine Below.extW ?_ _)))⟩
  · have h1n : decide ((120 : Int) < (ops.length : Int)) = false := by simp; omega
    by_cases h3 : 30 < es.length
    · have h3p : (30 : Int) < (es.length : Int) := by omega
      clear h
      go_enter Tryz.func7, Tryz.ntmps7
      go_wp2_with fail
      refine (alive19 _).mono ?_
      rintro e w1 ⟨rfl, hb1⟩
      have B1 : Below w.heap.size w w1 := Below.then_ (by repeat (first | with_reducible exact Below.refl _ _ | with_reducible assumption | ((with_reducible refine Below.setCell ?_ ?_ _); rotate_left; · (first | omega | exact Nat.le_refl _ | (simp <;> omega))) | (with_reducible refine Below.allocW ?_ _) | (with_reducible refine Below.drew ?_) | (with_reducible refine Below.extW ?_ _))) hb1
      have s1 : w.heap.size ≤ w1.heap.size := B1.size
      go_wp2_with fail
      go_ret
      exact ⟨rfl, (by repeat (first | with_reducible exact Below.refl _ _ | with_reducible assumption | ((with_reducible refine Below.setCell ?_ ?_ _); rotate_left; · (first | omega | exact Nat.le_refl _ | (simp <;> omega))) | (with_reducible refine Below.allocW ?_ _) | (with_reducible refine Below.drew ?_) | (with_reducible refine Below.extW ?_ _)))⟩
    · have h3n : decide ((30 : Int) < (es.length : Int)) = false := by simp; omega
      have hK : K = 1 ∧ 10 < l := Classical.byContradiction fun hc => h ⟨by omega, by omega, hc⟩
      obtain ⟨rfl, hL⟩ := hK
      clear h h1 h3
      go_enter Tryz.func7, Tryz.ntmps7
      go_wp2_with fail
      refine (alive19 _).mono ?_
      rintro e w1 ⟨rfl, hb1⟩
      have B1 : Below w.heap.size w w1 := Below.then_ (by repeat (first | with_reducible exact Below.refl _ _ | with_reducible assumption | ((with_reducible refine Below.setCell ?_ ?_ _); rotate_left; · (first | omega | exact Nat.le_refl _ | (simp <;> omega))) | (with_reducible refine Below.allocW ?_ _) | (with_reducible refine Below.drew ?_) | (with_reducible refine Below.extW ?_ _))) hb1
      have s1 : w.heap.size ≤ w1.heap.size := B1.size
      go_wp2_with fail
      go_ret
      exact ⟨rfl, (by repeat (first | with_reducible exact Below.refl _ _ | with_reducible assumption | ((with_reducible refine Below.setCell ?_ ?_ _); rotate_left; · (first | omega | exact Nat.le_refl _ | (simp <;> omega))) | (with_reducible refine Below.allocW ?_ _) | (with_reducible refine Below.drew ?_) | (with_reducible refine Below.extW ?_ _)))⟩
set_option maxHeartbeats 4000000 in
theorem law_BinsHolds_none (l k K : Int) (ops : List Op3) (A : Option Addr) (cap : Nat) (es : List Int) (B : Option Addr) (cb : Nat) (w : World) (h : ops.length ≤ 120 ∧ es.length ≤ 30 ∧ ¬ (K = 1 ∧ 10 < l)) (hd : isDig l k K = false) :
    Calls Tryz.prog 7 #[callsV l k K A ops.length cap, .slice B es.length cb] w fun e w' => e = .returned (.bool true) ∧ Below w.heap.size w w' := by
  obtain ⟨h1, h3, h4⟩ := h
  have h1n : decide ((120 : Int) < (ops.length : Int)) = false := by simp; omega
  have h3n : decide ((30 : Int) < (es.length : Int)) = false := by simp; omega
  have HM := Lib.hid (fun W v => law13_Made_no W l k K v hd)
  unfold bagV at HM
  unfold callsV
  rcases (by by_cases e : K = 1; exact .inl ⟨by simpa using e, by simp; omega⟩; exact .inr (by simpa using e) : ((K == 1) = true ∧ decide (10 < l) = false) ∨ (K == 1) = false) with ⟨g1, g2⟩ | g1
  all_goals
    clear h4 hd h1 h3
    go_enter Tryz.func7, Tryz.ntmps7
    go_wp2_with fail
    refine (HM.out _ _).mono ?_
    rintro e w1 ⟨rfl, hb1⟩
    have B1 : Below w.heap.size w w1 := Below.then_ (by repeat (first | with_reducible exact Below.refl _ _ | with_reducible assumption | ((with_reducible refine Below.setCell ?_ ?_ _); rotate_left; · (first | omega | exact Nat.le_refl _ | (simp <;> omega))) | (with_reducible refine Below.allocW ?_ _) | (with_reducible refine Below.drew ?_) | (with_reducible refine Below.extW ?_ _))) hb1
    have s1 : w.heap.size ≤ w1.heap.size := B1.size
    go_wp2_with fail
    refine (alive19 _).mono ?_
    rintro e w2 ⟨rfl, hb2⟩
    have B2 : Below w.heap.size w w2 := Below.then_ (by repeat (first | with_reducible exact Below.refl _ _ | with_reducible assumption | ((with_reducible refine Below.setCell ?_ ?_ _); rotate_left; · (first | omega | exact Nat.le_refl _ | (simp <;> omega))) | (with_reducible refine Below.allocW ?_ _) | (with_reducible refine Below.drew ?_) | (with_reducible refine Below.extW ?_ _))) hb2
    have s2 : w.heap.size ≤ w2.heap.size := B2.size
    go_wp2_with fail
    go_ret
    exact ⟨rfl, (by repeat (first | with_reducible exact Below.refl _ _ | with_reducible assumption | ((with_reducible refine Below.setCell ?_ ?_ _); rotate_left; · (first | omega | exact Nat.le_refl _ | (simp <;> omega))) | (with_reducible refine Below.allocW ?_ _) | (with_reducible refine Below.drew ?_) | (with_reducible refine Below.extW ?_ _)))⟩
set_option maxHeartbeats 8000000 in
theorem law_BinsHolds_yes (l K : Nat) (k : Int) (ops : List Op3) (A : Option Addr) (cap : Nat) (es : List Int) (B : Option Addr) (cb : Nat) (w : World) (h : ops.length ≤ 120 ∧ es.length ≤ 30 ∧ ¬ ((K : Int) = 1 ∧ 10 < (l : Int))) (hd : isDig l k K = true) (hS : Sl w w.heap.size encO A ops) (hI : intsO ops) (hSe : Sl w w.heap.size encZ B es) :
    Calls Tryz.prog 7 #[callsV l k K A ops.length cap, .slice B es.length cb] w fun e w' => e = .returned (.bool true) ∧ Below w.heap.size w w' := by
  obtain ⟨h1, h3, h4⟩ := h
  have hl : 1 ≤ l ∧ l ≤ 48 := by simp only [isDig, isPool, Bool.and_eq_true, decide_eq_true_eq] at hd; omega
  have hk : 1 ≤ k := by simp only [isDig, Bool.and_eq_true, decide_eq_true_eq] at hd; exact hd.2.1
  have h1n : decide ((120 : Int) < (ops.length : Int)) = false := by simp; omega
  have h3n : decide ((30 : Int) < (es.length : Int)) = false := by simp; omega
  have HM := Lib.hid (fun W h => law13_Made W l K k A cap ops hd h hI (by omega))
  have X0 : Hid ((w.alloc (.cells #[.int .i64 l, .int .i64 k, .int .i64 K, .slice A ops.length cap] 26)).heap[w.heap.size]? = some (.cells #[.int .i64 l, .int .i64 k, .int .i64 K, .slice A ops.length cap] 26 (0, 0))) := Lib.hid (heap_alloc_new w _)
  have BW0 : Hid (Below w.heap.size w (w.alloc (.cells #[.int .i64 l, .int .i64 k, .int .i64 K, .slice A ops.length cap] 26))) := Lib.hid (by repeat (first | with_reducible exact Below.refl _ _ | with_reducible assumption | ((with_reducible refine Below.setCell ?_ ?_ _); rotate_left; · (first | omega | exact Nat.le_refl _ | (simp <;> omega))) | (with_reducible refine Below.allocW ?_ _) | (with_reducible refine Below.drew ?_) | (with_reducible refine Below.extW ?_ _)))
  have S0 := Lib.hid (hS.keep (B' := (w.alloc (.cells #[.int .i64 l, .int .i64 k, .int .i64 K, .slice A ops.length cap] 26)).heap.size) BW0.out.size fun p hp => BW0.out.cell hp)
  have HSe := Lib.hid hSe
  unfold callsV
  rcases (by by_cases e : (K : Int) = 1; exact .inl ⟨by simpa using e, by simp; omega⟩; exact .inr (by simpa using e) : (((K : Int) == 1) = true ∧ decide (10 < (l : Int)) = false) ∨ ((K : Int) == 1) = false) with ⟨g1, g2⟩ | g1
  all_goals
    clear h4 hd hS hSe
    go_enter Tryz.func7, Tryz.ntmps7
    go_upto_region 1 with fail
    generalize w.alloc (.cells #[.int .i64 l, .int .i64 k, .int .i64 K, .slice A ops.length cap] 26) = W0 at X0 BW0 S0 ⊢
    have x0 := blk_cell X0.out
    have xz := lt_of_block X0.out
    go_wp2_with fail
    refine (HM.out W0 S0.out).mono ?_
    rintro e w1 ⟨g, F, r, m, A1, c1, rfl, hD, _, hT, hH, hr, _, _, hb1⟩
    have al := (Below.refl w1.heap.size w1).alloc (Nat.le_refl _) (.cells #[.int .i64 l, .slice A1 m.length c1] 31)
    have R2 : Hid (LawW w g K l k r m F ops A cap w1.heap.size A1 c1 (w1.alloc (.cells #[.int .i64 l, .slice A1 m.length c1] 31))) := Lib.hid
      ⟨hD.below al, blk_below (blk_below X0.out hb1) al, heap_alloc_new w1 _, (hT.below al).sl, Below.then_ (Below.then_ BW0.out hb1) al⟩
    have hv : ∀ x ∈ m, 1 ≤ x.2 := fun x hx => (hH.bag.val x hx).2.2
    have hs1 := hH.fits.sum
    have hroll := Lib.hid hH.fits.roll
    have HBt := Lib.hid (fun W x y h => ref10_Between W l A1 c1 m x y h hv hH.bag.sum)
    have hri := fits_right hH.fits hl
    have HOf := Lib.hid (fun W h hs => bins_Of W g K l k r F B cb es h (by omega) hs (by omega) hri)
    have HBd := Lib.hid (fun W h hs => bins_Bounds W g K l k r F B cb es h (by omega) hs (by omega) hri)
    have HRi := Lib.hid (fun W h => ref19_Right W l B cb es hl.1 hl.2 h (by omega))
    have HLo := Lib.hid (fun W y h => rank_Low W g K l k r F y h (by omega))
    have HN := Lib.hid (fun W h => digest_N W g K l k r F h)
    have HBh := Lib.hid (fun p => bin_holds hH hl hk p)
    clear hD hT hH hb1 al x0 xz X0 BW0 S0 HM hv hri
    unfold bagV at HBt ⊢
    go_upto_region 4 with fail
    obtain ⟨pb, hpb⟩ : ∃ pb, pb = w1.heap.size := ⟨_, rfl⟩
    rw [← hpb] at R2 ⊢
    generalize w1.alloc (.cells #[.int .i64 l, .slice A1 m.length c1] 31) = w2 at R2 ⊢
    clear hpb
    go_wp2_with fail
    refine (HOf.out w2 R2.out.d (HSe.out.keep R2.out.blw.size fun p hp => R2.out.blw.cell hp)).mono ?_
    rintro e w3 ⟨v2, rfl, ho2, hb3⟩
    have R3 := Lib.hid (R2.out.below hb3)
    obtain ⟨A2, c2, rfl, _⟩ := ho2.form
    have O3 := Lib.hid ho2
    clear hb3 R2 ho2
    go_wp2_with fail
    refine (HBd.out w3 R3.out.d (HSe.out.keep R3.out.blw.size fun p hp => R3.out.blw.cell hp)).mono ?_
    rintro e w4 ⟨v3, rfl, ho3, hb4⟩
    obtain ⟨A3, c3, rfl, _⟩ := ho3.form
    have R4 := Lib.hid (BinsW.mk (R3.out.below hb4) HSe.out (O3.out.below hb4) ho3)
    clear hb4 R3 ho3 O3
    have x4 := blk_cell R4.out.a.x
    have xz4 := lt_of_block R4.out.a.x
    cases he : rightE l (-1) es
    · have hbe : binErr l es = 8 := by unfold binErr; rw [he]; rfl
      have e1 : ofBins l r es = [] := by unfold ofBins; rw [hbe]; rfl
      have e2 : bdL l r es = [] := by unfold bdL; rw [hbe]; rfl
      rw [he] at HRi
      rw [e1, e2] at R4 ⊢
      rw [hbe]
      simp only [List.length_nil] at R4 ⊢
      clear he hbe e1 e2
      go_wp2_with fail
      refine (HRi.out w4 R4.out.edges).mono ?_
      rintro e w5 ⟨rfl, hb5⟩
      have R5 := Lib.hid (R4.out.below hb5)
      clear hb5 x4 xz4 R4
      go_wp2_with fail
      refine (alive19 _).mono ?_
      rintro e w6 ⟨rfl, hb6⟩
      have R6 := Lib.hid (R5.out.below hb6)
      go_wp2_with fail
      go_ret
      exact ⟨rfl, R6.out.a.blw⟩
    · have hbe : binErr l es = 0 := by unfold binErr; rw [he]; rfl
      have e1 : ofBins l r es = binsL l r es := by unfold ofBins; rw [hbe]; rfl
      have hv := Lib.hid (rightE_vals he)
      have HBL := Lib.hid (fun q (h : q < es.length + 1) => bdL_get (r := r) hbe h)
      have HRn := Lib.hid (fun W q h hq => ref19_Run W l B cb es q hl h (rightE_vals he) hq (by omega))
      have l1 := binsL_len l r es
      have l2 := bdL_length (r := r) hbe
      rw [he] at HRi
      rw [e1] at R4 ⊢
      rw [hbe]
      rw [l1, l2] at R4 ⊢
      push_cast
      clear he hbe e1
      go_wp2_with fail
      refine (HRi.out w4 R4.out.edges).mono ?_
      rintro e w5 ⟨rfl, hb5⟩
      have R5 := Lib.hid (R4.out.below hb5)
      have L1 := Lib.hid l1
      have L2 := Lib.hid l2
      clear hb5 x4 xz4 R4 l1 l2
      have hs0 := lowN_rng hroll.out es (r := r) (l := l)
      have HS0 := Lib.hid hs0
      have hnl : ((es.length : Int)) ≤ 30 := by omega
      clear hs0
      go_wp2_with fail
      go_loopw [11, 102] (fun s i wr => ∃ q : Nat, q ≤ es.length + 1 ∧ i = .int .i64 q ∧ s = .int .i64 (lowN l r es q) ∧ BinsW w g K l k r m F ops A cap pb A1 c1 es B A2 (es.length + 1) c2 (binsL l r es) A3 (es.length + 1) c3 (bdL l r es) w2.heap.size w3.heap.size wr) (fun _ i _ => es.length + 1 - (intOf i).toNat)
      case atStart => exact ⟨0, Nat.zero_le _, rfl, rfl, R5.out⟩
      case round =>
        obtain ⟨q, hq, rfl, rfl, hR⟩ := hrel
        have R := Lib.hid hR
        clear hR R5
        by_cases hlt : q < es.length + 1
        · have hqi : (q : Int) < (es.length : Int) + 1 := by omega
          have hq' : q ≤ es.length := by omega
          obtain ⟨b, off, rfl, hb, hc⟩ := R.out.o2.sl.at_ (k := q) (by rw [L1.out]; omega)
          have d0 := hc 0 (.int .i64 (binAt l r es q)) (by rw [binsL_at]; rfl)
          simp only [Nat.mul_one, Nat.add_zero] at d0
          have hBA : binAt l r es q = lowN l r es (q + 1) - lowN l r es q := rfl
          rw [hBA] at d0
          have t0 := HS0.out q
          have t1 := HS0.out (q + 1)
          have hsum : lowN l r es q + (lowN l r es (q + 1) - lowN l r es q) = lowN l r es (q + 1) := by omega
          have hLow : Hid (∀ h : q < es.length, lowN l r es (q + 1) = lowOf l r es[q]) := Lib.hid fun h => by simp only [lowN]; rw [dif_pos h]
          have hbq := HBL.out q hlt
          have hbh := HBh.out (runAt l es q)
          obtain ⟨bq, hbqe⟩ : ∃ bq, bq = bdOf l r (runAt l es q) := ⟨_, rfl⟩
          rw [← hbqe] at hbq hbh
          have HBe : Hid (∀ h : q < (bdL l r es).length, (bdL l r es)[q] = bq) := Lib.hid fun h => by
            have := List.getElem?_eq_getElem h
            rw [hbq] at this
            exact (Option.some.inj this).symm
          have HBq := Lib.hid (fun W h => HBt.out W (runAt l es q).1 (runAt l es q).2 h)
          obtain ⟨hbh1, hbh2⟩ := hbh
          generalize betwB m (runAt l es q).1 (runAt l es q).2 = nb at HBq hbh1 hbh2
          have HRq := Lib.hid (fun W h => HRn.out W q h hq')
          generalize (runAt l es q).1 = r1 at HBq HRq
          generalize (runAt l es q).2 = r2 at HBq HRq
          obtain ⟨sA, hsA⟩ : ∃ sA, sA = lowN l r es q := ⟨_, rfl⟩
          obtain ⟨sB, hsB⟩ : ∃ sB, sB = lowN l r es (q + 1) := ⟨_, rfl⟩
          rw [← hsA] at d0 t0 hsum ⊢
          rw [← hsB] at d0 t1 hsum hLow
          have hsBe := Lib.hid hsB
          clear hc hBA hbq hbqe hsA hsB
          by_cases hle : q < es.length
          · have hqe : (q : Int) < (es.length : Int) := by omega
            obtain ⟨be, offe, hBe2, hbe2, hce⟩ := R.out.edges.at_ hle
            subst hBe2
            have g0 := hce 0 (.int .i64 es[q]) rfl
            simp only [Nat.mul_one, Nat.add_zero] at g0
            have hLq := hLow.out hle
            have HLq := Lib.hid (fun W h => HLo.out W es[q] h)
            rw [← hLq] at HLq
            generalize es[q] = ev at g0 HLq
            clear hLq hLow hce
            go_wp2_with fail
            refine (HLq.out wr R.out.a.d).mono ?_
            rintro e w6 ⟨rfl, hb6⟩
            have R6 := Lib.hid (R.out.below hb6)
            clear hb6 R d0 g0 hb hbe2
            have x6 := blk_cell R6.out.a.x
            have xz6 := lt_of_block R6.out.a.x
            go_wp2_with fail
            refine (HRq.out w6 R6.out.edges).mono ?_
            rintro e w7 ⟨rfl, hb7⟩
            have R7 := Lib.hid (R6.out.below hb7)
            clear hb7 R6 x6 xz6
            have y7 := blk_cell R7.out.a.b
            have yz7 := lt_of_block R7.out.a.b
            obtain ⟨b3, off3, hA3, hb3, hc3⟩ := R7.out.o3.sl.at_ (k := q) (by rw [L2.out]; omega)
            subst hA3
            clear hc3 hb3
            go_wp2_with fail
            refine (HBq.out w7 R7.out.a.s).mono ?_
            rintro e w8 ⟨rfl, hb8⟩
            have R8 := Lib.hid (R7.out.below hb8)
            clear hb8 R7 y7 yz7
            have f0 := R8.out.o3.slT.cell_at (k := q) (by rw [L2.out]; omega) 0 (.int .i64 bq.1) (by rw [HBe.out (by rw [L2.out]; omega)]; rfl)
            have f1 := R8.out.o3.slT.cell_at (k := q) (by rw [L2.out]; omega) 1 (.int .i64 bq.2) (by rw [HBe.out (by rw [L2.out]; omega)]; rfl)
            have fz := (R8.out.o3.lt b3 rfl).2
            simp only [Nat.add_zero] at f0
            go_wp2_with fail
            go_roundw
            case rel => exact ⟨q + 1, by omega, by go_num, by rw [hsBe.out], R8.out⟩
            case measure => simp [intOf]; omega
          · have hqe : decide ((q : Int) < (es.length : Int)) = false := by simp; omega
            clear hLow
            have xr := blk_cell R.out.a.x
            have xzr := lt_of_block R.out.a.x
            go_wp2_with fail
            refine (HRq.out wr R.out.edges).mono ?_
            rintro e w7 ⟨rfl, hb7⟩
            have R7 := Lib.hid (R.out.below hb7)
            clear hb7 R xr xzr d0 hb
            have y7 := blk_cell R7.out.a.b
            have yz7 := lt_of_block R7.out.a.b
            obtain ⟨b3, off3, hA3, hb3, hc3⟩ := R7.out.o3.sl.at_ (k := q) (by rw [L2.out]; omega)
            subst hA3
            clear hc3 hb3
            go_wp2_with fail
            refine (HBq.out w7 R7.out.a.s).mono ?_
            rintro e w8 ⟨rfl, hb8⟩
            have R8 := Lib.hid (R7.out.below hb8)
            clear hb8 R7 y7 yz7
            have f0 := R8.out.o3.slT.cell_at (k := q) (by rw [L2.out]; omega) 0 (.int .i64 bq.1) (by rw [HBe.out (by rw [L2.out]; omega)]; rfl)
            have f1 := R8.out.o3.slT.cell_at (k := q) (by rw [L2.out]; omega) 1 (.int .i64 bq.2) (by rw [HBe.out (by rw [L2.out]; omega)]; rfl)
            have fz := (R8.out.o3.lt b3 rfl).2
            simp only [Nat.add_zero] at f0
            go_wp2_with fail
            go_roundw
            case rel => exact ⟨q + 1, by omega, by go_num, by rw [hsBe.out], R8.out⟩
            case measure => simp [intOf]; omega
        · obtain rfl : q = es.length + 1 := by omega
          have hqi : decide (((es.length : Int) + 1) < ((es.length : Int) + 1)) = false := by simp
          have e5 : lowN l r es (es.length + 1) = sumR r := by simp only [lowN]; rw [dif_neg (by omega)]
          rw [e5]
          push_cast
          clear e5
          go_wp2_with fail
          refine (HN.out wr R.out.a.d).mono ?_
          rintro e w6 ⟨rfl, hb6⟩
          have R6 := Lib.hid (R.out.below hb6)
          clear hb6 R
          go_wp2_with fail
          refine (alive19 _).mono ?_
          rintro e w7 ⟨rfl, hb7⟩
          have R7 := Lib.hid (R6.out.below hb7)
          go_wp2_with fail
          go_ret
          exact ⟨rfl, R7.out.a.blw⟩
theorem law_BinsHolds (l k K : Int) (ops : List Op3) (A : Option Addr) (cap : Nat) (es : List Int) (B : Option Addr) (cb : Nat) (W : World) (hS : Sl W W.heap.size encO A ops) (hI : intsO ops) (_ : i64 l) (_ : i64 k) (_ : i64 K) (hm : ops.length ≤ maxLen) (hSe : Sl W W.heap.size encZ B es) (hme : es.length ≤ maxLen) :
    Calls Tryz.prog 7 #[callsV l k K A ops.length cap, .slice B es.length cb] W fun e W' => e = .returned (.bool true) ∧ Below W.heap.size W W' := by
  by_cases h : ops.length ≤ 120 ∧ es.length ≤ 30 ∧ ¬ (K = 1 ∧ 10 < l)
  · cases hd : isDig l k K
    · exact law_BinsHolds_none l k K ops A cap es B cb W h hd
    · obtain ⟨n, m, rfl, rfl⟩ := isDig_nat hd
      exact law_BinsHolds_yes n m k ops A cap es B cb W h hd hS hI hSe
  · exact law_BinsHolds_big l k K ops A cap es B cb W h hm hme
end Go.Proofs.YtcjnchjmpkapmaaGreat
