/-
  Texts of this proof, one behind the other: GapEnds, GapHoldLaw, Gap, GapTurn, Beyond, GapRef, Bits, Ref20Sum, Ref20Mean, BoundSumsW, GapBoth, GapAt, GapParts, MemTwo, SortZ, GapIter, GapStops, GapApart, GapMost, GapMostY, GapHoldN, GapNil, GapNobodyW, GapHoldsB, GapHoldsW, OpenAsk2, GapHoldsL.
-/
import Derived.Lib.SlicesCompact
import Derived.Deep.RegionWith
import Derived.Deep.DeepCutAuto
import Derived.Test.YtcjnchjmpkapmaaGreatShelf
import Derived.Laws.IdiomArrays
import Derived.Test.YtcjnchjmpkapmaaGreatP3
import Derived.Test.YtcjnchjmpkapmaaGreatR4
import Derived.Test.YtcjnchjmpkapmaaGreatR5
import Derived.Test.YtcjnchjmpkapmaaGreatR6
import Derived.Test.YtcjnchjmpkapmaaGreatR7
import Derived.Test.YtcjnchjmpkapmaaGreatR8
import Derived.Test.YtcjnchjmpkapmaaGreatR9
import Derived.Test.YtcjnchjmpkapmaaGreatR10
import Derived.Test.YtcjnchjmpkapmaaGreatR11
import Derived.Test.YtcjnchjmpkapmaaGreatR13
/- Chapter 21: where something may change: plain laws. -/
set_option linter.unusedSimpArgs false namespace Go.Proofs.YtcjnchjmpkapmaaGreat
open Go.ChangeShapes Go.WideShapes Go.ChangeAt Go.RowKit
set_option linter.unusedVariables false

def edgeL (l : Int) (r : List Nd) : List Int := r.flatMap fun x => [(endsOf l x.1).1, (endsOf l x.1).2.1]
theorem edgeL_append (l : Int) (a b : List Nd) : edgeL l (a ++ b) = edgeL l a ++ edgeL l b := by simp [edgeL]
theorem edgeL_len (l : Int) (r : List Nd) : (edgeL l r).length = 2 * r.length := by
  induction r with
  | nil => rfl
  | cons x r ih => simp only [edgeL, List.flatMap_cons, List.length_append, List.length_cons, List.length_nil] at ih ⊢; omega
theorem edgeL_take (l : Int) (r : List Nd) {q : Nat} (h : q < r.length) : edgeL l (r.take (q + 1)) = edgeL l (r.take q) ++ [(endsOf l r[q].1).1, (endsOf l r[q].1).2.1] := by
  rw [List.take_succ_eq_append_getElem h, edgeL_append]
  simp [edgeL]
def gapE (l : Int) (a b : List Nd) : List Int := 0 :: edgeL l (a ++ b)
theorem gapE_len (l : Int) (a b : List Nd) : (gapE l a b).length = 2 * (a.length + b.length) + 1 := by simp only [gapE, List.length_cons, edgeL_len, List.length_append]
def Rising (L E : List Int) : Prop := L.Pairwise (· ≤ ·) ∧ (∀ x, x ∈ L ↔ x ∈ E)
theorem compact_mem (d : Array Int) (m : Nat) : ∀ j, j < m → d[j]! ∈ Lib.compactUpTo d m := by
  induction m with
  | zero => intro j hj; omega
  | succ m ih =>
    intro j hj
    rw [Lib.compactUpTo_succ]
    by_cases e : j = m
    · subst e
      by_cases k : Lib.keeps d j = true
      · rw [if_pos k]; simp
      · rw [if_neg k, List.append_nil]
        have k' : ¬ (j = 0 ∨ d[j]! ≠ d[j - 1]!) := by simpa [Lib.keeps] using k
        have h0 : j ≠ 0 := fun h => k' (.inl h)
        have h1 : d[j]! = d[j - 1]! := Decidable.not_not.1 fun h => k' (.inr h)
        rw [h1]
        exact ih _ (by omega)
    · exact List.mem_append_left _ (ih j (by omega))
theorem compact_sub (zs : List Int) : (Lib.compact zs).Sublist zs := by
  unfold Lib.compact Lib.compactUpTo
  have h := (List.filter_sublist (l := List.range zs.length) (p := Lib.keeps zs.toArray)).map (fun j => zs.toArray[j]!)
  have e := Lib.range_map_get zs.toArray
  simp only [List.size_toArray, List.toList_toArray] at e
  rwa [e] at h
theorem compact_rising (E : List Int) : Rising (Lib.compact (E.mergeSort fun x y => decide (x ≤ y))) E := by
  have hp : (E.mergeSort fun x y => decide (x ≤ y)).Pairwise (· ≤ ·) := by
    have := List.pairwise_mergeSort (le := fun (x y : Int) => decide (x ≤ y)) (fun a b c h1 h2 => by simp only [decide_eq_true_eq] at *; omega) (fun a b => by simp only [Bool.or_eq_true, decide_eq_true_eq]; omega) E
    exact this.imp fun h => by simpa using h
  refine ⟨hp.sublist (compact_sub _), fun x => ?_⟩
  rw [← List.mem_mergeSort (le := fun (x y : Int) => decide (x ≤ y)) (l := E)]
  generalize E.mergeSort (fun x y => decide (x ≤ y)) = zs
  constructor
  · exact fun h => (compact_sub _).subset h
  · intro h
    obtain ⟨j, hj, rfl⟩ := List.getElem_of_mem h
    have := compact_mem zs.toArray zs.length j hj
    rw [getElem!_pos _ _ (by simpa using hj)] at this
    simpa [Lib.compact] using this
theorem compact_len_le (E : List Int) : (Lib.compact (E.mergeSort fun x y => decide (x ≤ y))).length ≤ E.length := by
  have := (compact_sub (E.mergeSort fun x y => decide (x ≤ y))).length_le
  rwa [List.length_mergeSort] at this
theorem apFold_rising {f : Int → Int} {L E : List Int} (h : Rising L E) {r : Int × Int} (hr : apIs f L r) : r = apFold f E := apIs_unique h.2 hr (apFold_is f E)
theorem gapFold_rising {l d : Int} {a b : List Nd} {L E : List Int} (h : Rising L E) : gapFold l d a b L = gapFold l d a b E := gapFold_set h.2
end Go.Proofs.YtcjnchjmpkapmaaGreat
/- Chapter 21, GapHolds: of all that two digests accepted: plain law. -/
namespace Go.Proofs.YtcjnchjmpkapmaaGreat
open Go.ChangeShapes Go.WideShapes Go.ChangeAt Go.RowKit
set_option linter.unusedVariables false

theorem greatest_le : ∀ {E : List Int} {y : Int}, (∃ z ∈ E, z ≤ y) → ∃ e ∈ E, e ≤ y ∧ ∀ z ∈ E, z ≤ y → z ≤ e := by
  intro E y
  induction E with
  | nil => rintro ⟨z, hz, _⟩; simp at hz
  | cons a E ih =>
    intro h
    by_cases hE : ∃ z ∈ E, z ≤ y
    · obtain ⟨e, he, h1, h2⟩ := ih hE
      by_cases ha : a ≤ y ∧ e < a
      · refine ⟨a, by simp, ha.1, fun z hz hzy => ?_⟩
        rcases List.mem_cons.1 hz with rfl | hz
        · exact Int.le_refl _
        · have := h2 z hz hzy; omega
      · refine ⟨e, by simp [he], h1, fun z hz hzy => ?_⟩
        rcases List.mem_cons.1 hz with rfl | hz
        · omega
        · exact h2 z hz hzy
    · obtain ⟨z, hz, hzy⟩ := h
      rcases List.mem_cons.1 hz with rfl | hz
      · refine ⟨z, by simp, hzy, fun v hv hvy => ?_⟩
        rcases List.mem_cons.1 hv with rfl | hv
        · exact Int.le_refl _
        · exact absurd ⟨v, hv, hvy⟩ hE
      · exact absurd ⟨z, hz, hzy⟩ hE
theorem weighR_same {l : Int} {f g : Int → Int → Bool} {r : List Nd} (h : ∀ x ∈ r, f (endsOf l x.1).1 (endsOf l x.1).2.1 = g (endsOf l x.1).1 (endsOf l x.1).2.1) : weighR l f r = weighR l g r := by
  induction r with
  | nil => rfl
  | cons x r ih => simp only [weighR, h x (by simp), ih fun y hy => h y (by simp [hy])]
theorem betwB_same {m : List Nd} (h : ∀ x ∈ m, 1 ≤ x.2) {y y' : Int} (hm : ∀ z ∈ m, z.1 ≤ y ↔ z.1 ≤ y') : betwB m 0 y = betwB m 0 y' := by
  clear h
  induction m with
  | nil => rfl
  | cons x m ih =>
    have h1 := hm x (by simp)
    simp only [betwB, ih fun z hz => hm z (by simp [hz]), h1]
theorem mem_edgeL {l : Int} {r : List Nd} {x : Nd} (hx : x ∈ r) : (endsOf l x.1).1 ∈ edgeL l r ∧ (endsOf l x.1).2.1 ∈ edgeL l r := by
  unfold edgeL
  exact ⟨List.mem_flatMap.2 ⟨x, hx, by simp⟩, List.mem_flatMap.2 ⟨x, hx, by simp⟩⟩
theorem gap_edge (l : Int) (a b : List Nd) {y : Int} (hy : 0 ≤ y) : ∃ e ∈ gapE l a b, lowOf l a y = lowOf l a e ∧ highOf l a y = highOf l a e ∧ lowOf l b y = lowOf l b e ∧ highOf l b y = highOf l b e := by
  obtain ⟨e, he, h1, h2⟩ := greatest_le (E := gapE l a b) (y := y) ⟨0, by simp [gapE], hy⟩
  have key : ∀ z ∈ gapE l a b, (z ≤ y ↔ z ≤ e) := fun z hz => ⟨h2 z hz, fun h => by omega⟩
  have ka : ∀ x ∈ a, ((endsOf l x.1).1 ≤ y ↔ (endsOf l x.1).1 ≤ e) ∧ ((endsOf l x.1).2.1 ≤ y ↔ (endsOf l x.1).2.1 ≤ e) := fun x hx => by
    have := mem_edgeL (l := l) (List.mem_append_left b hx)
    exact ⟨key _ (by simp [gapE, this.1]), key _ (by simp [gapE, this.2])⟩
  have kb : ∀ x ∈ b, ((endsOf l x.1).1 ≤ y ↔ (endsOf l x.1).1 ≤ e) ∧ ((endsOf l x.1).2.1 ≤ y ↔ (endsOf l x.1).2.1 ≤ e) := fun x hx => by
    have := mem_edgeL (l := l) (List.mem_append_right a hx)
    exact ⟨key _ (by simp [gapE, this.1]), key _ (by simp [gapE, this.2])⟩
  refine ⟨e, he, ?_, ?_, ?_, ?_⟩
  · exact weighR_same fun x hx => decide_eq_decide.2 (ka x hx).2
  · exact weighR_same fun x hx => decide_eq_decide.2 (ka x hx).1
  · exact weighR_same fun x hx => decide_eq_decide.2 (kb x hx).2
  · exact weighR_same fun x hx => decide_eq_decide.2 (kb x hx).1
theorem down_mul {n d x : Int} (hn : 1 ≤ n) (hd : 0 ≤ d) (hx : 0 ≤ x) : n * downV n d x ≤ x * d ∧ 0 ≤ downV n d x := by
  unfold downV
  obtain ⟨n, rfl⟩ := Int.eq_ofNat_of_zero_le (show 0 ≤ n by omega)
  obtain ⟨d, rfl⟩ := Int.eq_ofNat_of_zero_le hd
  obtain ⟨x, rfl⟩ := Int.eq_ofNat_of_zero_le hx
  simp only [Int.toNat_natCast]
  refine ⟨?_, Int.natCast_nonneg _⟩
  have := Nat.mul_div_le (x * d) n
  exact_mod_cast this
theorem up_mul {n d x : Int} (hn : 1 ≤ n) (hd : 0 ≤ d) (hx : 0 ≤ x) : x * d ≤ n * upP n d x ∧ 0 ≤ upP n d x := by
  unfold upP upV
  obtain ⟨n, rfl⟩ := Int.eq_ofNat_of_zero_le (show 0 ≤ n by omega)
  obtain ⟨d, rfl⟩ := Int.eq_ofNat_of_zero_le hd
  obtain ⟨x, rfl⟩ := Int.eq_ofNat_of_zero_le hx
  simp only [Int.toNat_natCast]
  refine ⟨?_, Int.natCast_nonneg _⟩
  have e := Nat.div_add_mod (x * d) n
  have l := Nat.mod_lt (x * d) (show 0 < n by omega)
  have : x * d ≤ n * (x * d / n + if x * d % n = 0 then 0 else 1) := by
    by_cases h : x * d % n = 0
    · rw [if_pos h, Nat.add_zero]; rw [h] at e; omega
    · rw [if_neg h, Nat.mul_add]; omega
  exact_mod_cast this
theorem share_step {p m q n d u v : Int} (hm : 1 ≤ m) (hn : 1 ≤ n) (h1 : p * d ≤ m * u) (h2 : n * v ≤ q * d) : p * n * d ≤ q * m * d + m * n * (u - v) := by
  have e1 : p * n * d ≤ m * u * n := by
    have := Int.mul_le_mul_of_nonneg_right h1 (show 0 ≤ n by omega)
    have e : p * n * d = p * d * n := by rw [Int.mul_assoc, Int.mul_comm n d, ← Int.mul_assoc]
    omega
  have e2 : n * v * m ≤ q * m * d := by
    have := Int.mul_le_mul_of_nonneg_right h2 (show 0 ≤ m by omega)
    have e : q * m * d = q * d * m := by rw [Int.mul_assoc, Int.mul_comm m d, ← Int.mul_assoc]
    omega
  have e3 : m * n * (u - v) = m * u * n - n * v * m := by
    rw [Int.mul_sub]
    congr 1
    · rw [Int.mul_assoc, Int.mul_comm n u, ← Int.mul_assoc]
    · rw [Int.mul_comm m n, Int.mul_assoc, Int.mul_comm m v, ← Int.mul_assoc]
  omega
section
variable {l : Nat} {ka kb : Int} {ra ma rb mb : List Nd}
def beyondV (p m q n d t : Int) : Prop := q * m * d + m * n * t < p * n * d ∨ p * n * d + m * n * t < q * m * d
theorem Held.rank0 {k : Int} {r m : List Nd} (h : Held l k r m) (hl : 1 ≤ l ∧ l ≤ 48) (hk : 1 ≤ k) (y : Int) : 0 ≤ lowOf l r y ∧ lowOf l r y ≤ betwB m 0 y ∧ betwB m 0 y ≤ highOf l r y := by
  have h1 := h.rank hl hk y
  refine ⟨?_, h1.1, h1.2.1⟩
  have := weighR_mono (l := l) (f := fun _ _ => false) (g := fun _ hi => decide (hi ≤ y)) h.fits.roll (fun x _ hx => by simp at hx)
  rw [weighR_none (f := fun _ _ => false) (fun x _ => rfl)] at this
  exact this
theorem gap_within (ha : Held l ka ra ma) (hb : Held l kb rb mb) (hl : 1 ≤ l ∧ l ≤ 48) (h1 : 1 ≤ ka) (h2 : 1 ≤ kb) (hna : 1 ≤ sumR ma) (hnb : 1 ≤ sumR mb) {d : Int} (hd : 1 ≤ d) (y : Int) :
    ¬ beyondV (betwB ma 0 y) (sumR ma) (betwB mb 0 y) (sumR mb) d (gapFold l d ra rb (gapE l ra rb)).2 := by
  obtain ⟨_, hF⟩ := gapFold_le l d ra rb (gapE l ra rb) 0 (gapFold l d ra rb (gapE l ra rb)).2
  have hF := hF.1 (Int.le_refl _)
  generalize (gapFold l d ra rb (gapE l ra rb)).2 = H at hF ⊢
  obtain ⟨hF0, hF⟩ := hF
  have esa := ha.sum
  have esb := hb.sum
  have hmn : 0 ≤ sumR ma * sumR mb := Int.mul_nonneg (by omega) (by omega)
  have hT0 : 0 ≤ sumR ma * sumR mb * H := Int.mul_nonneg hmn hF0
  unfold beyondV
  by_cases hy : 0 ≤ y
  · obtain ⟨e, he, e1, e2, e3, e4⟩ := gap_edge l ra rb hy
    have hE := hF e he
    have pa := ha.rank0 hl h1 y
    have pb := hb.rank0 hl h2 y
    simp only [gapStep] at hE
    rw [e1, e2] at pa
    rw [e3, e4] at pb
    rw [esa, esb] at hE
    have ua := up_mul (n := sumR ma) (d := d) (x := highOf l ra e) hna (by omega) (by omega)
    have ub := up_mul (n := sumR mb) (d := d) (x := highOf l rb e) hnb (by omega) (by omega)
    have da := down_mul (n := sumR ma) (d := d) (x := lowOf l ra e) hna (by omega) (by omega)
    have db := down_mul (n := sumR mb) (d := d) (x := lowOf l rb e) hnb (by omega) (by omega)
    generalize upP (sumR ma) d (highOf l ra e) = uA at ua hE
    generalize upP (sumR mb) d (highOf l rb e) = uB at ub hE
    generalize downV (sumR ma) d (lowOf l ra e) = dA at da hE
    generalize downV (sumR mb) d (lowOf l rb e) = dB at db hE
    have m1 := Int.mul_le_mul_of_nonneg_right pa.2.2 (show 0 ≤ d by omega)
    have m2 := Int.mul_le_mul_of_nonneg_right pb.2.2 (show 0 ≤ d by omega)
    have m3 := Int.mul_le_mul_of_nonneg_right pa.2.1 (show 0 ≤ d by omega)
    have m4 := Int.mul_le_mul_of_nonneg_right pb.2.1 (show 0 ≤ d by omega)
    have s1 := share_step (p := betwB ma 0 y) (q := betwB mb 0 y) (d := d) (u := uA) (v := dB) hna hnb (by omega) (by omega)
    have s2 := share_step (p := betwB mb 0 y) (q := betwB ma 0 y) (d := d) (u := uB) (v := dA) hnb hna (by omega) (by omega)
    have t1 := Int.mul_le_mul_of_nonneg_left (show uA - dB ≤ H by omega) hmn
    have t2 := Int.mul_le_mul_of_nonneg_left (show uB - dA ≤ H by omega) hmn
    rw [Int.mul_comm (sumR mb) (sumR ma)] at s2
    omega
  · have z1 : betwB ma 0 y = 0 := betwB_none fun z hz => by omega
    have z2 : betwB mb 0 y = 0 := betwB_none fun z hz => by omega
    rw [z1, z2]
    simp only [Int.zero_mul, Int.zero_add]
    omega
theorem gap_reached (ha : Held l ka ra ma) (hb : Held l kb rb mb) (hl : 1 ≤ l ∧ l ≤ 48) (h1 : 1 ≤ ka) (h2 : 1 ≤ kb) (hna : 1 ≤ sumR ma) (hnb : 1 ≤ sumR mb) {d : Int} (hd : 1 ≤ d) (h0 : (gapFold l d ra rb (gapE l ra rb)).1 ≠ 0) :
    1 ≤ (gapFold l d ra rb (gapE l ra rb)).1 ∧ ∃ z ∈ ma ++ mb, beyondV (betwB ma 0 z.1) (sumR ma) (betwB mb 0 z.1) (sumR mb) d ((gapFold l d ra rb (gapE l ra rb)).1 - 1) := by
  have hG : ∀ z, ((gapFold l d ra rb (gapE l ra rb)).1 ≤ z ↔ 0 ≤ z ∧ ∀ x ∈ gapE l ra rb, (gapStep l d ra rb (0, 0) x).1 ≤ z) := fun z => (gapFold_le l d ra rb (gapE l ra rb) z 0).1
  generalize (gapFold l d ra rb (gapE l ra rb)).1 = L at hG h0 ⊢
  have hL : 1 ≤ L := by
    have := ((hG L).1 (Int.le_refl _)).1
    omega
  refine ⟨hL, ?_⟩
  obtain ⟨e, he, hE⟩ : ∃ e ∈ gapE l ra rb, L ≤ (gapStep l d ra rb (0, 0) e).1 := by
    refine Classical.byContradiction fun hn => ?_
    have := (hG (L - 1)).2 ⟨by omega, fun x hx => Int.not_lt.1 fun hlt => hn ⟨x, hx, by omega⟩⟩
    omega
  have esa := ha.sum
  have esb := hb.sum
  have pa := ha.rank0 hl h1 e
  have pb := hb.rank0 hl h2 e
  simp only [gapStep] at hE
  rw [esa, esb] at hE
  have ua := up_mul (n := sumR ma) (d := d) (x := highOf l ra e) hna (by omega) (by omega)
  have ub := up_mul (n := sumR mb) (d := d) (x := highOf l rb e) hnb (by omega) (by omega)
  have da := down_mul (n := sumR ma) (d := d) (x := lowOf l ra e) hna (by omega) (by omega)
  have db := down_mul (n := sumR mb) (d := d) (x := lowOf l rb e) hnb (by omega) (by omega)
  generalize upP (sumR ma) d (highOf l ra e) = uA at ua hE
  generalize upP (sumR mb) d (highOf l rb e) = uB at ub hE
  generalize downV (sumR ma) d (lowOf l ra e) = dA at da hE
  generalize downV (sumR mb) d (lowOf l rb e) = dB at db hE
  have m1 := Int.mul_le_mul_of_nonneg_right pa.2.2 (show 0 ≤ d by omega)
  have m2 := Int.mul_le_mul_of_nonneg_right pb.2.2 (show 0 ≤ d by omega)
  have m3 := Int.mul_le_mul_of_nonneg_right pa.2.1 (show 0 ≤ d by omega)
  have m4 := Int.mul_le_mul_of_nonneg_right pb.2.1 (show 0 ≤ d by omega)
  have hmn1 : 1 ≤ sumR ma * sumR mb := by
    have := Int.mul_le_mul hna hnb (by omega) (show 0 ≤ sumR ma by omega)
    omega
  have hmn : 0 ≤ sumR ma * sumR mb := by omega
  have hB : beyondV (betwB ma 0 e) (sumR ma) (betwB mb 0 e) (sumR mb) d (L - 1) := by
    unfold beyondV
    have ex : sumR ma * sumR mb * (L - 1) = sumR ma * sumR mb * L - sumR ma * sumR mb := by rw [Int.mul_sub, Int.mul_one]
    have s1 := share_step (p := betwB mb 0 e) (q := betwB ma 0 e) (d := d) (u := uB) (v := dA) hnb hna (by omega) (by omega)
    have s2 := share_step (p := betwB ma 0 e) (q := betwB mb 0 e) (d := d) (u := uA) (v := dB) hna hnb (by omega) (by omega)
    rw [Int.mul_comm (sumR mb) (sumR ma)] at s1
    have c : L ≤ dA - uB ∨ L ≤ dB - uA := by omega
    rcases c with c | c
    · left
      have t := Int.mul_le_mul_of_nonneg_left (show uB - dA ≤ - L by omega) hmn
      rw [Int.mul_neg] at t
      omega
    · right
      have t := Int.mul_le_mul_of_nonneg_left (show uA - dB ≤ - L by omega) hmn
      rw [Int.mul_neg] at t
      omega
  by_cases hz : ∃ z ∈ (ma ++ mb).map (·.1), z ≤ e
  · obtain ⟨z, hz, z1, z2⟩ := greatest_le hz
    obtain ⟨x, hx, rfl⟩ := List.mem_map.1 hz
    refine ⟨x, hx, ?_⟩
    have kk : ∀ u ∈ ma ++ mb, (u.1 ≤ e ↔ u.1 ≤ x.1) := fun u hu => ⟨z2 _ (List.mem_map.2 ⟨u, hu, rfl⟩), fun h => by omega⟩
    rw [← betwB_same (m := ma) (fun u hu => (ha.bag.val u hu).2.2) (fun u hu => kk u (List.mem_append_left _ hu)), ← betwB_same (m := mb) (fun u hu => (hb.bag.val u hu).2.2) (fun u hu => kk u (List.mem_append_right _ hu))]
    exact hB
  · exfalso
    have z1 : betwB ma 0 e = 0 := betwB_none fun z hm => Classical.byContradiction fun hn => hz ⟨z.1, List.mem_map.2 ⟨z, List.mem_append_left _ hm, rfl⟩, by omega⟩
    have z2 : betwB mb 0 e = 0 := betwB_none fun z hm => Classical.byContradiction fun hn => hz ⟨z.1, List.mem_map.2 ⟨z, List.mem_append_right _ hm, rfl⟩, by omega⟩
    rw [z1, z2] at hB
    have t := Int.mul_nonneg hmn (show 0 ≤ L - 1 by omega)
    unfold beyondV at hB
    simp only [Int.zero_mul, Int.zero_add] at hB
    omega
theorem gap_sure (ha : Held l ka ra ma) (hb : Held l kb rb mb) (hl : 1 ≤ l ∧ l ≤ 48) (h1 : 1 ≤ ka) (h2 : 1 ≤ kb) (hna : 1 ≤ sumR ma) (hnb : 1 ≤ sumR mb) (y : Int) :
    (sideOf l ra rb y = 1 ∧ betwB mb 0 y * sumR ma < betwB ma 0 y * sumR mb) ∨ (sideOf l ra rb y = -1 ∧ betwB ma 0 y * sumR mb < betwB mb 0 y * sumR ma) ∨ sideOf l ra rb y = 0 := by
  have pa := ha.rank0 hl h1 y
  have pb := hb.rank0 hl h2 y
  unfold sideOf sideV
  rw [ha.sum, hb.sum]
  have m1 := Int.mul_le_mul_of_nonneg_right pa.2.1 (show 0 ≤ sumR mb by omega)
  have m2 := Int.mul_le_mul_of_nonneg_right pa.2.2 (show 0 ≤ sumR mb by omega)
  have m3 := Int.mul_le_mul_of_nonneg_right pb.2.1 (show 0 ≤ sumR ma by omega)
  have m4 := Int.mul_le_mul_of_nonneg_right pb.2.2 (show 0 ≤ sumR ma by omega)
  split
  · left; exact ⟨rfl, by omega⟩
  · split
    · right; left; exact ⟨rfl, by omega⟩
    · right; right; rfl
end
end Go.Proofs.YtcjnchjmpkapmaaGreat
/- Package gap: less, wrong, side, Side. -/
namespace Go.Proofs.YtcjnchjmpkapmaaGreat
open Go.ChangeShapes Go.WideShapes Go.ChangeAt Go.RowKit
set_option linter.unusedVariables false
set_option maxRecDepth 100000

theorem gap_less (w : World) (a b c d : Nat) (ha : a ≤ 9223372036854775807) (hb : b ≤ 9223372036854775807) (hc : c ≤ 9223372036854775807) (hd : d ≤ 9223372036854775807) :
    Calls Tryz.prog 251 #[.int .i64 a, .int .i64 b, .int .i64 c, .int .i64 d] w fun e w' => e = .returned (.bool (decide (a * d < c * b))) ∧ Below w.heap.size w w' := by
  have HO := Lib.hid (reckon_Order · a d c b ha hd hc hb)
  have e : decide (a * d < c * b) = decide (ordV a d c b < 0) := by unfold ordV; rw [decide_eq_decide]; exact (cmpV_lt _ _).symm
  rw [e]
  generalize ordV a d c b = o at HO
  clear e
  go_enter Tryz.func251, Tryz.ntmps251
  go_wp2_with fail
  refine (HO.out _).mono ?_
  rintro e w1 ⟨rfl, hb1⟩
  have B1 : Below w.heap.size w w1 := Below.then_ (by repeat (first | with_reducible exact Below.refl _ _ | with_reducible assumption | ((with_reducible refine Below.setCell ?_ ?_ _); rotate_left; · (first | omega | exact Nat.le_refl _ | (simp <;> omega))) | (with_reducible refine Below.allocW ?_ _) | (with_reducible refine Below.drew ?_) | (with_reducible refine Below.extW ?_ _))) hb1
  have s1 : w.heap.size ≤ w1.heap.size := B1.size
  go_wp2_with fail
  go_ret
  exact ⟨rfl, B1⟩
def gapErr (l m : Int) (a b : List Nd) : Int := if l ≠ m then 6 else if sumR a = 0 ∨ sumR b = 0 then 7 else 0
def sideN (n m pl ph ql qh : Nat) : Int := if qh * n < pl * m then 1 else if ph * m < ql * n then -1 else 0
set_option maxHeartbeats 1000000 in
theorem gap_side (w : World) (x : Int) {L1 B1 g1 L2 B2 g2 : Nat} {lt1 ft1 lt2 ft2 : List Nd} (n m pl ph ql qh : Nat) (h1 : TabAt w L1 B1 g1 n lt1 ft1) (h2 : TabAt w L2 B2 g2 m lt2 ft2) (b1 : B1 ≤ w.heap.size) (b2 : B2 ≤ w.heap.size)
    (m1 : lt1.length ≤ 67108864) (r1 : lt1.Pairwise fun a b => a.1 < b.1) (m1' : ft1.length ≤ 67108864) (r1' : ft1.Pairwise fun a b => a.1 < b.1) (m2 : lt2.length ≤ 67108864) (r2 : lt2.Pairwise fun a b => a.1 < b.1) (m2' : ft2.length ≤ 67108864) (r2' : ft2.Pairwise fun a b => a.1 < b.1)
    (e1 : upT lt1 x = pl) (e2 : upT ft1 x = ph) (e3 : upT lt2 x = ql) (e4 : upT ft2 x = qh) (k1 : n ≤ 9223372036854775807) (k2 : m ≤ 9223372036854775807) (k3 : pl ≤ 9223372036854775807) (k4 : ph ≤ 9223372036854775807) (k5 : ql ≤ 9223372036854775807) (k6 : qh ≤ 9223372036854775807) :
    Calls Tryz.prog 159 #[.pointer (some ⟨g1, 0, none⟩), .pointer (some ⟨g2, 0, none⟩), .int .i64 x] w fun e w' => e = .returned (.int .i64 (sideN n m pl ph ql qh)) ∧ Below w.heap.size w w' := by
  have HB1 := Lib.hid (fun W (h : TabAt W L1 B1 g1 n lt1 ft1) (hb : B1 ≤ W.heap.size) => table_Both x h hb m1 r1 m1' r1')
  have HB2 := Lib.hid (fun W (h : TabAt W L2 B2 g2 m lt2 ft2) (hb : B2 ≤ W.heap.size) => table_Both x h hb m2 r2 m2' r2')
  rw [e1, e2] at HB1
  rw [e3, e4] at HB2
  have T1 := Lib.hid h1
  have T2 := Lib.hid h2
  have HL1 := Lib.hid (fun W => gap_less W qh m pl n k6 k2 k3 k1)
  have HL2 := Lib.hid (fun W => gap_less W ph n ql m k4 k1 k5 k2)
  clear h1 h2 r1 r2 r1' r2' e1 e2 e3 e4
  have hcase : (decide (qh * n < pl * m) = true ∧ sideN n m pl ph ql qh = 1) ∨ (decide (qh * n < pl * m) = false ∧ decide (ph * m < ql * n) = true ∧ sideN n m pl ph ql qh = -1) ∨ (decide (qh * n < pl * m) = false ∧ decide (ph * m < ql * n) = false ∧ sideN n m pl ph ql qh = 0) := by
    unfold sideN
    by_cases d1 : qh * n < pl * m
    · exact .inl ⟨by simpa using d1, by rw [if_pos d1]⟩
    · by_cases d2 : ph * m < ql * n
      · exact .inr (.inl ⟨by simpa using d1, by simpa using d2, by rw [if_neg d1, if_pos d2]⟩)
      · exact .inr (.inr ⟨by simpa using d1, by simpa using d2, by rw [if_neg d1, if_neg d2]⟩)
  rcases hcase with ⟨f1, f3⟩ | ⟨f1, f2, f3⟩ | ⟨f1, f2, f3⟩
  all_goals (
    rw [f1] at HL1
    (try rw [f2] at HL2)
    rw [f3]
    clear f1 f3
    (try clear f2)
    go_enter Tryz.func159, Tryz.ntmps159
    go_wp2_with fail
    refine (HB1.out _ T1.out b1).mono ?_
    rintro e w1 ⟨rfl, hb1⟩
    have s1 := hb1.size
    have U1 := Lib.hid (T1.out.below (hb1.mono b1))
    have U2 := Lib.hid (T2.out.below (hb1.mono b2))
    have BB1 := Lib.hid hb1
    clear hb1
    go_wp2_with fail
    refine (HB2.out _ U2.out (by omega)).mono ?_
    rintro e w2 ⟨rfl, hb2⟩
    have s2 := hb2.size
    have V1 := Lib.hid (U1.out.below (hb2.mono (by omega)))
    have V2 := Lib.hid (U2.out.below (hb2.mono (by omega)))
    have BB2 := Lib.hid (BB1.out.trans (hb2.mono s1))
    clear hb2
    go_wp2_with fail
    have BA : Below w2.heap.size w2 ((w2.alloc (.cells #[.int .i64 pl, .int .i64 ph] 57)).alloc (.cells #[.int .i64 ql, .int .i64 qh] 57)) := ((Below.refl _ _).alloc (Nat.le_refl _) _).alloc (by simp) _
    have P3 : Hid (bothAt ((w2.alloc (.cells #[.int .i64 pl, .int .i64 ph] 57)).alloc (.cells #[.int .i64 ql, .int .i64 qh] 57)) w2.heap.size pl ph) := Lib.hid ((bothAt.new w2 pl ph).alloc _)
    have Q3 : Hid (bothAt ((w2.alloc (.cells #[.int .i64 pl, .int .i64 ph] 57)).alloc (.cells #[.int .i64 ql, .int .i64 qh] 57)) (w2.heap.size + 1) ql qh) := Lib.hid (heap_new_at _ _ (w2.heap.size + 1) (by simp))
    have BB3 := Lib.hid (BB2.out.trans (BA.mono (Nat.le_trans s1 s2)))
    have s3 := BA.size
    have T3 : Hid (TabAt ((w2.alloc (.cells #[.int .i64 pl, .int .i64 ph] 57)).alloc (.cells #[.int .i64 ql, .int .i64 qh] 57)) L1 B1 g1 n lt1 ft1 ∧ TabAt ((w2.alloc (.cells #[.int .i64 pl, .int .i64 ph] 57)).alloc (.cells #[.int .i64 ql, .int .i64 qh] 57)) L2 B2 g2 m lt2 ft2 ∧ B1 ≤ ((w2.alloc (.cells #[.int .i64 pl, .int .i64 ph] 57)).alloc (.cells #[.int .i64 ql, .int .i64 qh] 57)).heap.size ∧ B2 ≤ ((w2.alloc (.cells #[.int .i64 pl, .int .i64 ph] 57)).alloc (.cells #[.int .i64 ql, .int .i64 qh] 57)).heap.size) := Lib.hid ⟨V1.out.below (BA.mono (by omega)), V2.out.below (BA.mono (by omega)), by omega, by omega⟩
    clear BA
    generalize (w2.alloc (.cells #[.int .i64 pl, .int .i64 ph] 57)).alloc (.cells #[.int .i64 ql, .int .i64 qh] 57) = W3 at P3 Q3 BB3 s3 T3 ⊢
    have cp := blk_cell P3.out
    have cq := blk_cell Q3.out
    have zp := lt_of_block P3.out
    have zq := lt_of_block Q3.out)
  · refine wp_region_ext (by kernel_rfl) (by kernel_rfl) ?_
    repeat (go_big_quiet_step (first
      | (go_at_call_of 20 (Value.pointer (some ⟨g1, 0, none⟩)); exact quiet_ext (table_N (T3.out.1.below ((ext_below _ _).mono T3.out.2.2.1))))
      | (go_at_call_of 20 (Value.pointer (some ⟨g2, 0, none⟩)); exact quiet_ext (table_N (T3.out.2.1.below ((ext_below _ _).mono T3.out.2.2.2))))
      | (go_at_call 251; exact quiet_ext (HL1.out _))))
    have BX := BB3.out
    refine wpQuiet_nil ?_
    intro w4 hb4
    replace hb4 := below_of_ext hb4
    have B4 : Below w.heap.size w w4 := Below.then_ (by repeat (first | with_reducible exact Below.refl _ _ | with_reducible assumption | ((with_reducible refine Below.setCell ?_ ?_ _); rotate_left; · (first | omega | exact Nat.le_refl _ | (simp <;> omega))) | (with_reducible refine Below.allocW ?_ _) | (with_reducible refine Below.drew ?_) | (with_reducible refine Below.extW ?_ _))) hb4
    have s4 : w.heap.size ≤ w4.heap.size := B4.size
    go_wp2_with fail
    go_ret
    exact ⟨rfl, BB3.out.trans (hb4.mono BB3.out.size)⟩
  · refine wp_region_ext (by kernel_rfl) (by kernel_rfl) ?_
    repeat (go_big_quiet_step (first
      | (go_at_call_of 20 (Value.pointer (some ⟨g1, 0, none⟩)); exact quiet_ext (table_N (T3.out.1.below ((ext_below _ _).mono T3.out.2.2.1))))
      | (go_at_call_of 20 (Value.pointer (some ⟨g2, 0, none⟩)); exact quiet_ext (table_N (T3.out.2.1.below ((ext_below _ _).mono T3.out.2.2.2))))
      | (go_at_call 251; exact quiet_ext (HL1.out _))))
    have BX := BB3.out
    refine wpQuiet_nil ?_
    intro w4 hb4
    replace hb4 := below_of_ext hb4
    have B4 : Below w.heap.size w w4 := Below.then_ (by repeat (first | with_reducible exact Below.refl _ _ | with_reducible assumption | ((with_reducible refine Below.setCell ?_ ?_ _); rotate_left; · (first | omega | exact Nat.le_refl _ | (simp <;> omega))) | (with_reducible refine Below.allocW ?_ _) | (with_reducible refine Below.drew ?_) | (with_reducible refine Below.extW ?_ _))) hb4
    have s4 : w.heap.size ≤ w4.heap.size := B4.size
    have P4 := Lib.hid (P3.out.below hb4)
    have Q4 := Lib.hid (Q3.out.below hb4)
    have BB4 := Lib.hid (BB3.out.trans (hb4.mono BB3.out.size))
    have s4' := hb4.size
    have T4 : Hid (TabAt w4 L1 B1 g1 n lt1 ft1 ∧ TabAt w4 L2 B2 g2 m lt2 ft2 ∧ B1 ≤ w4.heap.size ∧ B2 ≤ w4.heap.size) := Lib.hid ⟨T3.out.1.below (hb4.mono T3.out.2.2.1), T3.out.2.1.below (hb4.mono T3.out.2.2.2), Nat.le_trans T3.out.2.2.1 s4', Nat.le_trans T3.out.2.2.2 s4'⟩
    clear cp cq zp zq
    have cp := blk_cell P4.out
    have cq := blk_cell Q4.out
    have zp := lt_of_block P4.out
    have zq := lt_of_block Q4.out
    go_wp2_with fail
    refine wp_region_ext (by kernel_rfl) (by kernel_rfl) ?_
    repeat (go_big_quiet_step (first
      | (go_at_call_of 20 (Value.pointer (some ⟨g1, 0, none⟩)); exact quiet_ext (table_N (T4.out.1.below ((ext_below _ _).mono T4.out.2.2.1))))
      | (go_at_call_of 20 (Value.pointer (some ⟨g2, 0, none⟩)); exact quiet_ext (table_N (T4.out.2.1.below ((ext_below _ _).mono T4.out.2.2.2))))
      | (go_at_call 251; exact quiet_ext (HL2.out _))))
    have BY := BB4.out
    refine wpQuiet_nil ?_
    intro w5 hb5
    replace hb5 := below_of_ext hb5
    have B5 : Below w.heap.size w w5 := Below.then_ (by repeat (first | with_reducible exact Below.refl _ _ | with_reducible assumption | ((with_reducible refine Below.setCell ?_ ?_ _); rotate_left; · (first | omega | exact Nat.le_refl _ | (simp <;> omega))) | (with_reducible refine Below.allocW ?_ _) | (with_reducible refine Below.drew ?_) | (with_reducible refine Below.extW ?_ _))) hb5
    have s5 : w.heap.size ≤ w5.heap.size := B5.size
    go_wp2_with fail
    go_ret
    exact ⟨rfl, BB4.out.trans (hb5.mono BB4.out.size)⟩
  · refine wp_region_ext (by kernel_rfl) (by kernel_rfl) ?_
    repeat (go_big_quiet_step (first
      | (go_at_call_of 20 (Value.pointer (some ⟨g1, 0, none⟩)); exact quiet_ext (table_N (T3.out.1.below ((ext_below _ _).mono T3.out.2.2.1))))
      | (go_at_call_of 20 (Value.pointer (some ⟨g2, 0, none⟩)); exact quiet_ext (table_N (T3.out.2.1.below ((ext_below _ _).mono T3.out.2.2.2))))
      | (go_at_call 251; exact quiet_ext (HL1.out _))))
    have BX := BB3.out
    refine wpQuiet_nil ?_
    intro w4 hb4
    replace hb4 := below_of_ext hb4
    have B4 : Below w.heap.size w w4 := Below.then_ (by repeat (first | with_reducible exact Below.refl _ _ | with_reducible assumption | ((with_reducible refine Below.setCell ?_ ?_ _); rotate_left; · (first | omega | exact Nat.le_refl _ | (simp <;> omega))) | (with_reducible refine Below.allocW ?_ _) | (with_reducible refine Below.drew ?_) | (with_reducible refine Below.extW ?_ _))) hb4
    have s4 : w.heap.size ≤ w4.heap.size := B4.size
    have P4 := Lib.hid (P3.out.below hb4)
    have Q4 := Lib.hid (Q3.out.below hb4)
    have BB4 := Lib.hid (BB3.out.trans (hb4.mono BB3.out.size))
    have s4' := hb4.size
    have T4 : Hid (TabAt w4 L1 B1 g1 n lt1 ft1 ∧ TabAt w4 L2 B2 g2 m lt2 ft2 ∧ B1 ≤ w4.heap.size ∧ B2 ≤ w4.heap.size) := Lib.hid ⟨T3.out.1.below (hb4.mono T3.out.2.2.1), T3.out.2.1.below (hb4.mono T3.out.2.2.2), Nat.le_trans T3.out.2.2.1 s4', Nat.le_trans T3.out.2.2.2 s4'⟩
    clear cp cq zp zq
    have cp := blk_cell P4.out
    have cq := blk_cell Q4.out
    have zp := lt_of_block P4.out
    have zq := lt_of_block Q4.out
    go_wp2_with fail
    refine wp_region_ext (by kernel_rfl) (by kernel_rfl) ?_
    repeat (go_big_quiet_step (first
      | (go_at_call_of 20 (Value.pointer (some ⟨g1, 0, none⟩)); exact quiet_ext (table_N (T4.out.1.below ((ext_below _ _).mono T4.out.2.2.1))))
      | (go_at_call_of 20 (Value.pointer (some ⟨g2, 0, none⟩)); exact quiet_ext (table_N (T4.out.2.1.below ((ext_below _ _).mono T4.out.2.2.2))))
      | (go_at_call 251; exact quiet_ext (HL2.out _))))
    have BY := BB4.out
    refine wpQuiet_nil ?_
    intro w5 hb5
    replace hb5 := below_of_ext hb5
    have B5 : Below w.heap.size w w5 := Below.then_ (by repeat (first | with_reducible exact Below.refl _ _ | with_reducible assumption | ((with_reducible refine Below.setCell ?_ ?_ _); rotate_left; · (first | omega | exact Nat.le_refl _ | (simp <;> omega))) | (with_reducible refine Below.allocW ?_ _) | (with_reducible refine Below.drew ?_) | (with_reducible refine Below.extW ?_ _))) hb5
    have s5 : w.heap.size ≤ w5.heap.size := B5.size
    go_wp2_with fail
    go_ret
    exact ⟨rfl, BB4.out.trans (hb5.mono BB4.out.size)⟩
theorem gap_wrong (w : World) (g1 K1 l1 g2 K2 l2 : Nat) (k1 k2 : Int) (r1 r2 : List Nd) (F1 F2 : Nat → Prop) (h1 : DigAt w g1 K1 l1 k1 r1 F1) (h2 : DigAt w g2 K2 l2 k2 r2 F2) :
    Calls Tryz.prog 155 #[.pointer (some ⟨g1, 0, none⟩), .pointer (some ⟨g2, 0, none⟩)] w fun e w' => e = .returned (.int .i64 (gapErr l1 l2 r1 r2)) ∧ Below w.heap.size w w' := by
  have HD1 := Lib.hid h1
  have HD2 := Lib.hid h2
  have HC1 := Lib.hid (digest_Conf · g1 K1 l1 k1 r1 F1 ·)
  have HC2 := Lib.hid (digest_Conf · g2 K2 l2 k2 r2 F2 ·)
  have HN1 := Lib.hid (digest_N · g1 K1 l1 k1 r1 F1 ·)
  have HN2 := Lib.hid (digest_N · g2 K2 l2 k2 r2 F2 ·)
  have q1 := h1.l_le
  have q2 := h2.l_le
  have hcase : (((l1 : Int) == (l2 : Int)) = false ∧ gapErr l1 l2 r1 r2 = 6) ∨ (l1 = l2 ∧ sumR r1 = 0 ∧ gapErr l1 l2 r1 r2 = 7) ∨ (l1 = l2 ∧ (sumR r1 == 0) = false ∧ sumR r2 = 0 ∧ gapErr l1 l2 r1 r2 = 7) ∨ (l1 = l2 ∧ (sumR r1 == 0) = false ∧ (sumR r2 == 0) = false ∧ gapErr l1 l2 r1 r2 = 0) := by
    unfold gapErr
    by_cases c1 : (l1 : Int) = l2
    · have c1' : l1 = l2 := by omega
      by_cases c2 : sumR r1 = 0
      · exact .inr (.inl ⟨c1', c2, by rw [if_neg (not_not_intro c1), if_pos (.inl c2)]⟩)
      · by_cases c3 : sumR r2 = 0
        · exact .inr (.inr (.inl ⟨c1', by simpa using c2, c3, by rw [if_neg (not_not_intro c1), if_pos (.inr c3)]⟩))
        · exact .inr (.inr (.inr ⟨c1', by simpa using c2, by simpa using c3, by rw [if_neg (not_not_intro c1), if_neg (by simp [c2, c3])]⟩))
    · exact .inl ⟨by simpa using c1, by rw [if_pos c1]⟩
  clear h1 h2
  rcases hcase with ⟨f1, fe⟩ | ⟨f1, f2, fe⟩ | ⟨f1, f2, f3, fe⟩ | ⟨f1, f2, f3, fe⟩
  · rw [fe]
    clear fe HN1 HN2
    go_enter Tryz.func155, Tryz.ntmps155
    go_wp2_with fail
    refine (HC1.out _ HD1.out).mono ?_
    rintro e w1 ⟨rfl, hb1⟩
    have B1 : Below w.heap.size w w1 := Below.then_ (by repeat (first | with_reducible exact Below.refl _ _ | with_reducible assumption | ((with_reducible refine Below.setCell ?_ ?_ _); rotate_left; · (first | omega | exact Nat.le_refl _ | (simp <;> omega))) | (with_reducible refine Below.allocW ?_ _) | (with_reducible refine Below.drew ?_) | (with_reducible refine Below.extW ?_ _))) hb1
    have s1 : w.heap.size ≤ w1.heap.size := B1.size
    go_wp2_with fail
    refine (HC2.out _ (HD2.out.below hb1)).mono ?_
    rintro e w2 ⟨rfl, hb2⟩
    have B2 : Below w.heap.size w w2 := Below.then_ (by repeat (first | with_reducible exact Below.refl _ _ | with_reducible assumption | ((with_reducible refine Below.setCell ?_ ?_ _); rotate_left; · (first | omega | exact Nat.le_refl _ | (simp <;> omega))) | (with_reducible refine Below.allocW ?_ _) | (with_reducible refine Below.drew ?_) | (with_reducible refine Below.extW ?_ _))) hb2
    have s2 : w.heap.size ≤ w2.heap.size := B2.size
    go_wp2_with fail
    go_ret
    exact ⟨rfl, (by repeat (first | with_reducible exact Below.refl _ _ | with_reducible assumption | ((with_reducible refine Below.setCell ?_ ?_ _); rotate_left; · (first | omega | exact Nat.le_refl _ | (simp <;> omega))) | (with_reducible refine Below.allocW ?_ _) | (with_reducible refine Below.drew ?_) | (with_reducible refine Below.extW ?_ _)))⟩
  · subst f1
    rw [fe]
    rw [f2] at HN1
    clear fe f2 HN2
    go_enter Tryz.func155, Tryz.ntmps155
    go_wp2_with fail
    refine (HC1.out _ HD1.out).mono ?_
    rintro e w1 ⟨rfl, hb1⟩
    have B1 : Below w.heap.size w w1 := Below.then_ (by repeat (first | with_reducible exact Below.refl _ _ | with_reducible assumption | ((with_reducible refine Below.setCell ?_ ?_ _); rotate_left; · (first | omega | exact Nat.le_refl _ | (simp <;> omega))) | (with_reducible refine Below.allocW ?_ _) | (with_reducible refine Below.drew ?_) | (with_reducible refine Below.extW ?_ _))) hb1
    have s1 : w.heap.size ≤ w1.heap.size := B1.size
    have D1 := Lib.hid (HD1.out.below hb1)
    have D2 := Lib.hid (HD2.out.below hb1)
    go_wp2_with fail
    refine (HC2.out _ D2.out).mono ?_
    rintro e w2 ⟨rfl, hb2⟩
    have B2 : Below w.heap.size w w2 := Below.then_ (by repeat (first | with_reducible exact Below.refl _ _ | with_reducible assumption | ((with_reducible refine Below.setCell ?_ ?_ _); rotate_left; · (first | omega | exact Nat.le_refl _ | (simp <;> omega))) | (with_reducible refine Below.allocW ?_ _) | (with_reducible refine Below.drew ?_) | (with_reducible refine Below.extW ?_ _))) hb2
    have s2 : w.heap.size ≤ w2.heap.size := B2.size
    go_wp2_with fail
    refine (HN1.out _ (D1.out.below hb2)).mono ?_
    rintro e w3 ⟨rfl, hb3⟩
    have B3 : Below w.heap.size w w3 := Below.then_ (by repeat (first | with_reducible exact Below.refl _ _ | with_reducible assumption | ((with_reducible refine Below.setCell ?_ ?_ _); rotate_left; · (first | omega | exact Nat.le_refl _ | (simp <;> omega))) | (with_reducible refine Below.allocW ?_ _) | (with_reducible refine Below.drew ?_) | (with_reducible refine Below.extW ?_ _))) hb3
    have s3 : w.heap.size ≤ w3.heap.size := B3.size
    go_wp2_with fail
    go_ret
    exact ⟨rfl, (by repeat (first | with_reducible exact Below.refl _ _ | with_reducible assumption | ((with_reducible refine Below.setCell ?_ ?_ _); rotate_left; · (first | omega | exact Nat.le_refl _ | (simp <;> omega))) | (with_reducible refine Below.allocW ?_ _) | (with_reducible refine Below.drew ?_) | (with_reducible refine Below.extW ?_ _)))⟩
  · subst f1
    rw [fe]
    rw [f3] at HN2
    generalize sumR r1 = n at HN1 f2
    clear fe f3
    go_enter Tryz.func155, Tryz.ntmps155
    go_wp2_with fail
    refine (HC1.out _ HD1.out).mono ?_
    rintro e w1 ⟨rfl, hb1⟩
    have B1 : Below w.heap.size w w1 := Below.then_ (by repeat (first | with_reducible exact Below.refl _ _ | with_reducible assumption | ((with_reducible refine Below.setCell ?_ ?_ _); rotate_left; · (first | omega | exact Nat.le_refl _ | (simp <;> omega))) | (with_reducible refine Below.allocW ?_ _) | (with_reducible refine Below.drew ?_) | (with_reducible refine Below.extW ?_ _))) hb1
    have s1 : w.heap.size ≤ w1.heap.size := B1.size
    have D1 := Lib.hid (HD1.out.below hb1)
    have D2 := Lib.hid (HD2.out.below hb1)
    go_wp2_with fail
    refine (HC2.out _ D2.out).mono ?_
    rintro e w2 ⟨rfl, hb2⟩
    have B2 : Below w.heap.size w w2 := Below.then_ (by repeat (first | with_reducible exact Below.refl _ _ | with_reducible assumption | ((with_reducible refine Below.setCell ?_ ?_ _); rotate_left; · (first | omega | exact Nat.le_refl _ | (simp <;> omega))) | (with_reducible refine Below.allocW ?_ _) | (with_reducible refine Below.drew ?_) | (with_reducible refine Below.extW ?_ _))) hb2
    have s2 : w.heap.size ≤ w2.heap.size := B2.size
    have E1 := Lib.hid (D1.out.below hb2)
    have E2 := Lib.hid (D2.out.below hb2)
    go_wp2_with fail
    refine (HN1.out _ E1.out).mono ?_
    rintro e w3 ⟨rfl, hb3⟩
    have B3 : Below w.heap.size w w3 := Below.then_ (by repeat (first | with_reducible exact Below.refl _ _ | with_reducible assumption | ((with_reducible refine Below.setCell ?_ ?_ _); rotate_left; · (first | omega | exact Nat.le_refl _ | (simp <;> omega))) | (with_reducible refine Below.allocW ?_ _) | (with_reducible refine Below.drew ?_) | (with_reducible refine Below.extW ?_ _))) hb3
    have s3 : w.heap.size ≤ w3.heap.size := B3.size
    go_wp2_with fail
    refine (HN2.out _ (E2.out.below hb3)).mono ?_
    rintro e w4 ⟨rfl, hb4⟩
    have B4 : Below w.heap.size w w4 := Below.then_ (by repeat (first | with_reducible exact Below.refl _ _ | with_reducible assumption | ((with_reducible refine Below.setCell ?_ ?_ _); rotate_left; · (first | omega | exact Nat.le_refl _ | (simp <;> omega))) | (with_reducible refine Below.allocW ?_ _) | (with_reducible refine Below.drew ?_) | (with_reducible refine Below.extW ?_ _))) hb4
    have s4 : w.heap.size ≤ w4.heap.size := B4.size
    go_wp2_with fail
    go_ret
    exact ⟨rfl, (by repeat (first | with_reducible exact Below.refl _ _ | with_reducible assumption | ((with_reducible refine Below.setCell ?_ ?_ _); rotate_left; · (first | omega | exact Nat.le_refl _ | (simp <;> omega))) | (with_reducible refine Below.allocW ?_ _) | (with_reducible refine Below.drew ?_) | (with_reducible refine Below.extW ?_ _)))⟩
  · subst f1
    rw [fe]
    generalize sumR r1 = n at HN1 f2
    generalize sumR r2 = m at HN2 f3
    clear fe
    go_enter Tryz.func155, Tryz.ntmps155
    go_wp2_with fail
    refine (HC1.out _ HD1.out).mono ?_
    rintro e w1 ⟨rfl, hb1⟩
    have B1 : Below w.heap.size w w1 := Below.then_ (by repeat (first | with_reducible exact Below.refl _ _ | with_reducible assumption | ((with_reducible refine Below.setCell ?_ ?_ _); rotate_left; · (first | omega | exact Nat.le_refl _ | (simp <;> omega))) | (with_reducible refine Below.allocW ?_ _) | (with_reducible refine Below.drew ?_) | (with_reducible refine Below.extW ?_ _))) hb1
    have s1 : w.heap.size ≤ w1.heap.size := B1.size
    have D1 := Lib.hid (HD1.out.below hb1)
    have D2 := Lib.hid (HD2.out.below hb1)
    go_wp2_with fail
    refine (HC2.out _ D2.out).mono ?_
    rintro e w2 ⟨rfl, hb2⟩
    have B2 : Below w.heap.size w w2 := Below.then_ (by repeat (first | with_reducible exact Below.refl _ _ | with_reducible assumption | ((with_reducible refine Below.setCell ?_ ?_ _); rotate_left; · (first | omega | exact Nat.le_refl _ | (simp <;> omega))) | (with_reducible refine Below.allocW ?_ _) | (with_reducible refine Below.drew ?_) | (with_reducible refine Below.extW ?_ _))) hb2
    have s2 : w.heap.size ≤ w2.heap.size := B2.size
    have E1 := Lib.hid (D1.out.below hb2)
    have E2 := Lib.hid (D2.out.below hb2)
    go_wp2_with fail
    refine (HN1.out _ E1.out).mono ?_
    rintro e w3 ⟨rfl, hb3⟩
    have B3 : Below w.heap.size w w3 := Below.then_ (by repeat (first | with_reducible exact Below.refl _ _ | with_reducible assumption | ((with_reducible refine Below.setCell ?_ ?_ _); rotate_left; · (first | omega | exact Nat.le_refl _ | (simp <;> omega))) | (with_reducible refine Below.allocW ?_ _) | (with_reducible refine Below.drew ?_) | (with_reducible refine Below.extW ?_ _))) hb3
    have s3 : w.heap.size ≤ w3.heap.size := B3.size
    go_wp2_with fail
    refine (HN2.out _ (E2.out.below hb3)).mono ?_
    rintro e w4 ⟨rfl, hb4⟩
    have B4 : Below w.heap.size w w4 := Below.then_ (by repeat (first | with_reducible exact Below.refl _ _ | with_reducible assumption | ((with_reducible refine Below.setCell ?_ ?_ _); rotate_left; · (first | omega | exact Nat.le_refl _ | (simp <;> omega))) | (with_reducible refine Below.allocW ?_ _) | (with_reducible refine Below.drew ?_) | (with_reducible refine Below.extW ?_ _))) hb4
    have s4 : w.heap.size ≤ w4.heap.size := B4.size
    go_wp2_with fail
    go_ret
    exact ⟨rfl, (by repeat (first | with_reducible exact Below.refl _ _ | with_reducible assumption | ((with_reducible refine Below.setCell ?_ ?_ _); rotate_left; · (first | omega | exact Nat.le_refl _ | (simp <;> omega))) | (with_reducible refine Below.allocW ?_ _) | (with_reducible refine Below.drew ?_) | (with_reducible refine Below.extW ?_ _)))⟩
theorem sideV_nat (n m pl ph ql qh : Nat) : sideV n m pl ph ql qh = sideN n m pl ph ql qh := by
  unfold sideV sideN
  have e : ∀ a b c d : Nat, ((a : Int) * b < (c : Int) * d) = (a * b < c * d) := fun a b c d => by rw [← Int.natCast_mul, ← Int.natCast_mul]; exact propext Int.ofNat_lt
  simp only [e]
def sideT (l m : Int) (a b : List Nd) (x : Int) : Int := if gapErr l m a b = 0 then sideOf l a b x else 0
theorem gapErr_ok {l m : Int} {a b : List Nd} (h : gapErr l m a b = 0) : l = m := by
  unfold gapErr at h
  split at h
  · cases h
  · rename_i h1; exact Decidable.not_not.1 h1
theorem low_range {l : Int} {r : List Nd} (hr : Roll r) (x : Int) : 0 ≤ lowOf l r x ∧ lowOf l r x ≤ sumR r := weighR_le hr
theorem high_range' {l : Int} {r : List Nd} (hr : Roll r) (x : Int) : 0 ≤ highOf l r x ∧ highOf l r x ≤ sumR r := weighR_le hr
theorem gap_Side (w : World) (g1 K1 l1 g2 K2 l2 : Nat) (k1 k2 : Int) (r1 r2 : List Nd) (F1 F2 : Nat → Prop) (x : Int) (h1 : DigAt w g1 K1 l1 k1 r1 F1) (h2 : DigAt w g2 K2 l2 k2 r2 F2) (hn1 : r1.length ≤ 67108864) (hn2 : r2.length ≤ 67108864) :
    Calls Tryz.prog 73 #[.pointer (some ⟨g1, 0, none⟩), .pointer (some ⟨g2, 0, none⟩), .int .i64 x] w fun e w' => e = .returned (.tuple #[.int .i64 (sideT l1 l2 r1 r2 x), .int .i64 (gapErr l1 l2 r1 r2)]) ∧ Below w.heap.size w w' := by
  have HW := Lib.hid (gap_wrong w g1 K1 l1 g2 K2 l2 k1 k2 r1 r2 F1 F2 h1 h2)
  have hf1 := h1.fits
  have hf2 := h2.fits
  have HD1 := Lib.hid h1
  have HD2 := Lib.hid h2
  by_cases he : gapErr l1 l2 r1 r2 = 0
  · have hll := gapErr_ok he
    obtain rfl : l1 = l2 := by omega
    have hs : sideT l1 l1 r1 r2 x = sideOf l1 r1 r2 x := by unfold sideT; rw [if_pos he]
    rw [he] at HW
    rw [he, hs]
    clear he hs hll h1 h2
    unfold sideOf
    have z1 := sumR_nonneg hf1.roll
    have z2 := sumR_nonneg hf2.roll
    have y1 := hf1.sum
    have y2 := hf2.sum
    have a1 := low_range (l := l1) hf1.roll x
    have a2 := high_range' (l := l1) hf1.roll x
    have a3 := low_range (l := l1) hf2.roll x
    have a4 := high_range' (l := l1) hf2.roll x
    have HO1 := Lib.hid (rank_Of · g1 K1 l1 k1 r1 F1 · hn1)
    have HO2 := Lib.hid (rank_Of · g2 K2 l1 k2 r2 F2 · hn2)
    obtain ⟨n, e1⟩ := Int.eq_ofNat_of_zero_le z1
    obtain ⟨m, e2⟩ := Int.eq_ofNat_of_zero_le z2
    obtain ⟨pl, e3⟩ := Int.eq_ofNat_of_zero_le a1.1
    obtain ⟨ph, e4⟩ := Int.eq_ofNat_of_zero_le a2.1
    obtain ⟨ql, e5⟩ := Int.eq_ofNat_of_zero_le a3.1
    obtain ⟨qh, e6⟩ := Int.eq_ofNat_of_zero_le a4.1
    rw [e1, e2, e3, e4, e5, e6, sideV_nat]
    have E := Lib.hid (And.intro e1 (And.intro e2 (And.intro e3 (And.intro e4 (And.intro e5 e6)))))
    have b1 : n ≤ 9223372036854775807 := by omega
    have b2 : m ≤ 9223372036854775807 := by omega
    have b3 : pl ≤ 9223372036854775807 := by omega
    have b4 : ph ≤ 9223372036854775807 := by omega
    have b5 : ql ≤ 9223372036854775807 := by omega
    have b6 : qh ≤ 9223372036854775807 := by omega
    clear e1 e2 e3 e4 e5 e6 a1 a2 a3 a4 z1 z2 y1 y2
    go_enter Tryz.func73, Tryz.ntmps73
    go_wp2_with fail
    refine (HW.out).mono ?_
    rintro e w1 ⟨rfl, hb1⟩
    have B1 : Below w.heap.size w w1 := Below.then_ (by repeat (first | with_reducible exact Below.refl _ _ | with_reducible assumption | ((with_reducible refine Below.setCell ?_ ?_ _); rotate_left; · (first | omega | exact Nat.le_refl _ | (simp <;> omega))) | (with_reducible refine Below.allocW ?_ _) | (with_reducible refine Below.drew ?_) | (with_reducible refine Below.extW ?_ _))) hb1
    have s1 : w.heap.size ≤ w1.heap.size := B1.size
    go_wp2_with fail
    refine (HO1.out _ (HD1.out.below hb1)).mono ?_
    rintro e w2 ⟨t1, lt1, ft1, rfl, htab1, htl1, htf1, hl1, hl2, hb2⟩
    have B2 : Below w.heap.size w w2 := B1.trans (hb2.mono s1)
    have s2 := B2.size
    have T1 := Lib.hid htab1
    have D2 := Lib.hid ((HD2.out.below hb1).below hb2)
    clear hb2 htab1
    go_wp2_with fail
    refine (HO2.out _ D2.out).mono ?_
    rintro e w3 ⟨t2, lt2, ft2, rfl, htab2, htl2, htf2, hl3, hl4, hb3⟩
    have B3 : Below w.heap.size w w3 := B2.trans (hb3.mono s2)
    have s3 := B3.size
    have s23 := hb3.size
    have TT1 := Lib.hid (T1.out.below hb3)
    have TT2 := Lib.hid htab2
    clear hb3 htab2
    have U1 : Hid (TabAt w3 w1.heap.size w2.heap.size t1 n lt1 ft1) := Lib.hid (E.out.1 ▸ TT1.out)
    have U2 : Hid (TabAt w3 w2.heap.size w3.heap.size t2 m lt2 ft2) := Lib.hid (E.out.2.1 ▸ TT2.out)
    have HGS := Lib.hid (gap_side w3 x n m pl ph ql qh U1.out U2.out s23 (Nat.le_refl _) (by omega) htl1.rise (by omega) htf1.rise (by omega) htl2.rise (by omega) htf2.rise
      (by rw [htl1.upT, low_up]; exact E.out.2.2.1) (by rw [htf1.upT, high_up]; exact E.out.2.2.2.1) (by rw [htl2.upT, low_up]; exact E.out.2.2.2.2.1) (by rw [htf2.upT, high_up]; exact E.out.2.2.2.2.2) b1 b2 b3 b4 b5 b6)
    clear htl1 htf1 htl2 htf2
    go_wp2_with fail
    refine HGS.out.mono ?_
    rintro e w4 ⟨rfl, hb4⟩
    go_wp2_with fail
    go_ret2
    exact ⟨rfl, B3.trans (hb4.mono s3)⟩
  · have hs : sideT l1 l2 r1 r2 x = 0 := by unfold sideT; rw [if_neg he]
    rw [hs]
    have hne : (gapErr l1 l2 r1 r2 == 0) = false := by simpa using he
    clear hs he h1 h2
    generalize gapErr l1 l2 r1 r2 = er at HW hne
    go_enter Tryz.func73, Tryz.ntmps73
    go_wp2_with fail
    refine (HW.out).mono ?_
    rintro e w1 ⟨rfl, hb1⟩
    have B1 : Below w.heap.size w w1 := Below.then_ (by repeat (first | with_reducible exact Below.refl _ _ | with_reducible assumption | ((with_reducible refine Below.setCell ?_ ?_ _); rotate_left; · (first | omega | exact Nat.le_refl _ | (simp <;> omega))) | (with_reducible refine Below.allocW ?_ _) | (with_reducible refine Below.drew ?_) | (with_reducible refine Below.extW ?_ _))) hb1
    have s1 : w.heap.size ≤ w1.heap.size := B1.size
    go_wp2_with fail
    go_ret2
    exact ⟨rfl, B1⟩
end Go.Proofs.YtcjnchjmpkapmaaGreat
/- Chapter 21: two digests turned about: plain laws. -/
namespace Go.Proofs.YtcjnchjmpkapmaaGreat
open Go.ChangeShapes Go.WideShapes Go.ChangeAt Go.RowKit
set_option linter.unusedVariables false

theorem upV_ge (a b c : Nat) : a * b / c ≤ upV a b c := by unfold upV; omega
theorem down_up {n d x y : Int} (hx : x ≤ y) : downV n d x ≤ upP n d y := by
  unfold downV upP
  have h1 : x.toNat ≤ y.toNat := by omega
  have h2 : x.toNat * d.toNat / n.toNat ≤ y.toNat * d.toNat / n.toNat := Nat.div_le_div_right (Nat.mul_le_mul_right _ h1)
  have h3 := upV_ge y.toNat d.toNat n.toNat
  omega
end Go.Proofs.YtcjnchjmpkapmaaGreat
/- Chapter 21: is the difference of two shares greater than a number of parts? By digits. -/
namespace Go.Proofs.YtcjnchjmpkapmaaGreat
open Go.ChangeShapes Go.WideShapes Go.ChangeAt Go.RowKit
set_option linter.unusedVariables false
set_option linter.unusedSimpArgs false
set_option maxRecDepth 100000

def DgV (W : World) (v : Value) (x n : Nat) : Prop := ∃ (L : List Nat) (A : Option Addr) (c : Nat), v = .slice A L.length c ∧ Sl W W.heap.size encD A L ∧ okD L ∧ valD L = x ∧ L.length ≤ n
theorem DgV.below {W W' : World} {v : Value} {x n : Nat} (h : DgV W v x n) (hb : Below W.heap.size W W') : DgV W' v x n := by
  obtain ⟨L, A, c, h1, h2, h3⟩ := h
  exact ⟨L, A, c, h1, h2.keep hb.size fun p hp => hb.cell hp, h3⟩
theorem DgV.of {W W' : World} {v : Value} {x n : Nat} {L : List Nat} {b : Nat} (ho : Own W b 3 encD v L) (k : okD L) (e : valD L = x) (l : L.length ≤ n) : DgV W v x n := by
  obtain ⟨A, c, rfl, _⟩ := ho.form
  exact ⟨L, A, c, rfl, ho.sl, k, e, l⟩
theorem dg_Digits (w : World) (x : Nat) (hx : x ≤ 9223372036854775807) : Calls Tryz.prog 56 #[.int .i64 x] w fun e w' => ∃ v, e = .returned v ∧ DgV w' v x 7 ∧ Below w.heap.size w w' :=
  (ref1_Digits w x (by omega)).mono fun e w' ⟨v, L, he, ho, k, e1, l, hb⟩ => ⟨v, he, DgV.of (W' := w) ho k e1 l, hb⟩
theorem dg_Times (w : World) (a b : Value) (x y n m : Nat) (ha : DgV w a x n) (hb : DgV w b y m) (hn : n ≤ 100) (hm : m ≤ 100) : Calls Tryz.prog 55 #[a, b] w fun e w' => ∃ v, e = .returned v ∧ DgV w' v (x * y) (n + 2 * m + 1) ∧ Below w.heap.size w w' := by
  obtain ⟨L, A, c, rfl, h1, h2, rfl, h3⟩ := ha
  obtain ⟨M, B, c', rfl, k1, k2, rfl, k3⟩ := hb
  exact (ref1_Times w A B c c' L M h1 k1 h2 k2 (by omega) (by omega)).mono fun e w' ⟨v, he, R, ho, k, e1, l, hb⟩ => ⟨v, he, DgV.of (W' := w) ho k e1 (by omega), hb⟩
theorem dg_Sum (w : World) (a b : Value) (x y n m : Nat) (ha : DgV w a x n) (hb : DgV w b y m) (hn : n ≤ 100) (hm : m ≤ 100) : Calls Tryz.prog 54 #[a, b] w fun e w' => ∃ v, e = .returned v ∧ DgV w' v (x + y) 101 ∧ Below w.heap.size w w' := by
  obtain ⟨L, A, c, rfl, h1, h2, rfl, h3⟩ := ha
  obtain ⟨M, B, c', rfl, k1, k2, rfl, k3⟩ := hb
  exact (ref1_Sum w A B c c' L M h1 k1 h2 k2 (by omega) (by omega)).mono fun e w' ⟨v, R, he, ho, k, e1, l, hb⟩ => ⟨v, he, DgV.of (W' := w) ho k e1 (by omega), hb⟩
theorem dg_Less (w : World) (a b : Value) (x y n m : Nat) (ha : DgV w a x n) (hb : DgV w b y m) (hn : n ≤ 101) (hm : m ≤ 101) : Calls Tryz.prog 132 #[a, b] w fun e w' => e = .returned (.int .i64 (cmpV x y)) ∧ Below w.heap.size w w' := by
  obtain ⟨L, A, c, rfl, h1, h2, rfl, h3⟩ := ha
  obtain ⟨M, B, c', rfl, k1, k2, rfl, k3⟩ := hb
  exact ref1_Less w A B c c' L M h1 k1 h2 k2 (by omega) (by omega)
def beyN (p m q n d t : Nat) : Bool := decide (q * m * d + m * n * t < p * n * d) || decide (p * n * d + m * n * t < q * m * d)
theorem cmpV_gt (x y : Nat) : decide (0 < cmpV x y) = decide (y < x) := by
  unfold cmpV
  by_cases h1 : x < y
  · rw [if_pos h1]; simp; omega
  · rw [if_neg h1]
    by_cases h2 : y < x
    · rw [if_pos h2]; simp [h2]
    · rw [if_neg h2]; simp [h2]
set_option maxHeartbeats 4000000 in
theorem law21_beyond (w : World) (p m q n d t : Nat) (hp : p ≤ 9223372036854775807) (hm : m ≤ 9223372036854775807) (hq : q ≤ 9223372036854775807) (hn : n ≤ 9223372036854775807) (hd : d ≤ 9223372036854775807) (ht : t ≤ 9223372036854775807) :
    Calls Tryz.prog 75 #[.int .i64 p, .int .i64 m, .int .i64 q, .int .i64 n, .int .i64 d, .int .i64 t] w fun e w' => e = .returned (.bool (beyN p m q n d t)) ∧ Below w.heap.size w w' := by
  have B0 := Lib.hid (Below.refl w.heap.size w)
  unfold beyN
  rw [← cmpV_gt, ← cmpV_gt]
  obtain ⟨c1, hc1⟩ : ∃ c, c = cmpV (p * n * d) (q * m * d + m * n * t) := ⟨_, rfl⟩
  obtain ⟨c2, hc2⟩ : ∃ c, c = cmpV (q * m * d) (p * n * d + m * n * t) := ⟨_, rfl⟩
  rw [← hc1, ← hc2]
  go_enter Tryz.func75, Tryz.ntmps75
  go_wp2_with fail
  refine (dg_Digits w p hp).mono ?_
  rintro e w1 ⟨v1, rfl, d1, hb1⟩
  have a_1 := Lib.hid d1
  have B1 := Lib.hid (Below.then_ B0.out hb1)
  clear d1 hb1 B0 
  go_wp2_with fail
  refine (dg_Digits w1 n hn).mono ?_
  rintro e w2 ⟨v2, rfl, d2, hb2⟩
  have a_2 := Lib.hid (a_1.out.below hb2)
  have b_2 := Lib.hid d2
  have B2 := Lib.hid (Below.then_ B1.out hb2)
  clear d2 hb2 B1 a_1
  go_wp2_with fail
  refine (dg_Times w2 v1 v2 (p) (n) 7 7 a_2.out b_2.out (by decide) (by decide)).mono ?_
  rintro e w3 ⟨v3, rfl, d3, hb3⟩
  have c_3 := Lib.hid d3
  have B3 := Lib.hid (Below.then_ B2.out hb3)
  clear d3 hb3 B2 
  go_wp2_with fail
  refine (dg_Digits w3 d hd).mono ?_
  rintro e w4 ⟨v4, rfl, d4, hb4⟩
  have c_4 := Lib.hid (c_3.out.below hb4)
  have e_4 := Lib.hid d4
  have B4 := Lib.hid (Below.then_ B3.out hb4)
  clear d4 hb4 B3 c_3
  go_wp2_with fail
  refine (dg_Times w4 v3 v4 (p * n) (d) 22 7 c_4.out e_4.out (by decide) (by decide)).mono ?_
  rintro e w5 ⟨v5, rfl, d5, hb5⟩
  have X_5 := Lib.hid d5
  have B5 := Lib.hid (Below.then_ B4.out hb5)
  clear d5 hb5 B4 
  go_wp2_with fail
  refine (dg_Digits w5 q hq).mono ?_
  rintro e w6 ⟨v6, rfl, d6, hb6⟩
  have X_6 := Lib.hid (X_5.out.below hb6)
  have a_6 := Lib.hid d6
  have B6 := Lib.hid (Below.then_ B5.out hb6)
  clear d6 hb6 B5 X_5
  go_wp2_with fail
  refine (dg_Digits w6 m hm).mono ?_
  rintro e w7 ⟨v7, rfl, d7, hb7⟩
  have X_7 := Lib.hid (X_6.out.below hb7)
  have a_7 := Lib.hid (a_6.out.below hb7)
  have b_7 := Lib.hid d7
  have B7 := Lib.hid (Below.then_ B6.out hb7)
  clear d7 hb7 B6 X_6 a_6
  go_wp2_with fail
  refine (dg_Times w7 v6 v7 (q) (m) 7 7 a_7.out b_7.out (by decide) (by decide)).mono ?_
  rintro e w8 ⟨v8, rfl, d8, hb8⟩
  have X_8 := Lib.hid (X_7.out.below hb8)
  have c_8 := Lib.hid d8
  have B8 := Lib.hid (Below.then_ B7.out hb8)
  clear d8 hb8 B7 X_7
  go_wp2_with fail
  refine (dg_Digits w8 d hd).mono ?_
  rintro e w9 ⟨v9, rfl, d9, hb9⟩
  have X_9 := Lib.hid (X_8.out.below hb9)
  have c_9 := Lib.hid (c_8.out.below hb9)
  have e_9 := Lib.hid d9
  have B9 := Lib.hid (Below.then_ B8.out hb9)
  clear d9 hb9 B8 X_8 c_8
  go_wp2_with fail
  refine (dg_Times w9 v8 v9 (q * m) (d) 22 7 c_9.out e_9.out (by decide) (by decide)).mono ?_
  rintro e w10 ⟨v10, rfl, d10, hb10⟩
  have X_10 := Lib.hid (X_9.out.below hb10)
  have Y_10 := Lib.hid d10
  have B10 := Lib.hid (Below.then_ B9.out hb10)
  clear d10 hb10 B9 X_9
  go_wp2_with fail
  refine (dg_Digits w10 m hm).mono ?_
  rintro e w11 ⟨v11, rfl, d11, hb11⟩
  have X_11 := Lib.hid (X_10.out.below hb11)
  have Y_11 := Lib.hid (Y_10.out.below hb11)
  have a_11 := Lib.hid d11
  have B11 := Lib.hid (Below.then_ B10.out hb11)
  clear d11 hb11 B10 X_10 Y_10
  go_wp2_with fail
  refine (dg_Digits w11 n hn).mono ?_
  rintro e w12 ⟨v12, rfl, d12, hb12⟩
  have X_12 := Lib.hid (X_11.out.below hb12)
  have Y_12 := Lib.hid (Y_11.out.below hb12)
  have a_12 := Lib.hid (a_11.out.below hb12)
  have b_12 := Lib.hid d12
  have B12 := Lib.hid (Below.then_ B11.out hb12)
  clear d12 hb12 B11 X_11 Y_11 a_11
  go_wp2_with fail
  refine (dg_Times w12 v11 v12 (m) (n) 7 7 a_12.out b_12.out (by decide) (by decide)).mono ?_
  rintro e w13 ⟨v13, rfl, d13, hb13⟩
  have X_13 := Lib.hid (X_12.out.below hb13)
  have Y_13 := Lib.hid (Y_12.out.below hb13)
  have c_13 := Lib.hid d13
  have B13 := Lib.hid (Below.then_ B12.out hb13)
  clear d13 hb13 B12 X_12 Y_12
  go_wp2_with fail
  refine (dg_Digits w13 t ht).mono ?_
  rintro e w14 ⟨v14, rfl, d14, hb14⟩
  have X_14 := Lib.hid (X_13.out.below hb14)
  have Y_14 := Lib.hid (Y_13.out.below hb14)
  have c_14 := Lib.hid (c_13.out.below hb14)
  have e_14 := Lib.hid d14
  have B14 := Lib.hid (Below.then_ B13.out hb14)
  clear d14 hb14 B13 X_13 Y_13 c_13
  go_wp2_with fail
  refine (dg_Times w14 v13 v14 (m * n) (t) 22 7 c_14.out e_14.out (by decide) (by decide)).mono ?_
  rintro e w15 ⟨v15, rfl, d15, hb15⟩
  have X_15 := Lib.hid (X_14.out.below hb15)
  have Y_15 := Lib.hid (Y_14.out.below hb15)
  have Z_15 := Lib.hid d15
  have B15 := Lib.hid (Below.then_ B14.out hb15)
  clear d15 hb15 B14 X_14 Y_14
  go_wp2_with fail
  refine (dg_Sum w15 v10 v15 (q * m * d) (m * n * t) 37 37 Y_15.out Z_15.out (by decide) (by decide)).mono ?_
  rintro e w16 ⟨v16, rfl, d16, hb16⟩
  have X_16 := Lib.hid (X_15.out.below hb16)
  have Y_16 := Lib.hid (Y_15.out.below hb16)
  have Z_16 := Lib.hid (Z_15.out.below hb16)
  have S_16 := Lib.hid d16
  have B16 := Lib.hid (Below.then_ B15.out hb16)
  clear d16 hb16 B15 X_15 Y_15 Z_15
  go_wp2_with fail
  have HL17 := Lib.hid (dg_Less w16 v5 v16 (p * n * d) (q * m * d + m * n * t) 37 101 X_16.out S_16.out (by decide) (by decide))
  rw [← hc1] at HL17
  refine HL17.out.mono ?_
  rintro e w17 ⟨rfl, hb17⟩
  have X_17 := Lib.hid (X_16.out.below hb17)
  have Y_17 := Lib.hid (Y_16.out.below hb17)
  have Z_17 := Lib.hid (Z_16.out.below hb17)
  have S_17 := Lib.hid (S_16.out.below hb17)
  have B17 := Lib.hid (Below.then_ B16.out hb17)
  clear hb17 B16 X_16 Y_16 Z_16 S_16
  clear hc1
  cases hc : decide (0 < c1)
  · go_wp2_with fail
    refine (dg_Sum w17 v5 v15 (p * n * d) (m * n * t) 37 37 X_17.out Z_17.out (by decide) (by decide)).mono ?_
    rintro e w18 ⟨v18, rfl, d18, hb18⟩
    have X_18 := Lib.hid (X_17.out.below hb18)
    have Y_18 := Lib.hid (Y_17.out.below hb18)
    have Z_18 := Lib.hid (Z_17.out.below hb18)
    have S_18 := Lib.hid (S_17.out.below hb18)
    have S2_18 := Lib.hid d18
    have B18 := Lib.hid (Below.then_ B17.out hb18)
    clear d18 hb18 B17 X_17 Y_17 Z_17 S_17
    go_wp2_with fail
    have HL19 := Lib.hid (dg_Less w18 v10 v18 (q * m * d) (p * n * d + m * n * t) 37 101 Y_18.out S2_18.out (by decide) (by decide))
    rw [← hc2] at HL19
    refine HL19.out.mono ?_
    rintro e w19 ⟨rfl, hb19⟩
    have X_19 := Lib.hid (X_18.out.below hb19)
    have Y_19 := Lib.hid (Y_18.out.below hb19)
    have Z_19 := Lib.hid (Z_18.out.below hb19)
    have S_19 := Lib.hid (S_18.out.below hb19)
    have S2_19 := Lib.hid (S2_18.out.below hb19)
    have B19 := Lib.hid (Below.then_ B18.out hb19)
    clear hb19 B18 X_18 Y_18 Z_18 S_18 S2_18
    clear hc2
    go_wp2_with fail
    go_ret
    exact ⟨by have h := hc; simp at h ⊢; omega, B19.out⟩
  · go_wp2_with fail
    go_ret
    exact ⟨by have h := hc; simp at h ⊢; omega, B17.out⟩
end Go.Proofs.YtcjnchjmpkapmaaGreat
/- The reference of layer 21 (gap): wrong. -/
namespace Go.Proofs.YtcjnchjmpkapmaaGreat
open Go.ChangeShapes Go.WideShapes Go.ChangeAt Go.RowKit
set_option linter.unusedVariables false
set_option maxRecDepth 100000

end Go.Proofs.YtcjnchjmpkapmaaGreat
/- Reference 1: Bits: a number of two words as digits. -/
namespace Go.Proofs.YtcjnchjmpkapmaaGreat
open Go.ChangeShapes Go.WideShapes Go.ChangeAt Go.RowKit
set_option linter.unusedVariables false
set_option maxRecDepth 100000

end Go.Proofs.YtcjnchjmpkapmaaGreat
/- The reference of layer 20 (bound): Sum. -/
namespace Go.Proofs.YtcjnchjmpkapmaaGreat
open Go.ChangeShapes Go.WideShapes Go.ChangeAt Go.RowKit
set_option linter.unusedVariables false
set_option maxRecDepth 100000

def SumPost (n : Nat) (m : Nat) (w : World) (e : Ending) (w' : World) : Prop := ∃ v L, e = .returned v ∧ Own w' w.heap.size 3 encD v L ∧ okD L ∧ valD L = n ∧ L.length ≤ m ∧ Below w.heap.size w w'
end Go.Proofs.YtcjnchjmpkapmaaGreat
/- The reference of layer 20 (bound): Mean. -/
namespace Go.Proofs.YtcjnchjmpkapmaaGreat
open Go.ChangeShapes Go.WideShapes Go.ChangeAt Go.RowKit
set_option linter.unusedVariables false
set_option maxRecDepth 100000

end Go.Proofs.YtcjnchjmpkapmaaGreat
/- Chapter 20: the sums and the mean: the law. -/
namespace Go.Proofs.YtcjnchjmpkapmaaGreat
open Go.ChangeShapes Go.WideShapes Go.ChangeAt Go.RowKit
set_option linter.unusedVariables false
set_option linter.unusedSimpArgs false
set_option maxRecDepth 100000

def SumsAt (W : World) (p q : Nat) (k l : Int) (A : Option Addr) (n cap : Nat) (a0 b0 a1 b1 : Int) : Prop :=
  W.heap[p]? = some (.cells #[.int .i64 k, .int .i64 l, .slice A n cap] 63 (0, 0)) ∧ W.heap[q]? = some (.cells #[.int .u64 a0, .int .u64 b0] 202 (0, 0)) ∧ W.heap[q + 1]? = some (.cells #[.int .u64 a1, .int .u64 b1] 202 (0, 0))
def MeanAt (W : World) (p q : Nat) (k l : Int) (A : Option Addr) (n cap : Nat) (x y : Int) : Prop :=
  W.heap[p]? = some (.cells #[.int .i64 k, .int .i64 l, .slice A n cap] 63 (0, 0)) ∧ bothAt W q x y
end Go.Proofs.YtcjnchjmpkapmaaGreat
/- The reference of layer 21 (gap): both. -/
namespace Go.Proofs.YtcjnchjmpkapmaaGreat
open Go.ChangeShapes Go.WideShapes Go.ChangeAt Go.RowKit
set_option linter.unusedVariables false
set_option linter.unusedSimpArgs false
set_option maxRecDepth 100000

end Go.Proofs.YtcjnchjmpkapmaaGreat
/- The reference of layer 21 (gap): at, Side. -/
namespace Go.Proofs.YtcjnchjmpkapmaaGreat
open Go.ChangeShapes Go.WideShapes Go.ChangeAt Go.RowKit
set_option linter.unusedVariables false
set_option linter.unusedSimpArgs false
set_option maxRecDepth 100000

def digBox (W : World) (b : Nat) (k u : Int) (A : Option Addr) (n cap : Nat) : Prop := W.heap[b]? = some (.cells #[.int .i64 k, .int .i64 u, .slice A n cap] 63 (0, 0))
structure AtR (W0 : World) (P Q : Nat) (pl ph ql qh : Int) (W : World) : Prop where
  p0 : W.cell? ⟨P, 0, none⟩ = some (.int .i64 pl)
  p1 : W.cell? ⟨P, 1, none⟩ = some (.int .i64 ph)
  q0 : W.cell? ⟨Q, 0, none⟩ = some (.int .i64 ql)
  q1 : W.cell? ⟨Q, 1, none⟩ = some (.int .i64 qh)
  pz : P < W.heap.size
  qz : Q < W.heap.size
  blw : Below W0.heap.size W0 W
end Go.Proofs.YtcjnchjmpkapmaaGreat
/- Shares in parts, rounded down and up: package gap, and the reference of layer 21. -/
namespace Go.Proofs.YtcjnchjmpkapmaaGreat
open Go.ChangeShapes Go.WideShapes Go.ChangeAt Go.RowKit
set_option linter.unusedVariables false
set_option linter.unusedSimpArgs false
set_option maxRecDepth 100000

set_option maxHeartbeats 1000000 in
theorem gap_parts (w : World) (x : Int) {L B g : Nat} {lt ft : List Nd} (n d pl ph : Nat) (h : TabAt w L B g n lt ft) (hb : B ≤ w.heap.size) (m1 : lt.length ≤ 67108864) (r1 : lt.Pairwise fun a b => a.1 < b.1) (m1' : ft.length ≤ 67108864) (r1' : ft.Pairwise fun a b => a.1 < b.1)
    (e1 : upT lt x = pl) (e2 : upT ft x = ph) (hn : 1 ≤ n) (hn2 : n ≤ 9223372036854775807) (hd : d ≤ 9223372036854775807) (hp : pl ≤ n) (hq : ph ≤ n) :
    Calls Tryz.prog 158 #[.pointer (some ⟨g, 0, none⟩), .int .i64 x, .int .i64 d] w fun e w' => e = .returned (.tuple #[.int .i64 (pl * d / n : Nat), .int .i64 (upV ph d n : Nat)]) ∧ Below w.heap.size w w' := by
  have HB1 := Lib.hid (fun W (h : TabAt W L B g n lt ft) (hb : B ≤ W.heap.size) => table_Both x h hb m1 r1 m1' r1')
  rw [e1, e2] at HB1
  have T1 := Lib.hid h
  have HP := Lib.hid (reckon_Part · pl d n hd hn hn2 hp)
  have HU := Lib.hid (reckon_PartUp · ph d n hd hn hn2 hq)
  have u1 := part_le (b := d) hp hn
  have u2 := up_le (b := d) hq hn
  clear h r1 r1' e1 e2
  generalize pl * d / n = u at HP u1 ⊢
  generalize upV ph d n = v at HU u2 ⊢
  go_enter Tryz.func158, Tryz.ntmps158
  go_wp2_with fail
  refine (HB1.out _ T1.out hb).mono ?_
  rintro e w1 ⟨rfl, hb1⟩
  have s1 := hb1.size
  have U1 := Lib.hid (T1.out.below (hb1.mono hb))
  have BB1 := Lib.hid hb1
  clear hb1
  go_wp2_with fail
  have BA : Below w1.heap.size w1 (w1.alloc (.cells #[.int .i64 pl, .int .i64 ph] 57)) := (Below.refl _ _).alloc (Nat.le_refl _) _
  have P3 : Hid (bothAt (w1.alloc (.cells #[.int .i64 pl, .int .i64 ph] 57)) w1.heap.size pl ph) := Lib.hid (bothAt.new w1 pl ph)
  have BB3 := Lib.hid (BB1.out.trans (BA.mono s1))
  have T3 := Lib.hid (U1.out.below (BA.mono (by omega)))
  have s3 := BA.size
  have HBw : Hid (B ≤ (w1.alloc (.cells #[.int .i64 pl, .int .i64 ph] 57)).heap.size) := Lib.hid (by omega)
  clear BA
  generalize w1.alloc (.cells #[.int .i64 pl, .int .i64 ph] 57) = W3 at P3 BB3 s3 T3 HBw ⊢
  have cp := blk_cell P3.out
  have zp := lt_of_block P3.out
  refine wp_region_ext (by kernel_rfl) (by kernel_rfl) ?_
  repeat (go_big_quiet_step (first
    | (go_at_call 20; exact quiet_ext (table_N (T3.out.below ((ext_below _ _).mono HBw.out))))
    | (go_at_call 213; exact quiet_ext (HP.out _))))
  have BX := BB3.out
  refine wpQuiet_nil ?_
  intro w4 hb4
  replace hb4 := below_of_ext hb4
  have B4 : Below w.heap.size w w4 := Below.then_ (by repeat (first | with_reducible exact Below.refl _ _ | with_reducible assumption | ((with_reducible refine Below.setCell ?_ ?_ _); rotate_left; · (first | omega | exact Nat.le_refl _ | (simp <;> omega))) | (with_reducible refine Below.allocW ?_ _) | (with_reducible refine Below.drew ?_) | (with_reducible refine Below.extW ?_ _))) hb4
  have s4 : w.heap.size ≤ w4.heap.size := B4.size
  have z4_0 : w1.heap.size < w4.heap.size := by have := hb4.size; (try simp at this); omega
  have y4_0 : w1.heap.size ≤ w4.heap.size := Nat.le_of_lt z4_0
  have c4_0 := fun o => hb4.cell (p := ⟨w1.heap.size, o, none⟩) (by first | omega | (simp <;> omega))
  have f4_0 := fun o => hb4.frozen (p := ⟨w1.heap.size, o, none⟩) (by first | omega | (simp <;> omega))
  have T4 := Lib.hid (T3.out.below (hb4.mono HBw.out))
  have HBw4 : Hid (B ≤ w4.heap.size) := Lib.hid (Nat.le_trans HBw.out hb4.size)
  go_wp2_with fail
  refine wp_region_ext (by kernel_rfl) (by kernel_rfl) ?_
  repeat (go_big_quiet_step (first
    | (go_at_call 20; exact quiet_ext (table_N (T4.out.below ((ext_below _ _).mono HBw4.out))))
    | (go_at_call 250; exact quiet_ext (HU.out _))))
  refine wpQuiet_nil ?_
  intro w5 hb5
  replace hb5 := below_of_ext hb5
  have B5 : Below w.heap.size w w5 := Below.then_ (by repeat (first | with_reducible exact Below.refl _ _ | with_reducible assumption | ((with_reducible refine Below.setCell ?_ ?_ _); rotate_left; · (first | omega | exact Nat.le_refl _ | (simp <;> omega))) | (with_reducible refine Below.allocW ?_ _) | (with_reducible refine Below.drew ?_) | (with_reducible refine Below.extW ?_ _))) hb5
  have s5 : w.heap.size ≤ w5.heap.size := B5.size
  go_wp2_with fail
  go_ret2
  exact ⟨rfl, B5⟩
end Go.Proofs.YtcjnchjmpkapmaaGreat
/- append(s, x, y ..): a list that was made for the call alone. -/
namespace Go.Proofs.YtcjnchjmpkapmaaGreat
open Go.ChangeShapes Go.WideShapes Go.ChangeAt Go.RowKit
set_option linter.unusedVariables false

section
variable {α : Type} {P : Program} {t e : TypeId} {size bytes : Nat} {z : Value}
theorem wpList_pushes {w : World} {ops : Array Oper} {rest : List Oper} {o : Oper} {a : Act} {Q : Exit → Act → World → Prop} (T : SliceTy P t e size bytes z) (hgd : o.guard = none) (s x : Operand)
    (ho : o.op = .call { callee := .builtin .append, args := #[s, x], argTypes := #[t, t] }) (E : Enc α size) (W : World) (base : Nat) (v : Value) (l : List α) (hs : a.eval s = v) (hown : Own W base e E v l)
    (l2 : List α) (n : Nat) (hn2 : n = l2.length) (hx : a.eval x = .slice (some ⟨W.heap.size, 0, none⟩) n n) (hw : w = W.alloc (.cells (l2.flatMap E.enc).toArray e)) (hn : (l.length + l2.length) * bytes ≤ 140737488355328) (hm : l.length + l2.length ≤ maxLen) (hbase : base ≤ W.heap.size)
    (h : ∀ v' w', Own w' base e E v' (l ++ l2) → W.grownBy w' v.ownBlock → W.heap.size < w'.heap.size → (v'.ownBlock = v.ownBlock ∨ v'.ownBlock = some (W.heap.size + 1)) → Below base W w' → (l2 ≠ [] → v' ≠ .slice none 0 0) →
      wpList P ops Q rest (a.put o.dst v') w') : wpList P ops Q (o :: rest) a w := by
  subst hw hn2
  refine wpList_app T hgd s x ho E base v l hs (hown.alloc _) (some ⟨W.heap.size, 0, none⟩) l2.length l2 _ hx (sl_lit W E l2 e _ rfl) hn hm (by simp; omega) fun v' w' h2 h3 h4 h5 h6 => ?_
  have hs := h3.size
  simp at hs
  refine h v' w' h2 ⟨h3.os, h3.tape, h3.output, by omega, fun i hi hne => (h3.block i (by simp; omega) hne).trans (Below.heap_alloc W _ i hi)⟩ (by omega) ?_ ?_ h6
  · rcases h4 with h4 | h4
    · exact .inl h4
    · right; rw [h4]; simp
  · exact ((Below.refl base W).alloc hbase _).trans h5
end
end Go.Proofs.YtcjnchjmpkapmaaGreat
/- slices.Sort and slices.Compact on a list of ints that the call owns. -/
namespace Go.Proofs.YtcjnchjmpkapmaaGreat
open Go.ChangeShapes Go.WideShapes Go.ChangeAt Go.RowKit
set_option linter.unusedVariables false

theorem compact_own (w : World) (base g off cap : Nat) (l : List Int) (h : Own w base 3 encZ (.slice (some ⟨g, off, none⟩) l.length cap) l) (hm : l.length ≤ 1000000000000) :
    Calls Tryz.prog 248 #[.slice (some ⟨g, off, none⟩) l.length cap] w fun e w' => e = .returned (.slice (some ⟨g, off, none⟩) (Lib.compact l).length cap) ∧ Own w' base 3 encZ (.slice (some ⟨g, off, none⟩) (Lib.compact l).length cap) (Lib.compact l) ∧ Turn (fun b => b = g) w w' ∧ base ≤ g := by
  have hc := h.len_le
  have hle := (compact_sub l).length_le
  refine (Go.Proofs.Tryz.slices_Compact_int g off cap l w h.holdsZ (by omega) hc.2.1).mono ?_
  rintro e w' ⟨rfl, n, rfl⟩
  obtain ⟨h1, h2, h3⟩ := h.putZ (Lib.compact l ++ List.replicate (l.length - (Lib.compact l).length) 0) (Lib.compact l) (by simp; omega) _ rfl n #[]
  rw [Go.Sort.grow_empty] at h1 h2
  exact ⟨rfl, h1, h2, h3⟩
end Go.Proofs.YtcjnchjmpkapmaaGreat
/- Package gap: ends: an iterator over where something may change. -/
namespace Go.Proofs.YtcjnchjmpkapmaaGreat
open Go.ChangeShapes Go.WideShapes Go.ChangeAt Go.RowKit
set_option linter.unusedVariables false
set_option linter.unusedSimpArgs false
set_option maxRecDepth 100000
attribute [local go_sem] Oper.semAt_some

def endsJ (l : Int) (r1 r2 : List Nd) (j : Nat) : List Int := match j with
  | 0 => [0]
  | 1 => 0 :: edgeL l r1
  | _ => gapE l r1 r2
structure GapDig (w : World) (s l : Nat) (r1 r2 : List Nd) (j g K : Nat) (k : Int) (r : List Nd) (F : Nat → Prop) : Prop where
  c : w.cell? ⟨s, j, none⟩ = some (.pointer (some ⟨g, 0, none⟩))
  d : DigAt w g K l k r F
  m : r.length ≤ 67108864
  e : endsJ l r1 r2 (j + 1) = endsJ l r1 r2 j ++ edgeL l r
  el : (endsJ l r1 r2 j).length ≤ 134217729
def EndsPost (E : List Int) (w : World) (e : Ending) (w' : World) : Prop := ∃ (b : Nat) (A : Option Addr) (cap : Nat) (L : List Int), e = .returned (.func (.func 249) #[] #[.pointer (some ⟨b, 0, none⟩)]) ∧ w.heap.size ≤ b ∧ w'.heap[b]? = some (.cells #[.slice A L.length cap] 49 (0, 0)) ∧ Own w' w.heap.size 3 encZ (.slice A L.length cap) L ∧ Rising L E ∧ L.length ≤ E.length ∧ Below w.heap.size w w'
set_option maxHeartbeats 4000000 in
theorem gap_ends (w : World) (s g1 g2 K1 K2 l : Nat) (k1 k2 : Int) (r1 r2 : List Nd) (F1 F2 : Nat → Prop) (hs : w.heap[s]? = some (.cells #[.pointer (some ⟨g1, 0, none⟩), .pointer (some ⟨g2, 0, none⟩)] 28 (0, 0))) (h1 : DigAt w g1 K1 l k1 r1 F1) (h2 : DigAt w g2 K2 l k2 r2 F2) (m1 : r1.length ≤ 67108864) (m2 : r2.length ≤ 67108864) :
    Calls Tryz.prog 157 #[.slice (some ⟨s, 0, none⟩) 2 2] w (EndsPost (gapE l r1 r2) w) := by
  have HJ : Hid (∀ j, j < 2 → ∃ g K k r F, GapDig w s l r1 r2 j g K k r F) := Lib.hid fun j hj => by
    have c := blk_cell hs
    rcases (show j = 0 ∨ j = 1 by omega) with rfl | rfl
    · exact ⟨g1, K1, k1, r1, F1, c 0, h1, m1, rfl, by simp [endsJ]⟩
    · exact ⟨g2, K2, k2, r2, F2, c 1, h2, m2, by simp only [endsJ, gapE, edgeL_append]; rfl, by simp only [endsJ, List.length_cons, edgeL_len]; omega⟩
  have zs := lt_of_block hs
  have hl := h1.l_le
  have HE := Lib.hid (fun (W : World) (id : Int) (h : id ≤ 9223372036854775807) => twig_Ends W l id h)
  have HG2 := Lib.hid (gapE_len l r1 r2)
  clear hs h1 h2
  go_enter Tryz.func157, Tryz.ntmps157
  go_upto_region 2 with fail
  have O0 := Lib.hid (Own.lit (base := w.heap.size) w encZ [0] 3 (Nat.le_refl _) (by simp [maxLen]))
  simp only [List.flatMap_cons, List.flatMap_nil, List.append_nil, encZ, List.length_singleton] at O0
  have OB := Lib.hid (O0.out.alloc (.cells #[.slice (some ⟨w.heap.size, 0, none⟩) 1 1] 49))
  have KB := Lib.hid (heap_new_at (w.alloc (.cells #[.int .i64 0] 3)) (.cells #[.slice (some ⟨w.heap.size, 0, none⟩) 1 1] 49) (w.heap.size + 1) (by simp))
  have BA : Below w.heap.size w ((w.alloc (.cells #[.int .i64 0] 3)).alloc (.cells #[.slice (some ⟨w.heap.size, 0, none⟩) 1 1] 49)) := (by repeat (first | with_reducible exact Below.refl _ _ | with_reducible assumption | ((with_reducible refine Below.setCell ?_ ?_ _); rotate_left; · (first | omega | exact Nat.le_refl _ | (simp <;> omega))) | (with_reducible refine Below.allocW ?_ _) | (with_reducible refine Below.drew ?_) | (with_reducible refine Below.extW ?_ _)))
  have HBA := Lib.hid BA
  clear O0 BA
  generalize (w.alloc (.cells #[.int .i64 0] 3)).alloc (.cells #[.slice (some ⟨w.heap.size, 0, none⟩) 1 1] 49) = W0 at OB KB HBA ⊢
  go_wp2_with fail
  go_loopw [15] (fun i wr => ∃ j : Nat, j ≤ 2 ∧ i = .int .i64 j ∧ ∃ v, wr.heap[w.heap.size + 1]? = some (.cells #[v] 49 (0, 0)) ∧ Own wr w.heap.size 3 encZ v (endsJ l r1 r2 j) ∧ Below w.heap.size w wr) (fun i _ => 2 - (intOf i).toNat)
  case atStart => exact ⟨0, Nat.zero_le _, rfl, _, KB.out, OB.out, HBA.out⟩
  case round =>
    obtain ⟨j, hj, rfl, v, hbox, hown, hB⟩ := hrel
    by_cases hlt : j < 2
    · obtain ⟨g, K, k, r, F, G⟩ := HJ.out j hlt
      have hsz := hB.size
      have cs := (hB.cell (p := ⟨s, j, none⟩) zs).trans G.c
      have zs' : s < wr.heap.size := by omega
      have HD := Lib.hid (G.d.below hB)
      have hm := G.m
      have EJ := Lib.hid G.e
      have hel := G.el
      have hfit := G.d.fits
      have HX : Hid (∀ x ∈ r, x.1 ≤ 9223372036854775807) := Lib.hid fun x hx => by
        have a1 := hfit.lt x hx
        have a2 := pow_48 (n := l) hl.2
        omega
      have HBOX := Lib.hid hbox
      have HOWN := Lib.hid hown
      have HB := Lib.hid hB
      obtain ⟨D, hD⟩ : ∃ D, D = endsJ l r1 r2 j := ⟨_, rfl⟩
      rw [← hD] at HOWN EJ hel
      clear G hbox hown hB hD hfit
      have HBr := HB.out
      go_wp2_with fail
      refine (digest_Conf _ g K l k r F HD.out).mono ?_
      rintro e w1 ⟨rfl, hb1⟩
      have B1 : Below w.heap.size w w1 := Below.then_ (by repeat (first | with_reducible exact Below.refl _ _ | with_reducible assumption | ((with_reducible refine Below.setCell ?_ ?_ _); rotate_left; · (first | omega | exact Nat.le_refl _ | (simp <;> omega))) | (with_reducible refine Below.allocW ?_ _) | (with_reducible refine Below.drew ?_) | (with_reducible refine Below.extW ?_ _))) hb1
      have s1 : w.heap.size ≤ w1.heap.size := B1.size
      have BB1 := Lib.hid (HB.out.trans (hb1.mono HB.out.size))
      have HD1 := Lib.hid (HD.out.below hb1)
      have BX1 := Lib.hid (blk_below HBOX.out hb1)
      have OW1 := Lib.hid (HOWN.out.below hb1)
      clear hb1 HBr
      go_wp2_with fail
      refine (digest_Nodes _ g K l k r F HD1.out hm).mono ?_
      rintro e w2 ⟨vn, rfl, ho2, hb2⟩
      have BB2 := Lib.hid (BB1.out.trans (hb2.mono BB1.out.size))
      have BX2 := Lib.hid (blk_below BX1.out hb2)
      have OW2 := Lib.hid (OW1.out.below hb2)
      obtain ⟨An, cn, rfl, _⟩ := ho2.form
      have ON2 := Lib.hid (ho2.base_le (b := w.heap.size) BB1.out.size)
      clear hb2 ho2 HB HD HD1 BB1 BX1 OW1 HBOX HOWN
      go_wp2_with fail
      go_loopw [25] (fun i wr => ∃ q : Nat, q ≤ r.length ∧ i = .int .i64 q ∧ ∃ v, wr.heap[w.heap.size + 1]? = some (.cells #[v] 49 (0, 0)) ∧ Own wr w.heap.size 3 encZ v (D ++ edgeL l (r.take q)) ∧ Own wr w.heap.size 153 encN (.slice An r.length cn) r ∧ Below w.heap.size w wr) (fun i _ => r.length - (intOf i).toNat)
      case atStart => exact ⟨0, Nat.zero_le _, rfl, _, BX2.out, by simpa [edgeL] using OW2.out, ON2.out, BB2.out⟩
      case round =>
        obtain ⟨q, hq, rfl, v5, hbox, hown, hnod, hB⟩ := hrel
        have HBOX := Lib.hid hbox
        have HOWN := Lib.hid hown
        have HNOD := Lib.hid hnod
        have HB := Lib.hid hB
        have hsz5 := hB.size
        have hlen : (D ++ edgeL l (r.take q)).length ≤ 402653185 := by rw [List.length_append, edgeL_len, List.length_take, Nat.min_eq_left hq]; omega
        by_cases hlt5 : q < r.length
        · obtain ⟨c, off, rfl, hc, hcl⟩ := hnod.sl.at_ hlt5
          have d0 := hcl 0 (.int .i64 r[q].1) rfl
          have d1 := hcl 1 (.int .i64 r[q].2) rfl
          simp only [Nat.add_zero] at d0
          have hx := HX.out _ (List.getElem_mem hlt5)
          have E1 := Lib.hid (show D ++ edgeL l (r.take (q + 1)) = (D ++ edgeL l (r.take q)) ++ [(endsOf l r[q].1).1, (endsOf l r[q].1).2.1] by rw [edgeL_take (l : Int) r hlt5, List.append_assoc])
          obtain ⟨C, hC⟩ : ∃ C, C = D ++ edgeL l (r.take q) := ⟨_, rfl⟩
          rw [← hC] at HOWN hlen E1
          obtain ⟨y, hy⟩ : ∃ y, y = r[q] := ⟨_, rfl⟩
          rw [← hy] at d0 d1 hx E1
          have HEy := Lib.hid (HE.out · y.1 hx)
          generalize endsOf l y.1 = t at HEy E1
          obtain ⟨t1, t2, t3⟩ := t
          unfold endsV at HEy
          clear hcl hy hnod hx hB hC hbox hown
          go_wp2_with fail
          refine (HEy.out _).mono ?_
          rintro e w6 ⟨rfl, hb6⟩
          have BW : Below wr.heap.size wr w6 := ((Below.refl wr.heap.size wr).alloc (Nat.le_refl _) _).trans (hb6.mono (by simp))
          have k6 := blk_below HBOX.out BW
          have c6 := blk_cell k6
          have z6 := lt_of_block k6
          have K6 := Lib.hid k6
          obtain ⟨A6, n6, rfl, _⟩ := HOWN.out.form
          have O6 := Lib.hid (HOWN.out.below BW)
          have N6 := Lib.hid (HNOD.out.below BW)
          have B6 := Lib.hid (HB.out.trans (BW.mono hsz5))
          clear BW k6 hb6 HBOX HOWN HNOD HB
          go_wp2_with ((at_builtin; refine wpList_pushes tyZ rfl _ _ rfl encZ w6 w.heap.size (.slice A6 C.length n6) C rfl O6.out [t1, t2] 2 rfl (by go_simp) rfl ?c1 ?c2 ?c3 ?c4))
          case c1 => simp only [List.length_cons, List.length_nil]; omega
          case c2 => simp only [maxLen, List.length_cons, List.length_nil]; omega
          case c3 => exact B6.out.size
          case c4 =>
            intro v7 w7 ho7 hg7 hlt7 hlies hb7 _
            have N7 := Lib.hid (N6.out.kept hg7 (own_ne N6.out O6.out (by decide)))
            have K7 := Lib.hid (blk_grown K6.out O6.out hg7 (by decide))
            have B7 := Lib.hid (B6.out.trans hb7)
            obtain ⟨A7, n7, rfl, _⟩ := ho7.form
            have O7 := Lib.hid (show Own w7 w.heap.size 3 encZ (.slice A7 (C.length + 2) n7) (D ++ edgeL l (r.take (q + 1))) by rw [E1.out]; simpa using ho7)
            have c7 := blk_cell K7.out
            have f7 := blk_frozen K7.out
            have z7 := lt_of_block K7.out
            clear ho7 hg7 hlies hb7 K6 O6 N6 B6 c6 z6
            go_wp2_with fail
            go_roundw
            case rel => exact ⟨q + 1, by omega, by go_num, _, heap_set_at (i := 0) K7.out _, O7.out.setCell (fun h => O7.out.ne_block K7.out (by decide) h) _, N7.out.setCell (fun h => N7.out.ne_block K7.out (by decide) h) _, B7.out.setCell (p := ⟨w.heap.size + 1, 0, none⟩) (by simp) _⟩
            case measure => simp [intOf]; omega
        · obtain rfl : q = r.length := by omega
          rw [List.take_length] at HOWN
          rw [← EJ.out] at HOWN
          go_wp2_with fail
          go_roundw
          case rel => exact ⟨j + 1, by omega, by go_num, _, HBOX.out, HOWN.out, HB.out⟩
          case measure => simp [intOf]; omega
    · obtain rfl : j = 2 := by omega
      have HOWN := Lib.hid (show Own wr w.heap.size 3 encZ v (gapE l r1 r2) from hown)
      obtain ⟨E, hE⟩ : ∃ E, E = gapE l r1 r2 := ⟨_, rfl⟩
      have hE0 : 0 < E.length := by rw [hE, HG2.out]; omega
      have hEl : E.length ≤ 1000000000000 := by rw [hE, HG2.out]; omega
      rw [← hE] at HOWN
      have HE' := Lib.hid hE
      rcases HOWN.out with ⟨_, h0⟩ | ⟨ga, off, cap, cur, rfl, hga, _⟩
      · rw [h0] at hE0; simp at hE0
      · have HO := Lib.hid (show Own wr w.heap.size 3 encZ (.slice (some ⟨ga, off, none⟩) E.length cap) E from HOWN.out)
        have HBOX := Lib.hid hbox
        have HB := Lib.hid hB
        have cb := blk_cell hbox
        have zb := lt_of_block hbox
        clear hown hbox hB hE HOWN HJ HE
        go_wp2_with fail
        refine (sort_own _ w.heap.size ga off cap E HO.out HB.out.size hEl).mono ?_
        rintro e w1 ⟨rfl, hs1, ht1, _⟩
        have hne : w.heap.size + 1 ≠ ga := fun h => by
          have := HO.out.ne_block HBOX.out (by decide)
          exact this (by rw [h]; rfl)
        have K1 := Lib.hid (ht1.keep HBOX.out hne)
        have B1 := Lib.hid (HB.out.trans (ht1.below (base := w.heap.size) (fun b hb => by rw [hb]; exact hga) HB.out.size))
        have hl1 : (E.mergeSort fun x y => decide (x ≤ y)).length = E.length := List.length_mergeSort _
        have hr := compact_rising E
        have hle := compact_len_le E
        obtain ⟨S, hS⟩ : ∃ S, S = E.mergeSort fun x y => decide (x ≤ y) := ⟨_, rfl⟩
        rw [← hS] at hs1 hl1 hr hle
        have O1 := Lib.hid (show Own w1 w.heap.size 3 encZ (.slice (some ⟨ga, off, none⟩) S.length cap) S by rw [hl1]; exact hs1)
        have hc := compact_own w1 w.heap.size ga off cap S O1.out (by rw [hl1]; exact hEl)
        rw [hl1] at hc
        have HC := Lib.hid hc
        have c1 := blk_cell K1.out
        have f1 := blk_frozen K1.out
        have z1 := lt_of_block K1.out
        clear hs1 ht1 hl1 hS cb zb HBOX HB HO hc
        go_wp2_with fail
        refine HC.out.mono ?_
        rintro e w2 ⟨rfl, hc2, ht2, _⟩
        have K2 := Lib.hid (ht2.keep K1.out hne)
        have B2 := Lib.hid (B1.out.trans (ht2.below (base := w.heap.size) (fun b hb => by rw [hb]; exact hga) B1.out.size))
        obtain ⟨L, hL⟩ : ∃ L, L = Lib.compact S := ⟨_, rfl⟩
        rw [← hL] at hc2 hr hle ⊢
        have O2 := Lib.hid hc2
        have c2 := blk_cell K2.out
        have f2 := blk_frozen K2.out
        have z2 := lt_of_block K2.out
        clear hc2 ht2 hL c1 f1 z1 K1 O1 B1
        go_wp2_with fail
        go_ret
        exact ⟨w.heap.size + 1, some ⟨ga, off, none⟩, cap, L, rfl, by omega, heap_set_at (i := 0) K2.out _, O2.out.setCell (fun h => O2.out.ne_block K2.out (by decide) h) _, HE'.out ▸ hr, HE'.out ▸ hle, B2.out.setCell (p := ⟨w.heap.size + 1, 0, none⟩) (by simp) _⟩
end Go.Proofs.YtcjnchjmpkapmaaGreat
/- Package gap: the iterator of ends. -/
namespace Go.Proofs.YtcjnchjmpkapmaaGreat
open Go.ChangeShapes Go.WideShapes Go.ChangeAt Go.RowKit
set_option linter.unusedVariables false
set_option linter.unusedSimpArgs false
set_option maxRecDepth 100000
attribute [local go_sem] Oper.semAt_some

set_option maxHeartbeats 2000000 in
theorem ends_stops (n b z : Nat) (X : Nat → Prop) (A : Option Addr) (cap : Nat) (L : List Int) (w : World) (hn : 1 ≤ n) (hz : z ≤ w.heap.size)
    (hb : w.heap[b]? = some (.cells #[.slice A L.length cap] 49 (0, 0))) (hS : SlX w z X A L) (b1 : b < z) (b2 : ¬ X b) (hlen : L.length ≤ 1000000000000) :
    SeqStopsK Fence.wide n Tryz.prog 249 #[.pointer (some ⟨b, 0, none⟩)] (fun x : Int => #[Value.int .i64 x]) (KeepX z X) (fun ys => ys = L) (fun pre => pre <+: L) L.length w := fun q J Jx W hW hJ hJx hY h0 => by
  have hWz : Below z w W := hW.mono hz
  have kb := Lib.hid (blk_below hb hW)
  have KS := Lib.hid (hS.below hWz)
  have cb := blk_cell kb.out
  have zb := lt_of_block kb.out
  have HY := Lib.hid hY
  have H0 := Lib.hid h0
  clear hb hS hY hJ hJx h0
  refine callsIn_of_wp Tryz.func249 rfl trivial ?_ rfl
  simp only [Tryz.ntmps249, List.size_toArray, List.length_cons, List.length_nil, Nat.reduceAdd, Nat.reduceSub, Array.replicate_succ, Array.replicate_zero, List.push_toArray, List.append_toArray, List.nil_append, List.cons_append]
  gi_wp2_with fail
  gi_loopw [7] (fun i wr => ∃ k : Nat, k ≤ L.length ∧ i = .int .i64 k ∧ J (L.take k) wr ∧ KeepX z X W wr) (fun i _ => L.length - (intOf i).toNat)
  case atStart => exact ⟨0, Nat.zero_le _, rfl, H0.out, KeepX.refl _⟩
  case round =>
    obtain ⟨k, hk, rfl, hJk, hK⟩ := hrel
    have KJ := Lib.hid hJk
    have KK := Lib.hid hK
    by_cases hlt : k < L.length
    · obtain ⟨c, off, rfl, hc, hcl⟩ := (KS.out.keep hK).at_ hlt
      have zc : c < wr.heap.size := by have := hK.1; have := hW.size; omega
      have hT := List.take_succ_eq_append_getElem hlt
      obtain ⟨x, hx⟩ : ∃ x, x = L[k] := ⟨_, rfl⟩
      rw [← hx] at hcl hT
      obtain ⟨fn, tmps, assign, body, hy, hR⟩ := HY.out (L.take k) x _ KJ.out (by rw [List.length_take]; omega)
      rw [← hT] at hR
      clear hx hT hJk hK
      gi_wp2_with fail
      refine hR.mono ?_
      rintro e w3 (⟨rfl, hJ3, hk3⟩ | ⟨rfl, hJx3⟩)
      · have K3 := Lib.hid (keepX_t KK.out hk3)
        have J3 := Lib.hid hJ3
        clear hJ3 hk3
        gi_wp2_with fail
        go_roundw
        case rel => exact ⟨k + 1, by omega, by go_num, J3.out, K3.out⟩
        case measure => simp [intOf]; omega
      · have J3 := Lib.hid hJx3
        clear hJx3
        gi_wp2_with fail
        refine bodyPost_ret (results_none rfl _ _ _) rfl ?_
        exact ⟨⟨_, rfl⟩, .inr ⟨_, List.take_prefix _ _, J3.out⟩⟩
    · obtain rfl : k = L.length := by omega
      rw [List.take_length] at KJ
      gi_wp2_with fail
      go_end0
      exact ⟨⟨_, rfl⟩, .inl ⟨_, rfl, KJ.out⟩⟩
end Go.Proofs.YtcjnchjmpkapmaaGreat
/- Package gap: Apart. -/
namespace Go.Proofs.YtcjnchjmpkapmaaGreat
open Go.ChangeShapes Go.WideShapes Go.ChangeAt Go.RowKit
set_option linter.unusedVariables false
set_option linter.unusedSimpArgs false
set_option maxRecDepth 100000
attribute [local go_sem] Oper.semAt_some

def apT (l m : Int) (a b : List Nd) : Int × Int := if gapErr l m a b = 0 then apFold (sideOf l a b) (gapE l a b) else (0, 0)
theorem gap_side_of {w : World} {L1 B1 g1 L2 B2 g2 l : Nat} {lt1 ft1 lt2 ft2 r1 r2 : List Nd} (x : Int) (h1 : TabAt w L1 B1 g1 (sumR r1) lt1 ft1) (h2 : TabAt w L2 B2 g2 (sumR r2) lt2 ft2) (b1 : B1 ≤ w.heap.size) (b2 : B2 ≤ w.heap.size)
    (t1 : Tab (lastL l r1) lt1) (f1 : Tab (firstL l r1) ft1) (t2 : Tab (lastL l r2) lt2) (f2 : Tab (firstL l r2) ft2) (m1 : lt1.length ≤ 67108864) (m1' : ft1.length ≤ 67108864) (m2 : lt2.length ≤ 67108864) (m2' : ft2.length ≤ 67108864) (fit1 : Fits l r1) (fit2 : Fits l r2) :
    Calls Tryz.prog 159 #[.pointer (some ⟨g1, 0, none⟩), .pointer (some ⟨g2, 0, none⟩), .int .i64 x] w fun e w' => e = .returned (.int .i64 (sideOf l r1 r2 x)) ∧ Below w.heap.size w w' := by
  have z1 := sumR_nonneg fit1.roll
  have z2 := sumR_nonneg fit2.roll
  have y1 := fit1.sum
  have y2 := fit2.sum
  have a1 := low_range (l := l) fit1.roll x
  have a2 := high_range' (l := l) fit1.roll x
  have a3 := low_range (l := l) fit2.roll x
  have a4 := high_range' (l := l) fit2.roll x
  obtain ⟨n, e1⟩ := Int.eq_ofNat_of_zero_le z1
  obtain ⟨m, e2⟩ := Int.eq_ofNat_of_zero_le z2
  obtain ⟨pl, e3⟩ := Int.eq_ofNat_of_zero_le a1.1
  obtain ⟨ph, e4⟩ := Int.eq_ofNat_of_zero_le a2.1
  obtain ⟨ql, e5⟩ := Int.eq_ofNat_of_zero_le a3.1
  obtain ⟨qh, e6⟩ := Int.eq_ofNat_of_zero_le a4.1
  unfold sideOf
  rw [e1] at h1
  rw [e2] at h2
  rw [e1, e2, e3, e4, e5, e6, sideV_nat]
  exact gap_side w x n m pl ph ql qh h1 h2 b1 b2 m1 t1.rise m1' f1.rise m2 t2.rise m2' f2.rise
    (by rw [t1.upT, low_up]; exact e3) (by rw [f1.upT, high_up]; exact e4) (by rw [t2.upT, low_up]; exact e5) (by rw [f2.upT, high_up]; exact e6) (by omega) (by omega) (by omega) (by omega) (by omega) (by omega)
structure ApI (b4 bt bu t1 t2 L1 B1 L2 B2 : Nat) (n m : Int) (lt1 ft1 lt2 ft2 : List Nd) (W : World) : Prop where
  x4 : W.heap[b4]? = some (.cells #[.int .i64 0] 3 (0, 0))
  x5 : W.heap[b4 + 1]? = some (.cells #[.int .i64 0] 3 (0, 0))
  x6 : W.heap[b4 + 1 + 1]? = some (.cells #[.int .i64 0] 40 (0, 0))
  t : W.heap[bt]? = some (.cells #[.pointer (some ⟨t1, 0, none⟩)] 52 (0, 0))
  u : W.heap[bu]? = some (.cells #[.pointer (some ⟨t2, 0, none⟩)] 52 (0, 0))
  tab1 : TabAt W L1 B1 t1 n lt1 ft1
  tab2 : TabAt W L2 B2 t2 m lt2 ft2
theorem ApI.below {b4 bt bu t1 t2 L1 B1 L2 B2 : Nat} {n m : Int} {lt1 ft1 lt2 ft2 : List Nd} {W W' : World} (h : ApI b4 bt bu t1 t2 L1 B1 L2 B2 n m lt1 ft1 lt2 ft2 W) (hb : Below W.heap.size W W') (h1 : B1 ≤ W.heap.size) (h2 : B2 ≤ W.heap.size) : ApI b4 bt bu t1 t2 L1 B1 L2 B2 n m lt1 ft1 lt2 ft2 W' :=
  ⟨blk_below h.x4 hb, blk_below h.x5 hb, blk_below h.x6 hb, blk_below h.t hb, blk_below h.u hb, h.tab1.below (hb.mono h1), h.tab2.below (hb.mono h2)⟩
theorem ApI.grown {b4 bt bu t1 t2 L1 B1 L2 B2 : Nat} {n m : Int} {lt1 ft1 lt2 ft2 : List Nd} {A B : World} {row : Option Nat} (h : ApI b4 bt bu t1 t2 L1 B1 L2 B2 n m lt1 ft1 lt2 ft2 A) (hg : A.grownBy B row) (hr : ∀ r, row = some r → ∃ o : Obj, A.heap[r]? = some o ∧ o.isCells = false) : ApI b4 bt bu t1 t2 L1 B1 L2 B2 n m lt1 ft1 lt2 ft2 B :=
  ⟨row_grown h.x4 hg hr, row_grown h.x5 hg hr, row_grown h.x6 hg hr, row_grown h.t hg hr, row_grown h.u hg hr, tab_grown h.tab1 hg hr, tab_grown h.tab2 hg hr⟩
structure Res3 (b : Nat) (x y z : Value) (W : World) : Prop where
  r4 : W.heap[b]? = some (.cells #[x] 3 (0, 0))
  r5 : W.heap[b + 1]? = some (.cells #[y] 3 (0, 0))
  r6 : W.heap[b + 1 + 1]? = some (.cells #[z] 40 (0, 0))
theorem Res3.put {b : Nat} {x y z : Value} {W : World} (h : Res3 b x y z W) (x' y' z' : Value) : Res3 b x' y' z' (((W.setCell ⟨b, 0, none⟩ x').setCell ⟨b + 1, 0, none⟩ y').setCell ⟨b + 1 + 1, 0, none⟩ z') :=
  ⟨(Below.heap_setCell _ _ _ _ (show b ≠ b + 1 + 1 by omega)).trans ((Below.heap_setCell _ _ _ _ (show b ≠ b + 1 by omega)).trans (heap_set_at (i := 0) h.r4 _)),
   (Below.heap_setCell _ _ _ _ (show b + 1 ≠ b + 1 + 1 by omega)).trans (heap_set_at (i := 0) ((Below.heap_setCell _ _ _ _ (show b + 1 ≠ b by omega)).trans h.r5) _),
   heap_set_at (i := 0) ((Below.heap_setCell _ _ _ _ (show b + 1 + 1 ≠ b + 1 by omega)).trans ((Below.heap_setCell _ _ _ _ (show b + 1 + 1 ≠ b by omega)).trans h.r6)) _⟩
theorem Res3.below {b : Nat} {x y z : Value} {W W' : World} (h : Res3 b x y z W) (hb : Below W.heap.size W W') : Res3 b x y z W' := ⟨blk_below h.r4 hb, blk_below h.r5 hb, blk_below h.r6 hb⟩
theorem Res3.grown {b : Nat} {x y z : Value} {A B : World} {row : Option Nat} (h : Res3 b x y z A) (hg : A.grownBy B row) (hr : ∀ r, row = some r → ∃ o : Obj, A.heap[r]? = some o ∧ o.isCells = false) : Res3 b x y z B := ⟨row_grown h.r4 hg hr, row_grown h.r5 hg hr, row_grown h.r6 hg hr⟩
theorem Res3.new (w : World) : Res3 w.heap.size (.int .i64 0) (.int .i64 0) (.int .i64 0) (((w.alloc (.cells #[.int .i64 0] 3)).alloc (.cells #[.int .i64 0] 3)).alloc (.cells #[.int .i64 0] 40)) :=
  ⟨(heap_new_lt _ _ _ (by simp; omega)).trans ((heap_new_lt _ _ _ (by simp)).trans (heap_alloc_new w _)), (heap_new_lt _ _ _ (by simp)).trans (heap_new_at (w.alloc _) _ _ (by simp)), heap_new_at ((w.alloc _).alloc _) _ _ (by simp)⟩
theorem Res3.put_below {w W : World} {b : Nat} (hB : Below w.heap.size w W) (hb : w.heap.size ≤ b) (x' y' z' : Value) : Below w.heap.size w (((W.setCell ⟨b, 0, none⟩ x').setCell ⟨b + 1, 0, none⟩ y').setCell ⟨b + 1 + 1, 0, none⟩ z') :=
  ((hB.setCell (p := ⟨b, 0, none⟩) hb _).setCell (p := ⟨b + 1, 0, none⟩) (by simp only; omega) _).setCell (p := ⟨b + 1 + 1, 0, none⟩) (by simp only; omega) _
theorem gap_Apart_no (w : World) (g1 K1 l1 g2 K2 l2 : Nat) (k1 k2 : Int) (r1 r2 : List Nd) (F1 F2 : Nat → Prop) (h1 : DigAt w g1 K1 l1 k1 r1 F1) (h2 : DigAt w g2 K2 l2 k2 r2 F2) (he : gapErr l1 l2 r1 r2 ≠ 0) :
    Calls Tryz.prog 154 #[.pointer (some ⟨g1, 0, none⟩), .pointer (some ⟨g2, 0, none⟩)] w fun e w' => e = .returned (.tuple #[.int .i64 (apT l1 l2 r1 r2).1, .int .i64 (apT l1 l2 r1 r2).2, .int .i64 (gapErr l1 l2 r1 r2)]) ∧ Below w.heap.size w w' := by
  have hs : apT l1 l2 r1 r2 = (0, 0) := by unfold apT; rw [if_neg he]
  rw [hs]
  have HW := Lib.hid (gap_wrong _ g1 K1 l1 g2 K2 l2 k1 k2 r1 r2 F1 F2 (((h1.alloc (.cells #[.int .i64 0] 3)).alloc (.cells #[.int .i64 0] 3)).alloc (.cells #[.int .i64 0] 40)) (((h2.alloc (.cells #[.int .i64 0] 3)).alloc (.cells #[.int .i64 0] 3)).alloc (.cells #[.int .i64 0] 40)))
  have hne : (gapErr l1 l2 r1 r2 == 0) = false := by simpa using he
  clear hs he h1 h2
  generalize gapErr l1 l2 r1 r2 = er at HW hne ⊢
  refine (callsIn_wide (n := 3)).1 ?_
  refine callsIn_of_wp_marks Tryz.func154 rfl trivial ?_ rfl
  simp only [Tryz.ntmps154, List.size_toArray, List.length_cons, List.length_nil, Nat.reduceAdd, Nat.reduceSub, Array.replicate_succ, Array.replicate_zero, List.push_toArray, List.append_toArray, List.nil_append, List.cons_append]
  gi_wp2_with fail
  refine ⟨trivial, ?_⟩
  refine (callsIn_wide.2 HW.out).mono ?_
  rintro e w1 ⟨rfl, hb1⟩
  have B1 : Below w.heap.size w w1 := Below.then_ (by repeat (first | with_reducible exact Below.refl _ _ | with_reducible assumption | ((with_reducible refine Below.setCell ?_ ?_ _); rotate_left; · (first | omega | exact Nat.le_refl _ | (simp <;> omega))) | (with_reducible refine Below.allocW ?_ _) | (with_reducible refine Below.drew ?_) | (with_reducible refine Below.extW ?_ _))) hb1
  have R1 := (Res3.new w).below hb1
  have c4 := blk_cell R1.r4
  have c5 := blk_cell R1.r5
  have c6 := blk_cell R1.r6
  have f4 := blk_frozen R1.r4
  have f5 := blk_frozen R1.r5
  have f6 := blk_frozen R1.r6
  have z4 := lt_of_block R1.r4
  have z5 := lt_of_block R1.r5
  have z6 := lt_of_block R1.r6
  have R2 := Lib.hid (R1.put (.int .i64 0) (.int .i64 0) (.int .i64 er))
  have B2 := Lib.hid (Res3.put_below B1 (Nat.le_refl _) (.int .i64 0) (.int .i64 0) (.int .i64 er))
  clear R1 hb1
  gi_wp2_with fail
  generalize ((w1.setCell ⟨w.heap.size, 0, none⟩ (.int .i64 0)).setCell ⟨w.heap.size + 1, 0, none⟩ (.int .i64 0)).setCell ⟨w.heap.size + 1 + 1, 0, none⟩ (.int .i64 er) = W2 at R2 B2 ⊢
  have d4 := blk_cell R2.out.r4 0
  have d5 := blk_cell R2.out.r5 0
  have d6 := blk_cell R2.out.r6 0
  exact ⟨.tuple #[.int .i64 0, .int .i64 0, .int .i64 er], by simp [results, Tryz.f154, go_sem, d4, d5, d6], rfl, B2.out⟩
set_option maxHeartbeats 2000000 in
theorem gap_Apart_yes (w : World) (g1 K1 l g2 K2 : Nat) (k1 k2 : Int) (r1 r2 : List Nd) (F1 F2 : Nat → Prop) (h1 : DigAt w g1 K1 l k1 r1 F1) (h2 : DigAt w g2 K2 l k2 r2 F2) (m1 : r1.length ≤ 67108864) (m2 : r2.length ≤ 67108864) (he : gapErr l l r1 r2 = 0) :
    Calls Tryz.prog 154 #[.pointer (some ⟨g1, 0, none⟩), .pointer (some ⟨g2, 0, none⟩)] w fun e w' => e = .returned (.tuple #[.int .i64 (apT l l r1 r2).1, .int .i64 (apT l l r1 r2).2, .int .i64 0]) ∧ Below w.heap.size w w' := by
  have hs : apT l l r1 r2 = apFold (sideOf l r1 r2) (gapE l r1 r2) := by unfold apT; rw [if_pos he]
  rw [hs]
  have D1 := Lib.hid (((h1.alloc (.cells #[.int .i64 0] 3)).alloc (.cells #[.int .i64 0] 3)).alloc (.cells #[.int .i64 0] 40))
  have D2 := Lib.hid (((h2.alloc (.cells #[.int .i64 0] 3)).alloc (.cells #[.int .i64 0] 3)).alloc (.cells #[.int .i64 0] 40))
  have HW := Lib.hid (gap_wrong _ g1 K1 l g2 K2 l k1 k2 r1 r2 F1 F2 D1.out D2.out)
  rw [he] at HW
  have fit1 := h1.fits
  have fit2 := h2.fits
  have FIT := Lib.hid (And.intro fit1 fit2)
  have HGE := Lib.hid (gapE_len l r1 r2)
  clear hs he h1 h2 fit1 fit2
  refine (callsIn_wide (n := 3)).1 ?_
  refine callsIn_of_wp_marks Tryz.func154 rfl trivial ?_ rfl
  simp only [Tryz.ntmps154, List.size_toArray, List.length_cons, List.length_nil, Nat.reduceAdd, Nat.reduceSub, Array.replicate_succ, Array.replicate_zero, List.push_toArray, List.append_toArray, List.nil_append, List.cons_append]
  gi_wp2_with fail
  refine ⟨trivial, ?_⟩
  refine (callsIn_wide.2 HW.out).mono ?_
  rintro e w1 ⟨rfl, hb1⟩
  have B1 : Below w.heap.size w w1 := Below.then_ (by repeat (first | with_reducible exact Below.refl _ _ | with_reducible assumption | ((with_reducible refine Below.setCell ?_ ?_ _); rotate_left; · (first | omega | exact Nat.le_refl _ | (simp <;> omega))) | (with_reducible refine Below.allocW ?_ _) | (with_reducible refine Below.drew ?_) | (with_reducible refine Below.extW ?_ _))) hb1
  have R1 := Lib.hid ((Res3.new w).below hb1)
  have E1 := Lib.hid (D1.out.below hb1)
  have E2 := Lib.hid (D2.out.below hb1)
  have s1 := B1.size
  have s1' : w.heap.size + 3 ≤ w1.heap.size := by have := hb1.size; simp at this; omega
  clear hb1 HW D1 D2
  gi_wp2_with fail
  refine ⟨trivial, ?_⟩
  refine (callsIn_wide.2 (rank_Of _ g1 K1 l k1 r1 F1 E1.out m1)).mono ?_
  rintro e w2 ⟨t1, lt1, ft1, rfl, htab1, htl1, htf1, hl1, hl1', hb2⟩
  have B2 : Below w.heap.size w w2 := B1.trans (hb2.mono s1)
  have R2 := Lib.hid (R1.out.below hb2)
  have G1 := Lib.hid (E1.out.below hb2)
  have G2 := Lib.hid (E2.out.below hb2)
  have T1 := Lib.hid htab1
  have HT1 := Lib.hid (And.intro htl1 (And.intro htf1 (And.intro hl1 hl1')))
  have s2 := hb2.size
  clear hb2 htab1 htl1 htf1 hl1 hl1' E1 E2 R1
  gi_wp2_with fail
  refine ⟨trivial, ?_⟩
  refine (callsIn_wide.2 (rank_Of _ g2 K2 l k2 r2 F2 G2.out m2)).mono ?_
  rintro e w3 ⟨t2, lt2, ft2, rfl, htab2, htl2, htf2, hl2, hl2', hb3⟩
  have B3 : Below w.heap.size w w3 := B2.trans (hb3.mono B2.size)
  have R3 := Lib.hid (R2.out.below hb3)
  have J1 := Lib.hid (G1.out.below hb3)
  have J2 := Lib.hid (G2.out.below hb3)
  have U1 := Lib.hid (T1.out.below hb3)
  have U2 := Lib.hid htab2
  have HT2 := Lib.hid (And.intro htl2 (And.intro htf2 (And.intro hl2 hl2')))
  have s3 := hb3.size
  clear hb3 htab2 htl2 htf2 hl2 hl2' G1 G2 R2 T1
  gi_wp2_with fail
  have BA : Below w3.heap.size w3 (((w3.alloc (.cells #[.pointer (some ⟨t1, 0, none⟩)] 52)).alloc (.cells #[.pointer (some ⟨t2, 0, none⟩)] 52)).alloc (.cells #[.pointer (some ⟨g1, 0, none⟩), .pointer (some ⟨g2, 0, none⟩)] 28)) := ((((Below.refl w3.heap.size w3).alloc (Nat.le_refl _) _).alloc (by simp) _).alloc (by simp; omega) _)
  have kt := (heap_new_lt ((w3.alloc (.cells #[.pointer (some ⟨t1, 0, none⟩)] 52)).alloc (.cells #[.pointer (some ⟨t2, 0, none⟩)] 52)) (.cells #[.pointer (some ⟨g1, 0, none⟩), .pointer (some ⟨g2, 0, none⟩)] 28) w3.heap.size (by simp; omega)).trans ((heap_new_lt (w3.alloc (.cells #[.pointer (some ⟨t1, 0, none⟩)] 52)) (.cells #[.pointer (some ⟨t2, 0, none⟩)] 52) w3.heap.size (by simp)).trans (heap_alloc_new w3 (.cells #[.pointer (some ⟨t1, 0, none⟩)] 52)))
  have ku := (heap_new_lt ((w3.alloc (.cells #[.pointer (some ⟨t1, 0, none⟩)] 52)).alloc (.cells #[.pointer (some ⟨t2, 0, none⟩)] 52)) (.cells #[.pointer (some ⟨g1, 0, none⟩), .pointer (some ⟨g2, 0, none⟩)] 28) (w3.heap.size + 1) (by simp)).trans (heap_new_at (w3.alloc (.cells #[.pointer (some ⟨t1, 0, none⟩)] 52)) (.cells #[.pointer (some ⟨t2, 0, none⟩)] 52) (w3.heap.size + 1) (by simp))
  have ks := heap_new_at ((w3.alloc (.cells #[.pointer (some ⟨t1, 0, none⟩)] 52)).alloc (.cells #[.pointer (some ⟨t2, 0, none⟩)] 52)) (.cells #[.pointer (some ⟨g1, 0, none⟩), .pointer (some ⟨g2, 0, none⟩)] 28) (w3.heap.size + 1 + 1) (by simp)
  have I4 : ApI w.heap.size w3.heap.size (w3.heap.size + 1) t1 t2 w1.heap.size w2.heap.size w2.heap.size w3.heap.size (sumR r1) (sumR r2) lt1 ft1 lt2 ft2 (((w3.alloc (.cells #[.pointer (some ⟨t1, 0, none⟩)] 52)).alloc (.cells #[.pointer (some ⟨t2, 0, none⟩)] 52)).alloc (.cells #[.pointer (some ⟨g1, 0, none⟩), .pointer (some ⟨g2, 0, none⟩)] 28)) :=
    ⟨(R3.out.below BA).r4, (R3.out.below BA).r5, (R3.out.below BA).r6, kt, ku, U1.out.below (BA.mono s3), U2.out.below BA⟩
  have II := Lib.hid I4
  have KS := Lib.hid ks
  have M1 := Lib.hid (J1.out.below BA)
  have M2 := Lib.hid (J2.out.below BA)
  have BB := Lib.hid (B3.trans (BA.mono B3.size))
  have sA := BA.size
  have sA3 : w3.heap.size + 3 ≤ (((w3.alloc (.cells #[.pointer (some ⟨t1, 0, none⟩)] 52)).alloc (.cells #[.pointer (some ⟨t2, 0, none⟩)] 52)).alloc (.cells #[.pointer (some ⟨g1, 0, none⟩), .pointer (some ⟨g2, 0, none⟩)] 28)).heap.size := by simp
  clear BA kt ku ks I4 J1 J2 U1 U2 R3
  generalize ((w3.alloc (.cells #[.pointer (some ⟨t1, 0, none⟩)] 52)).alloc (.cells #[.pointer (some ⟨t2, 0, none⟩)] 52)).alloc (.cells #[.pointer (some ⟨g1, 0, none⟩), .pointer (some ⟨g2, 0, none⟩)] 28) = W4 at II KS M1 M2 BB sA sA3 ⊢
  refine ⟨trivial, ?_⟩
  refine (callsIn_wide.2 (gap_ends _ (w3.heap.size + 1 + 1) g1 g2 K1 K2 l k1 k2 r1 r2 F1 F2 KS.out M1.out M2.out m1 m2)).mono ?_
  rintro e w5 ⟨b, A, cap, L, rfl, hb0, kb, ho, hrise, hle, hb5⟩
  have I5 := Lib.hid (II.out.below hb5 (by omega) (by omega))
  have BB5 := Lib.hid (BB.out.trans (hb5.mono BB.out.size))
  have KB := Lib.hid kb
  have zb := lt_of_block kb
  have SX := Lib.hid (SlX.of (z := w5.heap.size) (X := fun _ => False) ho.sl (Nat.le_refl _) (fun _ _ h => h))
  have HR := Lib.hid hrise
  have hL : L.length ≤ 1000000000000 := by rw [HGE.out] at hle; omega
  have s5 := hb5.size
  clear kb ho hrise hle hb5 II KS M1 M2 BB
  gi_wp2_with fail
  have hKB := Lib.hid (fun (W : World) (q : Nat) (o o' : Obj) (h : W.heap[q]? = some o) (hc : o.isCells = false) => keepX_b (z := w5.heap.size) (X := fun _ => False) W q o o' h hc)
  obtain ⟨f, hf⟩ : ∃ f, f = sideOf l r1 r2 := ⟨_, rfl⟩
  have HS : Hid (∀ (x : Int) (W : World), ApI w.heap.size w3.heap.size (w3.heap.size + 1) t1 t2 w1.heap.size w2.heap.size w2.heap.size w3.heap.size (sumR r1) (sumR r2) lt1 ft1 lt2 ft2 W → Calls Tryz.prog 159 #[.pointer (some ⟨t1, 0, none⟩), .pointer (some ⟨t2, 0, none⟩), .int .i64 x] W fun e w' => e = .returned (.int .i64 (f x)) ∧ Below W.heap.size W w') := Lib.hid fun x W h => by
    have hz := lt_of_block h.t
    obtain ⟨q1, q2, q3, q4⟩ := HT1.out
    obtain ⟨p1, p2, p3, p4⟩ := HT2.out
    rw [hf]
    exact gap_side_of x h.tab1 h.tab2 (by omega) (by omega) q1 q2 p1 p2 (by omega) (by omega) (by omega) (by omega) FIT.out.1 FIT.out.2
  have HF := Lib.hid hf
  clear hf HT1 HT2 FIT HGE
  refine wpIn_rangeFunc_ownG rfl (by decide) (gf := 249) (lb := #[.pointer (some ⟨b, 0, none⟩)]) rfl trivial (enters_of Tryz.func249 (by kernel_rfl) rfl)
    (ends_stops (3 - 1) b w5.heap.size (fun _ => False) A cap L w5 (by decide) (Nat.le_refl _) KB.out SX.out zb (fun h => h) hL)
    keepX_t (fun W q o o' _ h hc _ => hKB.out W q o o' h hc) (Below.refl _ _) (fun _ => rfl)
    (fun pre W => ((∀ y ∈ pre, f y = 0) ∧ ApI w.heap.size w3.heap.size (w3.heap.size + 1) t1 t2 w1.heap.size w2.heap.size w2.heap.size w3.heap.size (sumR r1) (sumR r2) lt1 ft1 lt2 ft2 W) ∧ Below w.heap.size w W)
    (fun c pre W => (c = .ret ∧ ∃ pre' x, pre = pre' ++ [x] ∧ (∀ y ∈ pre', f y = 0) ∧ f x ≠ 0 ∧ Res3 w.heap.size (.int .i64 x) (.int .i64 (f x)) (.int .i64 0) W) ∧ Below w.heap.size w W)
    (OwnFrom.and (Go.Own.from (fun s A B row hs hg hr => ⟨hs.1, hs.2.grown hg hr⟩) _) (ownFrom_below (Nat.le_refl _) (by have := BB5.out.size; omega)))
    (fun c => OwnFrom.and (Go.Own.from (fun s A B row hs hg hr => by obtain ⟨h1, p, x, h2, h3, h4, h5⟩ := hs; exact ⟨h1, p, x, h2, h3, h4, h5.grown hg hr⟩) _) (ownFrom_below (Nat.le_refl _) (by have := BB5.out.size; omega)))
    ⟨⟨by simp, I5.out⟩, BB5.out⟩
    (fun x => { tmps := #[.pointer (some ⟨g1, 0, none⟩), .pointer (some ⟨g2, 0, none⟩), undef, undef, .pointer (some ⟨w.heap.size, 0, none⟩), .pointer (some ⟨w.heap.size + 1, 0, none⟩), .pointer (some ⟨w.heap.size + 1 + 1, 0, none⟩), .int .i64 0, .pointer (some ⟨w3.heap.size, 0, none⟩), .pointer (some ⟨w3.heap.size + 1, 0, none⟩), .int .i64 x, undef,
      .pointer (some ⟨g1, 0, none⟩), .pointer (some ⟨g2, 0, none⟩), .int .i64 0, .int .i64 0, .bool false, undef, .pointer (some ⟨g1, 0, none⟩), .pointer (some ⟨t1, 0, none⟩), .pointer (some ⟨g2, 0, none⟩), .pointer (some ⟨t2, 0, none⟩), .pointer (some ⟨g1, 0, none⟩), .pointer (some ⟨g2, 0, none⟩), .slice (some ⟨w3.heap.size + 1 + 1, 0, none⟩) 2 2,
      .func (.func 249) #[] #[.pointer (some ⟨b, 0, none⟩)], .int .i64 x, undef, undef, undef, undef, undef, undef, undef, undef], defers := [] }) ?assign ?body ?done ?stop
  case assign =>
    intro q x W Kc hK
    gi_wp2
    exact hK
  case body =>
    rintro q pre x W ⟨⟨hall, hI⟩, hB⟩ _
    have HALL := Lib.hid hall
    have HI := Lib.hid hI
    have HB := Lib.hid hB
    have ct := blk_cell hI.t
    have cu := blk_cell hI.u
    have zt := lt_of_block hI.t
    have zu := lt_of_block hI.u
    have HSx := Lib.hid (HS.out x)
    obtain ⟨n, hn⟩ : ∃ n, n = f x := ⟨_, rfl⟩
    rw [← hn] at HSx
    have HN := Lib.hid hn
    have zt0 := hI.t
    clear hall hI hB hn HS
    by_cases hz : n = 0
    · subst hz
      gi_wp2_with fail
      refine ⟨trivial, ?_⟩
      refine (CallsIn.inRound q (callsIn_wide.2 (HSx.out _ HI.out))).mono ?_
      rintro e w6 ⟨rfl, hb6⟩
      have KF := Lib.hid ((KeepsOthers.of_grownBy (grownBy_of_below hb6 none) (fun _ _ h => by cases h)).from w5.heap.size)
      have KK := Lib.hid (KeepX.of_below (z := w5.heap.size) (X := fun _ => False) hb6)
      have I6 := Lib.hid (HI.out.below hb6 (by omega) (by omega))
      have B6 := Lib.hid (HB.out.trans (hb6.mono HB.out.size))
      clear hb6
      gi_wp2_with fail
      refine ⟨KF.out, KK.out, ⟨fun y hy => ?_, I6.out⟩, B6.out⟩
      rcases List.mem_append.1 hy with hy | hy
      · exact HALL.out y hy
      · rw [List.mem_singleton.1 hy]; exact HN.out.symm
    · have h1 : (n == 0) = false := by simpa using hz
      have h2 : (n != 0) = true := by simpa using hz
      gi_wp2_with fail
      refine ⟨trivial, ?_⟩
      refine (CallsIn.inRound q (callsIn_wide.2 (HSx.out _ HI.out))).mono ?_
      rintro e w6 ⟨rfl, hb6⟩
      have KF := Lib.hid ((KeepsOthers.of_grownBy (grownBy_of_below hb6 none) (fun _ _ h => by cases h)).from w5.heap.size)
      have R6 : Res3 w.heap.size (.int .i64 0) (.int .i64 0) (.int .i64 0) w6 := ⟨blk_below HI.out.x4 hb6, blk_below HI.out.x5 hb6, blk_below HI.out.x6 hb6⟩
      have B6 := HB.out.trans (hb6.mono HB.out.size)
      have c4 := blk_cell R6.r4
      have c5 := blk_cell R6.r5
      have c6 := blk_cell R6.r6
      have f4 := blk_frozen R6.r4
      have f5 := blk_frozen R6.r5
      have f6 := blk_frozen R6.r6
      have z4 := lt_of_block R6.r4
      have z5 := lt_of_block R6.r5
      have z6 := lt_of_block R6.r6
      have R7 := Lib.hid (R6.put (.int .i64 x) (.int .i64 n) (.int .i64 0))
      have B7 := Lib.hid (Res3.put_below B6 (Nat.le_refl _) (.int .i64 x) (.int .i64 n) (.int .i64 0))
      clear hb6 R6 B6
      gi_wp2_with fail
      exact ⟨((KF.out.trans ((KeepsOthers.setCell _ _ _).from _)).trans ((KeepsOthers.setCell _ _ _).from _)).trans ((KeepsOthers.setCell _ _ _).from _), ⟨rfl, pre, x, rfl, HALL.out, by rw [← HN.out]; exact hz, by rw [← HN.out]; exact R7.out⟩, B7.out⟩
  case done =>
    rintro D ys W hD hys ⟨⟨hall, hI⟩, hB⟩ hK
    obtain rfl : ys = L := hys
    have hres : apFold (sideOf l r1 r2) (gapE l r1 r2) = (0, 0) := by
      rw [← HF.out]
      exact (apFold_rising HR.out (apIs_none hall)).symm
    have HRes := Lib.hid hres
    have R6 : Res3 w.heap.size (.int .i64 0) (.int .i64 0) (.int .i64 0) W := ⟨hI.x4, hI.x5, hI.x6⟩
    have c4 := blk_cell R6.r4
    have c5 := blk_cell R6.r5
    have c6 := blk_cell R6.r6
    have f4 := blk_frozen R6.r4
    have f5 := blk_frozen R6.r5
    have f6 := blk_frozen R6.r6
    have z4 := lt_of_block R6.r4
    have z5 := lt_of_block R6.r5
    have z6 := lt_of_block R6.r6
    have R7 := Lib.hid (R6.put (.int .i64 0) (.int .i64 0) (.int .i64 0))
    have B7 := Lib.hid (Res3.put_below hB (Nat.le_refl _) (.int .i64 0) (.int .i64 0) (.int .i64 0))
    have KO : KeepsOthers W (((W.setCell ⟨w.heap.size, 0, none⟩ (.int .i64 0)).setCell ⟨w.heap.size + 1, 0, none⟩ (.int .i64 0)).setCell ⟨w.heap.size + 1 + 1, 0, none⟩ (.int .i64 0)) := ((KeepsOthers.setCell _ _ _).trans (KeepsOthers.setCell _ _ _)).trans (KeepsOthers.setCell _ _ _)
    have hK' := Lib.hid (KO.same D _ hK rfl)
    have hDw : w.heap.size ≤ D := by have := BB5.out.size; omega
    clear hall hI hB hK R6 hres KO
    gi_wp2_with fail
    generalize ((W.setCell ⟨w.heap.size, 0, none⟩ (.int .i64 0)).setCell ⟨w.heap.size + 1, 0, none⟩ (.int .i64 0)).setCell ⟨w.heap.size + 1 + 1, 0, none⟩ (.int .i64 0) = W7 at R7 B7 hK' ⊢
    refine ⟨by simp, .inl ⟨_, _, rfl, run_takeDeferred hK'.out, ?_⟩⟩
    have R8 := R7.out.grown (grownBy_putObj' _ D (.deferred none)) (fun r e => by cases e; exact ⟨_, hK'.out, rfl⟩)
    have d4 := blk_cell R8.r4 0
    have d5 := blk_cell R8.r5 0
    have d6 := blk_cell R8.r6 0
    exact ⟨.tuple #[.int .i64 0, .int .i64 0, .int .i64 0], by simp [results, Tryz.f154, go_sem, d4, d5, d6], by rw [HRes.out], B7.out.trans (belowK_b (w := w) (Nat.le_refl _) W7 D _ _ hDw hK'.out rfl rfl)⟩
  case stop =>
    rintro D c pre W hD hpre ⟨⟨rfl, p', x, rfl, hall, hx, hR⟩, hB⟩ hK
    have hres : apFold (sideOf l r1 r2) (gapE l r1 r2) = (x, f x) := by
      rw [← HF.out]
      obtain ⟨suf, hsuf⟩ := hpre
      refine (apFold_rising HR.out ?_).symm
      rw [← hsuf, List.append_assoc]
      refine apIs_first ?_ hall hx
      have := HR.out.1
      rw [← hsuf, List.append_assoc] at this
      exact this
    have hDw : w.heap.size ≤ D := by have := BB5.out.size; omega
    gi_wp2_with fail
    refine ⟨by simp, .inl ⟨_, _, rfl, run_takeDeferred hK, ?_⟩⟩
    have R8 := hR.grown (grownBy_putObj' _ D (.deferred none)) (fun r e => by cases e; exact ⟨_, hK, rfl⟩)
    have d4 := blk_cell R8.r4 0
    have d5 := blk_cell R8.r5 0
    have d6 := blk_cell R8.r6 0
    exact ⟨.tuple #[.int .i64 x, .int .i64 (f x), .int .i64 0], by simp [results, Tryz.f154, go_sem, d4, d5, d6], by rw [hres], hB.trans (belowK_b (w := w) (Nat.le_refl _) W D _ _ hDw hK rfl rfl)⟩
theorem gap_Apart (w : World) (g1 K1 l1 g2 K2 l2 : Nat) (k1 k2 : Int) (r1 r2 : List Nd) (F1 F2 : Nat → Prop) (h1 : DigAt w g1 K1 l1 k1 r1 F1) (h2 : DigAt w g2 K2 l2 k2 r2 F2) (m1 : r1.length ≤ 67108864) (m2 : r2.length ≤ 67108864) :
    Calls Tryz.prog 154 #[.pointer (some ⟨g1, 0, none⟩), .pointer (some ⟨g2, 0, none⟩)] w fun e w' => e = .returned (.tuple #[.int .i64 (apT l1 l2 r1 r2).1, .int .i64 (apT l1 l2 r1 r2).2, .int .i64 (gapErr l1 l2 r1 r2)]) ∧ Below w.heap.size w w' := by
  by_cases he : gapErr l1 l2 r1 r2 = 0
  · have hll := gapErr_ok he
    obtain rfl : l1 = l2 := by omega
    rw [he]
    exact gap_Apart_yes w g1 K1 l1 g2 K2 k1 k2 r1 r2 F1 F2 h1 h2 m1 m2 he
  · exact gap_Apart_no w g1 K1 l1 g2 K2 l2 k1 k2 r1 r2 F1 F2 h1 h2 he
end Go.Proofs.YtcjnchjmpkapmaaGreat
/- Package gap: Most. -/
namespace Go.Proofs.YtcjnchjmpkapmaaGreat
open Go.ChangeShapes Go.WideShapes Go.ChangeAt Go.RowKit
set_option linter.unusedVariables false
set_option linter.unusedSimpArgs false
set_option maxRecDepth 100000
attribute [local go_sem] Oper.semAt_some

def gapMostErr (l m : Int) (a b : List Nd) (d : Int) : Int := if gapErr l m a b = 0 then (if d < 1 then 2 else 0) else gapErr l m a b
def gapMostT (l m : Int) (a b : List Nd) (d : Int) : Int × Int := if gapMostErr l m a b d = 0 then gapFold l d a b (gapE l a b) else (0, 0)
theorem SlX.own {w : World} {base n cap z : Nat} {X : Nat → Prop} {A : Option Addr} {es : List Int} (h : Own w base 3 encZ (.slice A n cap) es) (hz : w.heap.size ≤ z) (hX : ∀ b, base ≤ b → ¬ X b) : SlX w z X A es := by
  rcases h with ⟨_, h⟩ | ⟨g, off, cap', cur, hv, hb, hh, h1, h2, h3, hc⟩
  · exact .inl h
  · cases hv
    refine .inr ⟨g, off, rfl, by have := lt_of_block hh; omega, hX g hb, fun i x hi => ?_⟩
    rw [blk_cell hh]
    refine hc i _ ?_
    rw [flatZ, List.getElem?_map, hi]; rfl
theorem gap_more (w : World) (b : Nat) (lo hi a c : Int) (h : bothAt w b lo hi) :
    Calls Tryz.prog 156 #[.int .i64 a, .int .i64 c, .pointer (some ⟨b, 0, none⟩)] w fun e w' => e = .returned (.tuple #[]) ∧ (w.setCell ⟨b, 0, none⟩ (.int .i64 (max lo a))).setCell ⟨b, 1, none⟩ (.int .i64 (max hi c)) = w' := by
  have cb := blk_cell h
  have fb := blk_frozen h
  have zb := lt_of_block h
  clear h
  go_enter Tryz.func156, Tryz.ntmps156
  go_wp2_with fail
  go_end0
  exact ⟨rfl, rfl⟩
theorem gap_parts_of {w : World} {L1 B1 g1 l : Nat} {lt1 ft1 r1 : List Nd} (x : Int) (d : Nat) (h1 : TabAt w L1 B1 g1 (sumR r1) lt1 ft1) (b1 : B1 ≤ w.heap.size)
    (t1 : Tab (lastL l r1) lt1) (f1 : Tab (firstL l r1) ft1) (m1 : lt1.length ≤ 67108864) (m1' : ft1.length ≤ 67108864) (fit1 : Fits l r1) (hn : 1 ≤ sumR r1) (hd : d ≤ 9223372036854775807) :
    Calls Tryz.prog 158 #[.pointer (some ⟨g1, 0, none⟩), .int .i64 x, .int .i64 d] w fun e w' => e = .returned (.tuple #[.int .i64 (downV (sumR r1) d (lowOf l r1 x)), .int .i64 (upP (sumR r1) d (highOf l r1 x))]) ∧ Below w.heap.size w w' := by
  have y1 := fit1.sum
  have a1 := low_range (l := l) fit1.roll x
  have a2 := high_range' (l := l) fit1.roll x
  obtain ⟨n, e1⟩ := Int.eq_ofNat_of_zero_le (show 0 ≤ sumR r1 by omega)
  obtain ⟨pl, e3⟩ := Int.eq_ofNat_of_zero_le a1.1
  obtain ⟨ph, e4⟩ := Int.eq_ofNat_of_zero_le a2.1
  unfold downV upP
  rw [e1] at h1
  rw [e1, e3, e4]
  simp only [Int.toNat_natCast]
  exact gap_parts w x n d pl ph h1 b1 m1 t1.rise m1' f1.rise (by rw [t1.upT, low_up]; exact e3) (by rw [f1.upT, high_up]; exact e4) (by omega) (by omega) hd (by omega) (by omega)
theorem parts_range {n : Int} {d : Nat} {pl ph : Int} (hn : 1 ≤ n) (h1 : 0 ≤ pl ∧ pl ≤ n) (h2 : 0 ≤ ph ∧ ph ≤ n) : (0 ≤ downV n d pl ∧ downV n d pl ≤ d) ∧ (0 ≤ upP n d ph ∧ upP n d ph ≤ d) := by
  unfold downV upP
  have u1 := part_le (a := pl.toNat) (b := (d : Int).toNat) (c := n.toNat) (by omega) (by omega)
  have u2 := up_le (a := ph.toNat) (b := (d : Int).toNat) (c := n.toNat) (by omega) (by omega)
  simp only [Int.toNat_natCast] at u1 u2 ⊢
  generalize pl.toNat * d / n.toNat = u at u1 ⊢
  generalize upV ph.toNat d n.toNat = v at u2 ⊢
  omega
theorem gap_Most_no (w : World) (g1 K1 l1 g2 K2 l2 : Nat) (k1 k2 : Int) (r1 r2 : List Nd) (F1 F2 : Nat → Prop) (d : Int) (h1 : DigAt w g1 K1 l1 k1 r1 F1) (h2 : DigAt w g2 K2 l2 k2 r2 F2) (he : gapMostErr l1 l2 r1 r2 d ≠ 0) :
    Calls Tryz.prog 72 #[.pointer (some ⟨g1, 0, none⟩), .pointer (some ⟨g2, 0, none⟩), .int .i64 d] w fun e w' => e = .returned (.tuple #[.agg #[.int .i64 (gapMostT l1 l2 r1 r2 d).1, .int .i64 (gapMostT l1 l2 r1 r2 d).2], .int .i64 (gapMostErr l1 l2 r1 r2 d)]) ∧ Below w.heap.size w w' := by
  have hs : gapMostT l1 l2 r1 r2 d = (0, 0) := by unfold gapMostT; rw [if_neg he]
  rw [hs]
  have HW := Lib.hid (gap_wrong _ g1 K1 l1 g2 K2 l2 k1 k2 r1 r2 F1 F2 ((h1.alloc (.cells #[.int .i64 d] 3)).alloc (.cells #[.int .i64 0, .int .i64 0] 57)) ((h2.alloc (.cells #[.int .i64 d] 3)).alloc (.cells #[.int .i64 0, .int .i64 0] 57)))
  have kd := (heap_new_lt (w.alloc (.cells #[.int .i64 d] 3)) (.cells #[.int .i64 0, .int .i64 0] 57) w.heap.size (by simp)).trans (heap_alloc_new w (.cells #[.int .i64 d] 3))
  have kr : bothAt ((w.alloc (.cells #[.int .i64 d] 3)).alloc (.cells #[.int .i64 0, .int .i64 0] 57)) (w.heap.size + 1) 0 0 := heap_new_at (w.alloc (.cells #[.int .i64 d] 3)) (.cells #[.int .i64 0, .int .i64 0] 57) (w.heap.size + 1) (by simp)
  have KD := Lib.hid kd
  have KR := Lib.hid kr
  have hcase : (∃ er : Int, gapErr l1 l2 r1 r2 = er ∧ ¬ er = 0 ∧ gapMostErr l1 l2 r1 r2 d = er) ∨ (gapErr l1 l2 r1 r2 = 0 ∧ d < 1 ∧ gapMostErr l1 l2 r1 r2 d = 2) := by
    unfold gapMostErr at he ⊢
    by_cases c1 : gapErr l1 l2 r1 r2 = 0
    · rw [if_pos c1] at he ⊢
      by_cases c2 : d < 1
      · exact .inr ⟨c1, c2, by rw [if_pos c2]⟩
      · rw [if_neg c2] at he; exact absurd rfl he
    · rw [if_neg c1]
      exact .inl ⟨_, rfl, c1, rfl⟩
  clear hs he h1 h2 kd kr
  rcases hcase with ⟨er, f1, f2, f3⟩ | ⟨f1, f2, f3⟩
  · rw [f1] at HW
    rw [f3]
    have hne : (er == 0) = false := by simpa using f2
    have hne2 : (er != 0) = true := by simpa using f2
    clear f1 f3
    refine (callsIn_wide (n := 3)).1 ?_
    refine callsIn_of_wp_marks Tryz.func72 rfl trivial ?_ rfl
    simp only [Tryz.ntmps72, List.size_toArray, List.length_cons, List.length_nil, Nat.reduceAdd, Nat.reduceSub, Array.replicate_succ, Array.replicate_zero, List.push_toArray, List.append_toArray, List.nil_append, List.cons_append]
    gi_wp2_with fail
    refine ⟨trivial, ?_⟩
    refine (callsIn_wide.2 HW.out).mono ?_
    rintro e w1 ⟨rfl, hb1⟩
    have B1 : Below w.heap.size w w1 := Below.then_ (by repeat (first | with_reducible exact Below.refl _ _ | with_reducible assumption | ((with_reducible refine Below.setCell ?_ ?_ _); rotate_left; · (first | omega | exact Nat.le_refl _ | (simp <;> omega))) | (with_reducible refine Below.allocW ?_ _) | (with_reducible refine Below.drew ?_) | (with_reducible refine Below.extW ?_ _))) hb1
    have kd1 := blk_below KD.out hb1
    have kr1 := KR.out.below hb1
    have c0 := blk_cell kd1
    have z0 := lt_of_block kd1
    have c1 := blk_cell kr1
    have z1 := lt_of_block kr1
    have e1 := blk_frozen kr1
    have R2 := Lib.hid ((kr1.set0 0).set1 0)
    have B2 := Lib.hid ((B1.setCell (p := ⟨w.heap.size + 1, 0, none⟩) (by simp) (.int .i64 0)).setCell (p := ⟨w.heap.size + 1, 1, none⟩) (by simp) (.int .i64 0))
    clear hb1 kd1 kr1
    gi_wp2_with fail
    generalize (w1.setCell ⟨w.heap.size + 1, 0, none⟩ (.int .i64 0)).setCell ⟨w.heap.size + 1, 1, none⟩ (.int .i64 0) = W2 at R2 B2 ⊢
    have d0 := blk_cell R2.out 0
    have d1 := blk_cell R2.out 1
    exact ⟨.tuple #[.agg #[.int .i64 0, .int .i64 0], .int .i64 er], by (simp only [results, Tryz.f72]; go_simp), rfl, B2.out⟩
  · rw [f1] at HW
    rw [f3]
    clear f1 f3
    refine (callsIn_wide (n := 3)).1 ?_
    refine callsIn_of_wp_marks Tryz.func72 rfl trivial ?_ rfl
    simp only [Tryz.ntmps72, List.size_toArray, List.length_cons, List.length_nil, Nat.reduceAdd, Nat.reduceSub, Array.replicate_succ, Array.replicate_zero, List.push_toArray, List.append_toArray, List.nil_append, List.cons_append]
    gi_wp2_with fail
    refine ⟨trivial, ?_⟩
    refine (callsIn_wide.2 HW.out).mono ?_
    rintro e w1 ⟨rfl, hb1⟩
    have B1 : Below w.heap.size w w1 := Below.then_ (by repeat (first | with_reducible exact Below.refl _ _ | with_reducible assumption | ((with_reducible refine Below.setCell ?_ ?_ _); rotate_left; · (first | omega | exact Nat.le_refl _ | (simp <;> omega))) | (with_reducible refine Below.allocW ?_ _) | (with_reducible refine Below.drew ?_) | (with_reducible refine Below.extW ?_ _))) hb1
    have kd1 := blk_below KD.out hb1
    have kr1 := KR.out.below hb1
    have c0 := blk_cell kd1
    have z0 := lt_of_block kd1
    have c1 := blk_cell kr1
    have z1 := lt_of_block kr1
    have e1 := blk_frozen kr1
    have R2 := Lib.hid ((kr1.set0 0).set1 0)
    have B2 := Lib.hid ((B1.setCell (p := ⟨w.heap.size + 1, 0, none⟩) (by simp) (.int .i64 0)).setCell (p := ⟨w.heap.size + 1, 1, none⟩) (by simp) (.int .i64 0))
    clear hb1 kd1 kr1
    gi_wp2_with fail
    generalize (w1.setCell ⟨w.heap.size + 1, 0, none⟩ (.int .i64 0)).setCell ⟨w.heap.size + 1, 1, none⟩ (.int .i64 0) = W2 at R2 B2 ⊢
    have d0 := blk_cell R2.out 0
    have d1 := blk_cell R2.out 1
    exact ⟨.tuple #[.agg #[.int .i64 0, .int .i64 0], .int .i64 2], by (simp only [results, Tryz.f72]; go_simp), rfl, B2.out⟩
end Go.Proofs.YtcjnchjmpkapmaaGreat
/- Package gap: Most, where it tells. -/
namespace Go.Proofs.YtcjnchjmpkapmaaGreat
open Go.ChangeShapes Go.WideShapes Go.ChangeAt Go.RowKit
set_option linter.unusedVariables false
set_option linter.unusedSimpArgs false
set_option maxRecDepth 100000
attribute [local go_sem] Oper.semAt_some

structure MoI (bw bo bt t1 t2 L1 B1 L2 B2 : Nat) (d n m : Int) (lt1 ft1 lt2 ft2 : List Nd) (W : World) : Prop where
  d : W.heap[bw]? = some (.cells #[.int .i64 d] 3 (0, 0))
  r : bothAt W (bw + 1) 0 0
  f : W.heap[bo + 1]? = some (.cells #[.func (.func 156) #[] #[.pointer (some ⟨bo, 0, none⟩)]] 222 (0, 0))
  t : W.heap[bt]? = some (.cells #[.pointer (some ⟨t1, 0, none⟩)] 52 (0, 0))
  u : W.heap[bt + 1]? = some (.cells #[.pointer (some ⟨t2, 0, none⟩)] 52 (0, 0))
  tab1 : TabAt W L1 B1 t1 n lt1 ft1
  tab2 : TabAt W L2 B2 t2 m lt2 ft2
section
variable {bw bo bt t1 t2 L1 B1 L2 B2 : Nat} {d n m : Int} {lt1 ft1 lt2 ft2 : List Nd} {W W' : World}
theorem MoI.below (h : MoI bw bo bt t1 t2 L1 B1 L2 B2 d n m lt1 ft1 lt2 ft2 W) (hb : Below W.heap.size W W') (h1 : B1 ≤ W.heap.size) (h2 : B2 ≤ W.heap.size) : MoI bw bo bt t1 t2 L1 B1 L2 B2 d n m lt1 ft1 lt2 ft2 W' :=
  ⟨blk_below h.d hb, h.r.below hb, blk_below h.f hb, blk_below h.t hb, blk_below h.u hb, h.tab1.below (hb.mono h1), h.tab2.below (hb.mono h2)⟩
theorem MoI.grown {row : Option Nat} (h : MoI bw bo bt t1 t2 L1 B1 L2 B2 d n m lt1 ft1 lt2 ft2 W) (hg : W.grownBy W' row) (hr : ∀ r, row = some r → ∃ o : Obj, W.heap[r]? = some o ∧ o.isCells = false) : MoI bw bo bt t1 t2 L1 B1 L2 B2 d n m lt1 ft1 lt2 ft2 W' :=
  ⟨row_grown h.d hg hr, row_grown h.r hg hr, row_grown h.f hg hr, row_grown h.t hg hr, row_grown h.u hg hr, tab_grown h.tab1 hg hr, tab_grown h.tab2 hg hr⟩
theorem MoI.set (h : MoI bw bo bt t1 t2 L1 B1 L2 B2 d n m lt1 ft1 lt2 ft2 W) {o : Nat} {v : Value} (h0 : bw + 1 < bo) (h1 : bo + 1 < bt) (h2 : bo < L1) (h3 : bo < L2) : MoI bw bo bt t1 t2 L1 B1 L2 B2 d n m lt1 ft1 lt2 ft2 (W.setCell ⟨bo, o, none⟩ v) :=
  ⟨(Below.heap_setCell _ _ _ _ (show bw ≠ bo by omega)).trans h.d, (Below.heap_setCell _ _ _ _ (show bw + 1 ≠ bo by omega)).trans h.r, (Below.heap_setCell _ _ _ _ (show bo + 1 ≠ bo by omega)).trans h.f, (Below.heap_setCell _ _ _ _ (show bt ≠ bo by omega)).trans h.t, (Below.heap_setCell _ _ _ _ (show bt + 1 ≠ bo by omega)).trans h.u, h.tab1.set h2 v, h.tab2.set h3 v⟩
end
set_option maxHeartbeats 4000000 in
theorem gap_Most_yes (w : World) (g1 K1 l g2 K2 d : Nat) (k1 k2 : Int) (r1 r2 : List Nd) (F1 F2 : Nat → Prop) (h1 : DigAt w g1 K1 l k1 r1 F1) (h2 : DigAt w g2 K2 l k2 r2 F2) (m1 : r1.length ≤ 67108864) (m2 : r2.length ≤ 67108864) (he : gapErr l l r1 r2 = 0) (hd : 1 ≤ d) (hd2 : d ≤ 9223372036854775807) :
    Calls Tryz.prog 72 #[.pointer (some ⟨g1, 0, none⟩), .pointer (some ⟨g2, 0, none⟩), .int .i64 d] w fun e w' => e = .returned (.tuple #[.agg #[.int .i64 (gapFold l d r1 r2 (gapE l r1 r2)).1, .int .i64 (gapFold l d r1 r2 (gapE l r1 r2)).2], .int .i64 0]) ∧ Below w.heap.size w w' := by
  have hsum : sumR r1 ≠ 0 ∧ sumR r2 ≠ 0 := by
    unfold gapErr at he
    rw [if_neg (not_not_intro rfl)] at he
    by_cases c : sumR r1 = 0 ∨ sumR r2 = 0
    · rw [if_pos c] at he; cases he
    · exact ⟨fun h => c (.inl h), fun h => c (.inr h)⟩
  have D1 := Lib.hid ((h1.alloc (.cells #[.int .i64 d] 3)).alloc (.cells #[.int .i64 0, .int .i64 0] 57))
  have D2 := Lib.hid ((h2.alloc (.cells #[.int .i64 d] 3)).alloc (.cells #[.int .i64 0, .int .i64 0] 57))
  have HW := Lib.hid (gap_wrong _ g1 K1 l g2 K2 l k1 k2 r1 r2 F1 F2 D1.out D2.out)
  rw [he] at HW
  have kd := (heap_new_lt (w.alloc (.cells #[.int .i64 d] 3)) (.cells #[.int .i64 0, .int .i64 0] 57) w.heap.size (by simp)).trans (heap_alloc_new w (.cells #[.int .i64 d] 3))
  have kr : bothAt ((w.alloc (.cells #[.int .i64 d] 3)).alloc (.cells #[.int .i64 0, .int .i64 0] 57)) (w.heap.size + 1) 0 0 := heap_new_at (w.alloc (.cells #[.int .i64 d] 3)) (.cells #[.int .i64 0, .int .i64 0] 57) (w.heap.size + 1) (by simp)
  have KD := Lib.hid kd
  have KR := Lib.hid kr
  have fit1 := h1.fits
  have fit2 := h2.fits
  have n1 := sumR_nonneg fit1.roll
  have n2 := sumR_nonneg fit2.roll
  have SUM : Hid (1 ≤ sumR r1 ∧ 1 ≤ sumR r2) := Lib.hid ⟨by omega, by omega⟩
  have FIT := Lib.hid (And.intro fit1 fit2)
  have HGE := Lib.hid (gapE_len l r1 r2)
  have hd1 : decide ((d : Int) < 1) = false := by simp; omega
  clear he h1 h2 fit1 fit2 kd kr hsum n1 n2
  refine (callsIn_wide (n := 3)).1 ?_
  refine callsIn_of_wp_marks Tryz.func72 rfl trivial ?_ rfl
  simp only [Tryz.ntmps72, List.size_toArray, List.length_cons, List.length_nil, Nat.reduceAdd, Nat.reduceSub, Array.replicate_succ, Array.replicate_zero, List.push_toArray, List.append_toArray, List.nil_append, List.cons_append]
  gi_wp2_with fail
  refine ⟨trivial, ?_⟩
  refine (callsIn_wide.2 HW.out).mono ?_
  rintro e w1 ⟨rfl, hb1⟩
  have B1 : Below w.heap.size w w1 := Below.then_ (by repeat (first | with_reducible exact Below.refl _ _ | with_reducible assumption | ((with_reducible refine Below.setCell ?_ ?_ _); rotate_left; · (first | omega | exact Nat.le_refl _ | (simp <;> omega))) | (with_reducible refine Below.allocW ?_ _) | (with_reducible refine Below.drew ?_) | (with_reducible refine Below.extW ?_ _))) hb1
  have kd1 := blk_below KD.out hb1
  have c0 := blk_cell kd1
  have z0 := lt_of_block kd1
  have KD1 := Lib.hid kd1
  have KR1 := Lib.hid (KR.out.below hb1)
  have E1 := Lib.hid (D1.out.below hb1)
  have E2 := Lib.hid (D2.out.below hb1)
  have s1 : w.heap.size + 2 ≤ w1.heap.size := by have := hb1.size; simp at this; omega
  clear hb1 HW D1 D2 KD KR kd1
  gi_wp2_with fail
  have BA : Below w1.heap.size w1 ((w1.alloc (.cells #[.int .i64 0, .int .i64 0] 57)).alloc (.cells #[.func (.func 156) #[] #[.pointer (some ⟨w1.heap.size, 0, none⟩)]] 222)) := ((Below.refl w1.heap.size w1).alloc (Nat.le_refl _) _).alloc (by simp) _
  have ko : bothAt ((w1.alloc (.cells #[.int .i64 0, .int .i64 0] 57)).alloc (.cells #[.func (.func 156) #[] #[.pointer (some ⟨w1.heap.size, 0, none⟩)]] 222)) w1.heap.size 0 0 := (heap_new_lt (w1.alloc (.cells #[.int .i64 0, .int .i64 0] 57)) (.cells #[.func (.func 156) #[] #[.pointer (some ⟨w1.heap.size, 0, none⟩)]] 222) w1.heap.size (by simp)).trans (heap_alloc_new w1 (.cells #[.int .i64 0, .int .i64 0] 57))
  have kf := heap_new_at (w1.alloc (.cells #[.int .i64 0, .int .i64 0] 57)) (.cells #[.func (.func 156) #[] #[.pointer (some ⟨w1.heap.size, 0, none⟩)]] 222) (w1.heap.size + 1) (by simp)
  have KO := Lib.hid ko
  have KF := Lib.hid kf
  have KD2 := Lib.hid (blk_below KD1.out BA)
  have KR2 := Lib.hid (KR1.out.below BA)
  have G1 := Lib.hid (E1.out.below BA)
  have G2 := Lib.hid (E2.out.below BA)
  have BV := Lib.hid (B1.trans (BA.mono B1.size))
  have sV : w1.heap.size + 2 ≤ ((w1.alloc (.cells #[.int .i64 0, .int .i64 0] 57)).alloc (.cells #[.func (.func 156) #[] #[.pointer (some ⟨w1.heap.size, 0, none⟩)]] 222)).heap.size := by simp
  clear BA ko kf KD1 KR1 E1 E2 c0 z0
  generalize (w1.alloc (.cells #[.int .i64 0, .int .i64 0] 57)).alloc (.cells #[.func (.func 156) #[] #[.pointer (some ⟨w1.heap.size, 0, none⟩)]] 222) = V1 at KO KF KD2 KR2 G1 G2 BV sV ⊢
  refine ⟨trivial, ?_⟩
  refine (callsIn_wide.2 (rank_Of _ g1 K1 l k1 r1 F1 G1.out m1)).mono ?_
  rintro e w2 ⟨t1, lt1, ft1, rfl, htab1, htl1, htf1, hl1, hl1', hb2⟩
  have B2 := Lib.hid (BV.out.trans (hb2.mono BV.out.size))
  have T1 := Lib.hid htab1
  have HT1 := Lib.hid (And.intro htl1 (And.intro htf1 (And.intro hl1 hl1')))
  have s2 := hb2.size
  have HB2 := Lib.hid hb2
  clear hb2 htab1 htl1 htf1 hl1 hl1'
  gi_wp2_with fail
  refine ⟨trivial, ?_⟩
  refine (callsIn_wide.2 (rank_Of _ g2 K2 l k2 r2 F2 (G2.out.below HB2.out) m2)).mono ?_
  rintro e w3 ⟨t2, lt2, ft2, rfl, htab2, htl2, htf2, hl2, hl2', hb3⟩
  have B3 := B2.out.trans (hb3.mono B2.out.size)
  have s3 := hb3.size
  have BB3 := HB2.out.trans (hb3.mono s2)
  have KO3 := Lib.hid (KO.out.below BB3)
  have KF3 := Lib.hid (blk_below KF.out BB3)
  have KD3 := Lib.hid (blk_below KD2.out BB3)
  have KR3 := Lib.hid (KR2.out.below BB3)
  have J1 := Lib.hid (G1.out.below BB3)
  have J2 := Lib.hid (G2.out.below BB3)
  have U1 := Lib.hid (T1.out.below hb3)
  have U2 := Lib.hid htab2
  have HT2 := Lib.hid (And.intro htl2 (And.intro htf2 (And.intro hl2 hl2')))
  clear hb3 htab2 htl2 htf2 hl2 hl2' G1 G2 T1 KO KF KD2 KR2 BB3 HB2 B2 BV B1
  gi_wp2_with fail
  have BA : Below w3.heap.size w3 (((w3.alloc (.cells #[.pointer (some ⟨t1, 0, none⟩)] 52)).alloc (.cells #[.pointer (some ⟨t2, 0, none⟩)] 52)).alloc (.cells #[.pointer (some ⟨g1, 0, none⟩), .pointer (some ⟨g2, 0, none⟩)] 28)) := ((((Below.refl w3.heap.size w3).alloc (Nat.le_refl _) _).alloc (by simp) _).alloc (by simp; omega) _)
  have kt := (heap_new_lt ((w3.alloc (.cells #[.pointer (some ⟨t1, 0, none⟩)] 52)).alloc (.cells #[.pointer (some ⟨t2, 0, none⟩)] 52)) (.cells #[.pointer (some ⟨g1, 0, none⟩), .pointer (some ⟨g2, 0, none⟩)] 28) w3.heap.size (by simp; omega)).trans ((heap_new_lt (w3.alloc (.cells #[.pointer (some ⟨t1, 0, none⟩)] 52)) (.cells #[.pointer (some ⟨t2, 0, none⟩)] 52) w3.heap.size (by simp)).trans (heap_alloc_new w3 (.cells #[.pointer (some ⟨t1, 0, none⟩)] 52)))
  have ku := (heap_new_lt ((w3.alloc (.cells #[.pointer (some ⟨t1, 0, none⟩)] 52)).alloc (.cells #[.pointer (some ⟨t2, 0, none⟩)] 52)) (.cells #[.pointer (some ⟨g1, 0, none⟩), .pointer (some ⟨g2, 0, none⟩)] 28) (w3.heap.size + 1) (by simp)).trans (heap_new_at (w3.alloc (.cells #[.pointer (some ⟨t1, 0, none⟩)] 52)) (.cells #[.pointer (some ⟨t2, 0, none⟩)] 52) (w3.heap.size + 1) (by simp))
  have ks := heap_new_at ((w3.alloc (.cells #[.pointer (some ⟨t1, 0, none⟩)] 52)).alloc (.cells #[.pointer (some ⟨t2, 0, none⟩)] 52)) (.cells #[.pointer (some ⟨g1, 0, none⟩), .pointer (some ⟨g2, 0, none⟩)] 28) (w3.heap.size + 1 + 1) (by simp)
  have I4 : MoI w.heap.size w1.heap.size w3.heap.size t1 t2 V1.heap.size w2.heap.size w2.heap.size w3.heap.size d (sumR r1) (sumR r2) lt1 ft1 lt2 ft2 (((w3.alloc (.cells #[.pointer (some ⟨t1, 0, none⟩)] 52)).alloc (.cells #[.pointer (some ⟨t2, 0, none⟩)] 52)).alloc (.cells #[.pointer (some ⟨g1, 0, none⟩), .pointer (some ⟨g2, 0, none⟩)] 28)) :=
    ⟨blk_below KD3.out BA, KR3.out.below BA, blk_below KF3.out BA, kt, ku, U1.out.below (BA.mono s3), U2.out.below BA⟩
  have II := Lib.hid I4
  have OO := Lib.hid (KO3.out.below BA)
  have KS := Lib.hid ks
  have M1 := Lib.hid (J1.out.below BA)
  have M2 := Lib.hid (J2.out.below BA)
  have BB := Lib.hid (B3.trans (BA.mono B3.size))
  have sA := BA.size
  have sA3 : w3.heap.size + 3 ≤ (((w3.alloc (.cells #[.pointer (some ⟨t1, 0, none⟩)] 52)).alloc (.cells #[.pointer (some ⟨t2, 0, none⟩)] 52)).alloc (.cells #[.pointer (some ⟨g1, 0, none⟩), .pointer (some ⟨g2, 0, none⟩)] 28)).heap.size := by simp
  clear BA kt ku ks I4 J1 J2 U1 U2 KO3 KF3 KD3 KR3 B3
  generalize ((w3.alloc (.cells #[.pointer (some ⟨t1, 0, none⟩)] 52)).alloc (.cells #[.pointer (some ⟨t2, 0, none⟩)] 52)).alloc (.cells #[.pointer (some ⟨g1, 0, none⟩), .pointer (some ⟨g2, 0, none⟩)] 28) = W4 at II OO KS M1 M2 BB sA sA3 ⊢
  refine ⟨trivial, ?_⟩
  refine (callsIn_wide.2 (gap_ends _ (w3.heap.size + 1 + 1) g1 g2 K1 K2 l k1 k2 r1 r2 F1 F2 KS.out M1.out M2.out m1 m2)).mono ?_
  rintro e w5 ⟨b, A, cap, L, rfl, hb0, kb, ho, hrise, hle, hb5⟩
  have I5 := Lib.hid (II.out.below hb5 (by omega) (by omega))
  have O5 := Lib.hid (OO.out.below hb5)
  have BB5 := Lib.hid (BB.out.trans (hb5.mono BB.out.size))
  have KB := Lib.hid kb
  have zb := lt_of_block kb
  have SX := Lib.hid (SlX.own (z := w5.heap.size) (X := fun b => b = w1.heap.size) ho (Nat.le_refl _) (fun c hc => by omega))
  have HR := Lib.hid hrise
  have hL : L.length ≤ 1000000000000 := by rw [HGE.out] at hle; omega
  have s5 := hb5.size
  clear kb ho hrise hle hb5 II OO KS M1 M2 BB
  gi_wp2_with fail
  have hKB := Lib.hid (fun (W : World) (q : Nat) (o o' : Obj) (h : W.heap[q]? = some o) (hc : o.isCells = false) => keepX_b (z := w5.heap.size) (X := fun b => b = w1.heap.size) W q o o' h hc)
  have HP1 : Hid (∀ (x : Int) (W : World), MoI w.heap.size w1.heap.size w3.heap.size t1 t2 V1.heap.size w2.heap.size w2.heap.size w3.heap.size d (sumR r1) (sumR r2) lt1 ft1 lt2 ft2 W → Calls Tryz.prog 158 #[.pointer (some ⟨t1, 0, none⟩), .int .i64 x, .int .i64 d] W fun e w' => e = .returned (.tuple #[.int .i64 (downV (sumR r1) d (lowOf l r1 x)), .int .i64 (upP (sumR r1) d (highOf l r1 x))]) ∧ Below W.heap.size W w') := Lib.hid fun x W h => by
    have hz := lt_of_block h.t
    obtain ⟨q1, q2, q3, q4⟩ := HT1.out
    exact gap_parts_of x d h.tab1 (by omega) q1 q2 (by omega) (by omega) FIT.out.1 SUM.out.1 hd2
  have HP2 : Hid (∀ (x : Int) (W : World), MoI w.heap.size w1.heap.size w3.heap.size t1 t2 V1.heap.size w2.heap.size w2.heap.size w3.heap.size d (sumR r1) (sumR r2) lt1 ft1 lt2 ft2 W → Calls Tryz.prog 158 #[.pointer (some ⟨t2, 0, none⟩), .int .i64 x, .int .i64 d] W fun e w' => e = .returned (.tuple #[.int .i64 (downV (sumR r2) d (lowOf l r2 x)), .int .i64 (upP (sumR r2) d (highOf l r2 x))]) ∧ Below W.heap.size W w') := Lib.hid fun x W h => by
    have hz := lt_of_block h.t
    obtain ⟨q1, q2, q3, q4⟩ := HT2.out
    exact gap_parts_of x d h.tab2 (by omega) q1 q2 (by omega) (by omega) FIT.out.2 SUM.out.2 hd2
  have HPR := Lib.hid (fun x => And.intro (parts_range (d := d) SUM.out.1 (low_range (l := l) FIT.out.1.roll x) (high_range' (l := l) FIT.out.1.roll x)) (parts_range (d := d) SUM.out.2 (low_range (l := l) FIT.out.2.roll x) (high_range' (l := l) FIT.out.2.roll x)))
  clear HT1 HT2 FIT HGE SUM
  refine wpIn_rangeFunc_ownG rfl (by decide) (gf := 249) (lb := #[.pointer (some ⟨b, 0, none⟩)]) rfl trivial (enters_of Tryz.func249 (by kernel_rfl) rfl)
    (ends_stops (3 - 1) b w5.heap.size (fun b => b = w1.heap.size) A cap L w5 (by decide) (Nat.le_refl _) KB.out SX.out zb (fun h => by omega) hL)
    keepX_t (fun W q o o' _ h hc _ => hKB.out W q o o' h hc) (Below.refl _ _) (fun _ => rfl)
    (fun pre W => (MoI w.heap.size w1.heap.size w3.heap.size t1 t2 V1.heap.size w2.heap.size w2.heap.size w3.heap.size d (sumR r1) (sumR r2) lt1 ft1 lt2 ft2 W ∧ bothAt W w1.heap.size (gapFold l d r1 r2 pre).1 (gapFold l d r1 r2 pre).2) ∧ Below w.heap.size w W)
    (fun _ _ _ => False)
    (OwnFrom.and (Go.Own.from (fun s A B row hs hg hr => ⟨hs.1.grown hg hr, row_grown hs.2 hg hr⟩) _) (ownFrom_below (Nat.le_refl _) (by have := BB5.out.size; omega)))
    (fun c => fun _ _ _ _ hs _ _ => hs)
    ⟨⟨I5.out, O5.out⟩, BB5.out⟩
    (fun x => { tmps := #[.pointer (some ⟨g1, 0, none⟩), .pointer (some ⟨g2, 0, none⟩), .int .i64 d, undef, undef, .pointer (some ⟨w.heap.size, 0, none⟩), .pointer (some ⟨w.heap.size + 1, 0, none⟩), .int .i64 0, .int .i64 0, .pointer (some ⟨w1.heap.size, 0, none⟩), .pointer (some ⟨w1.heap.size + 1, 0, none⟩), .pointer (some ⟨w3.heap.size, 0, none⟩), .pointer (some ⟨w3.heap.size + 1, 0, none⟩), .int .i64 x, undef, undef, undef, undef, .pointer (some ⟨g1, 0, none⟩), .pointer (some ⟨g2, 0, none⟩), .int .i64 0, .int .i64 0, .bool true, .bool true, .int .i64 d, .bool false, .bool false, .int .i64 0, .bool false, undef, undef, .func (.func 156) #[] #[.pointer (some ⟨w1.heap.size, 0, none⟩)], .pointer (some ⟨g1, 0, none⟩), .pointer (some ⟨t1, 0, none⟩), .pointer (some ⟨g2, 0, none⟩), .pointer (some ⟨t2, 0, none⟩), .pointer (some ⟨g1, 0, none⟩), .pointer (some ⟨g2, 0, none⟩), .slice (some ⟨w3.heap.size + 1 + 1, 0, none⟩) 2 2, .func (.func 249) #[] #[.pointer (some ⟨b, 0, none⟩)], .int .i64 x, undef, undef, undef, undef, undef, undef, undef, undef, undef, undef, undef, undef, undef, undef, undef, undef, undef, undef, undef, undef, undef, undef, undef, undef, undef, undef, undef, undef, undef, undef, undef], defers := [] }) ?assign ?body ?done ?stop
  case assign =>
    intro q x W Kc hK
    gi_wp2
    exact hK
  case body =>
    rintro q pre x W ⟨⟨hI, hO⟩, hB⟩ _
    have HI := Lib.hid hI
    have HO := Lib.hid hO
    have HB := Lib.hid hB
    have ct := blk_cell hI.t
    have cd := blk_cell hI.d
    have zt := lt_of_block hI.t
    have zd := lt_of_block hI.d
    have h1 := Lib.hid (HP1.out x)
    have h2 := Lib.hid (HP2.out x)
    have hsn := gapFold_snoc l d r1 r2 pre x
    have hst : ∀ o : Int × Int, gapStep l d r1 r2 o x = (max (max o.1 (downV (sumR r1) d (lowOf l r1 x) - upP (sumR r2) d (highOf l r2 x))) (downV (sumR r2) d (lowOf l r2 x) - upP (sumR r1) d (highOf l r1 x)), max (max o.2 (upP (sumR r1) d (highOf l r1 x) - downV (sumR r2) d (lowOf l r2 x))) (upP (sumR r2) d (highOf l r2 x) - downV (sumR r1) d (lowOf l r1 x))) := fun o => rfl
    rw [hst] at hsn
    have hpr := HPR.out x
    generalize downV (sumR r1) d (lowOf l r1 x) = p at h1 hsn hpr
    generalize upP (sumR r1) d (highOf l r1 x) = u at h1 hsn hpr
    generalize downV (sumR r2) d (lowOf l r2 x) = r at h2 hsn hpr
    generalize upP (sumR r2) d (highOf l r2 x) = s at h2 hsn hpr
    have HSN := Lib.hid hsn
    generalize gapFold l d r1 r2 pre = o at HSN HO
    obtain ⟨lo, hi⟩ := o
    simp only at HSN HO
    clear hI hO hB hsn hst HP1 HP2 HPR
    gi_wp2_with fail
    refine ⟨trivial, ?_⟩
    refine (CallsIn.inRound q (callsIn_wide.2 (h1.out _ HI.out))).mono ?_
    rintro e w6 ⟨rfl, hb6⟩
    have KF6 := Lib.hid ((KeepsOthers.of_grownBy (grownBy_of_below hb6 none) (fun _ _ h => by cases h)).from w5.heap.size)
    have KK6 := Lib.hid (KeepX.of_below (z := w5.heap.size) (X := fun b => b = w1.heap.size) hb6)
    have I6 := Lib.hid (HI.out.below hb6 (by omega) (by omega))
    have O6 := Lib.hid (HO.out.below hb6)
    have B6 := Lib.hid (HB.out.trans (hb6.mono HB.out.size))
    have s6 := hb6.size
    have cu6 := blk_cell I6.out.u
    have cd6 := blk_cell I6.out.d
    have zu6 := lt_of_block I6.out.u
    have zd6 := lt_of_block I6.out.d
    clear hb6 HI HO HB ct cd
    gi_wp2_with fail
    refine ⟨trivial, ?_⟩
    refine (CallsIn.inRound q (callsIn_wide.2 (h2.out _ I6.out))).mono ?_
    rintro e w7 ⟨rfl, hb7⟩
    have KF7 := Lib.hid (KF6.out.trans ((KeepsOthers.of_grownBy (grownBy_of_below hb7 none) (fun _ _ h => by cases h)).from w5.heap.size))
    have KK7 := Lib.hid (keepX_t KK6.out (KeepX.of_below (z := w5.heap.size) (X := fun b => b = w1.heap.size) hb7))
    have I7 := Lib.hid (I6.out.below hb7 (by omega) (by omega))
    have O7 := Lib.hid (O6.out.below hb7)
    have B7 := Lib.hid (B6.out.trans (hb7.mono B6.out.size))
    have cf7 := blk_cell I7.out.f
    have zf7 := lt_of_block I7.out.f
    clear hb7 I6 O6 B6 KF6 KK6 cu6 cd6
    gi_wp2_with fail
    refine ⟨trivial, ?_⟩
    refine (CallsIn.inRound q (callsIn_wide.2 (gap_more w7 w1.heap.size lo hi (p - s) (u - r) O7.out))).mono ?_
    rintro e w8 ⟨rfl, hw8⟩
    have i8 := (I7.out.set (o := 0) (v := .int .i64 (max lo (p - s))) (by omega) (by omega) (by omega) (by omega)).set (o := 1) (v := .int .i64 (max hi (u - r))) (by omega) (by omega) (by omega) (by omega)
    have o8 := (O7.out.set0 (max lo (p - s))).set1 (max hi (u - r))
    have b8 := (B7.out.setCell (p := ⟨w1.heap.size, 0, none⟩) (by simp only; omega) (.int .i64 (max lo (p - s)))).setCell (p := ⟨w1.heap.size, 1, none⟩) (by simp only; omega) (.int .i64 (max hi (u - r)))
    have kf8 := (KF7.out.trans ((KeepsOthers.setCell w7 ⟨w1.heap.size, 0, none⟩ (.int .i64 (max lo (p - s)))).from w5.heap.size)).trans ((KeepsOthers.setCell _ ⟨w1.heap.size, 1, none⟩ (.int .i64 (max hi (u - r)))).from w5.heap.size)
    have kk8 := (KK7.out.set (p := ⟨w1.heap.size, 0, none⟩) (.inl rfl) (.int .i64 (max lo (p - s)))).set (p := ⟨w1.heap.size, 1, none⟩) (.inl rfl) (.int .i64 (max hi (u - r)))
    rw [hw8] at i8 o8 b8 kf8 kk8
    have I8 := Lib.hid i8
    have O8 := Lib.hid o8
    have B8 := Lib.hid b8
    have KF8 := Lib.hid kf8
    have KK8 := Lib.hid kk8
    have cf8 := blk_cell I8.out.f
    have zf8 := lt_of_block I8.out.f
    clear hw8 i8 o8 b8 kf8 kk8 I7 O7 B7 KF7 KK7 cf7 zf7
    gi_wp2_with fail
    refine ⟨trivial, ?_⟩
    refine (CallsIn.inRound q (callsIn_wide.2 (gap_more w8 w1.heap.size (max lo (p - s)) (max hi (u - r)) (r - u) (s - p) O8.out))).mono ?_
    rintro e w9 ⟨rfl, hw9⟩
    have i9 := (I8.out.set (o := 0) (v := .int .i64 (max (max lo (p - s)) (r - u))) (by omega) (by omega) (by omega) (by omega)).set (o := 1) (v := .int .i64 (max (max hi (u - r)) (s - p))) (by omega) (by omega) (by omega) (by omega)
    have o9 := (O8.out.set0 (max (max lo (p - s)) (r - u))).set1 (max (max hi (u - r)) (s - p))
    have b9 := (B8.out.setCell (p := ⟨w1.heap.size, 0, none⟩) (by simp only; omega) (.int .i64 (max (max lo (p - s)) (r - u)))).setCell (p := ⟨w1.heap.size, 1, none⟩) (by simp only; omega) (.int .i64 (max (max hi (u - r)) (s - p)))
    have kf9 := (KF8.out.trans ((KeepsOthers.setCell w8 ⟨w1.heap.size, 0, none⟩ (.int .i64 (max (max lo (p - s)) (r - u)))).from w5.heap.size)).trans ((KeepsOthers.setCell _ ⟨w1.heap.size, 1, none⟩ (.int .i64 (max (max hi (u - r)) (s - p)))).from w5.heap.size)
    have kk9 := (KK8.out.set (p := ⟨w1.heap.size, 0, none⟩) (.inl rfl) (.int .i64 (max (max lo (p - s)) (r - u)))).set (p := ⟨w1.heap.size, 1, none⟩) (.inl rfl) (.int .i64 (max (max hi (u - r)) (s - p)))
    rw [hw9] at i9 o9 b9 kf9 kk9
    have I9 := Lib.hid i9
    have O9 := Lib.hid o9
    have B9 := Lib.hid b9
    have KF9 := Lib.hid kf9
    have KK9 := Lib.hid kk9
    have cf9 := blk_cell I9.out.f
    have zf9 := lt_of_block I9.out.f
    clear hw9 i9 o9 b9 kf9 kk9 I8 O8 B8 KF8 KK8 cf8 zf8
    gi_wp2_with fail
    exact ⟨KF9.out, KK9.out, ⟨I9.out, by rw [HSN.out]; exact O9.out⟩, B9.out⟩
  case done =>
    rintro D ys W hD hys ⟨⟨hI, hO⟩, hB⟩ hK
    obtain rfl : ys = L := hys
    have hres : gapFold l d r1 r2 ys = gapFold l d r1 r2 (gapE l r1 r2) := gapFold_rising HR.out
    rw [hres] at hO
    obtain ⟨o, ho⟩ : ∃ o, o = gapFold l d r1 r2 (gapE l r1 r2) := ⟨_, rfl⟩
    rw [← ho] at hO
    have HOE := Lib.hid ho
    have co := blk_cell hO
    have zo := lt_of_block hO
    have cr := blk_cell hI.r
    have fr := blk_frozen hI.r
    have zr := lt_of_block hI.r
    have R7 := Lib.hid ((hI.r.set0 o.1).set1 o.2)
    have B7 := Lib.hid ((hB.setCell (p := ⟨w.heap.size + 1, 0, none⟩) (by simp) (.int .i64 o.1)).setCell (p := ⟨w.heap.size + 1, 1, none⟩) (by simp) (.int .i64 o.2))
    have KO : KeepsOthers W ((W.setCell ⟨w.heap.size + 1, 0, none⟩ (.int .i64 o.1)).setCell ⟨w.heap.size + 1, 1, none⟩ (.int .i64 o.2)) := (KeepsOthers.setCell _ _ _).trans (KeepsOthers.setCell _ _ _)
    have hK' := Lib.hid (KO.same D _ hK rfl)
    have hDw : w.heap.size ≤ D := by have := BB5.out.size; omega
    clear hI hO hB hK KO hres ho
    gi_wp2_with fail
    generalize (W.setCell ⟨w.heap.size + 1, 0, none⟩ (.int .i64 o.1)).setCell ⟨w.heap.size + 1, 1, none⟩ (.int .i64 o.2) = W7 at R7 B7 hK' ⊢
    refine ⟨by simp, .inl ⟨_, _, rfl, run_takeDeferred hK'.out, ?_⟩⟩
    have R8 : bothAt (W7.putObj D (.deferred none)) (w.heap.size + 1) o.1 o.2 := row_grown R7.out (grownBy_putObj' _ D (.deferred none)) (fun r e => by cases e; exact ⟨_, hK'.out, rfl⟩)
    have d0 := blk_cell R8 0
    have d1 := blk_cell R8 1
    exact ⟨.tuple #[.agg #[.int .i64 o.1, .int .i64 o.2], .int .i64 0], by (simp only [results, Tryz.f72]; go_simp), by rw [HOE.out], B7.out.trans (belowK_b (w := w) (Nat.le_refl _) W7 D _ _ hDw hK'.out rfl rfl)⟩
  case stop =>
    rintro D c pre W hD hpre h hK
    exact h.elim
theorem gap_Most (w : World) (g1 K1 l1 g2 K2 l2 : Nat) (k1 k2 : Int) (r1 r2 : List Nd) (F1 F2 : Nat → Prop) (d : Int) (h1 : DigAt w g1 K1 l1 k1 r1 F1) (h2 : DigAt w g2 K2 l2 k2 r2 F2) (m1 : r1.length ≤ 67108864) (m2 : r2.length ≤ 67108864) (hd : d ≤ 9223372036854775807) :
    Calls Tryz.prog 72 #[.pointer (some ⟨g1, 0, none⟩), .pointer (some ⟨g2, 0, none⟩), .int .i64 d] w fun e w' => e = .returned (.tuple #[.agg #[.int .i64 (gapMostT l1 l2 r1 r2 d).1, .int .i64 (gapMostT l1 l2 r1 r2 d).2], .int .i64 (gapMostErr l1 l2 r1 r2 d)]) ∧ Below w.heap.size w w' := by
  by_cases he : gapMostErr l1 l2 r1 r2 d = 0
  · have h0 : gapErr l1 l2 r1 r2 = 0 ∧ ¬ d < 1 := by
      unfold gapMostErr at he
      by_cases c : gapErr l1 l2 r1 r2 = 0
      · rw [if_pos c] at he
        by_cases c2 : d < 1
        · rw [if_pos c2] at he; cases he
        · exact ⟨c, c2⟩
      · rw [if_neg c] at he; exact absurd he c
    have hll := gapErr_ok h0.1
    obtain rfl : l1 = l2 := by omega
    obtain ⟨n, rfl⟩ := Int.eq_ofNat_of_zero_le (show 0 ≤ d by omega)
    have ht : gapMostT l1 l1 r1 r2 n = gapFold l1 n r1 r2 (gapE l1 r1 r2) := by unfold gapMostT; rw [if_pos he]
    rw [ht, he]
    exact gap_Most_yes w g1 K1 l1 g2 K2 n k1 k2 r1 r2 F1 F2 h1 h2 m1 m2 h0.1 (by omega) (by omega)
  · exact gap_Most_no w g1 K1 l1 g2 K2 l2 k1 k2 r1 r2 F1 F2 d h1 h2 he
end Go.Proofs.YtcjnchjmpkapmaaGreat
/- GapHolds: what the law's tests tell, in natural numbers; what stands. -/
namespace Go.Proofs.YtcjnchjmpkapmaaGreat
open Go.ChangeShapes Go.WideShapes Go.ChangeAt Go.RowKit
set_option linter.unusedVariables false
set_option maxRecDepth 100000

def rkN (m : List Nd) (z : Int) : Nat := (betwB m 0 z).toNat
def smN (m : List Nd) : Nat := (sumR m).toNat
section
variable {l : Nat} {ka kb : Int} {ra ma rb mb : List Nd}
theorem rkN_eq {l : Nat} {m : List Nd} (h : BagL l m) (z : Int) : betwB m 0 z = (rkN m z : Int) ∧ rkN m z ≤ 72057594037927935 := by
  have h1 := betwB_le (fun x hx => (h.val x hx).2.2) 0 z
  have h2 := h.sum
  unfold rkN
  omega
theorem smN_eq {l : Nat} {m : List Nd} (h : BagL l m) : sumR m = (smN m : Int) ∧ smN m ≤ 72057594037927935 := by
  have h1 := h.sum0
  have h2 := h.sum
  unfold smN
  omega
theorem gap_bounds (ha : Held l ka ra ma) (hb : Held l kb rb mb) (hl : 1 ≤ l ∧ l ≤ 48) (h1 : 1 ≤ ka) (h2 : 1 ≤ kb) (hna : 1 ≤ sumR ma) (hnb : 1 ≤ sumR mb) {d : Int} (hd : 1 ≤ d) :
    (0 ≤ (gapFold l d ra rb (gapE l ra rb)).1 ∧ (gapFold l d ra rb (gapE l ra rb)).1 ≤ d) ∧ 0 ≤ (gapFold l d ra rb (gapE l ra rb)).2 ∧ (gapFold l d ra rb (gapE l ra rb)).2 ≤ d := by
  have k := gapFold_le l d ra rb (gapE l ra rb)
  have z1 := ((k (gapFold l d ra rb (gapE l ra rb)).1 0).1.1 (Int.le_refl _)).1
  have z2 := ((k 0 (gapFold l d ra rb (gapE l ra rb)).2).2.1 (Int.le_refl _)).1
  have esa := ha.sum
  have esb := hb.sum
  have ub : ∀ {n x : Int}, 1 ≤ n → 0 ≤ x → x ≤ n → upP n d x ≤ d := fun {n x} hn hx hxn => by
    unfold upP
    have := up_le (a := x.toNat) (b := d.toNat) (c := n.toNat) (by omega) (by omega)
    omega
  have step : ∀ x ∈ gapE l ra rb, (gapStep l d ra rb (0, 0) x).1 ≤ d ∧ (gapStep l d ra rb (0, 0) x).2 ≤ d := fun x _ => by
    have pa := ha.rank0 hl h1 x
    have pb := hb.rank0 hl h2 x
    have sa := weighR_le (l := l) (f := fun lo _ => decide (lo ≤ x)) ha.fits.roll
    have sb := weighR_le (l := l) (f := fun lo _ => decide (lo ≤ x)) hb.fits.roll
    change 0 ≤ highOf l ra x ∧ highOf l ra x ≤ sumR ra at sa
    change 0 ≤ highOf l rb x ∧ highOf l rb x ≤ sumR rb at sb
    have ua := ub (n := sumR ra) (x := highOf l ra x) (by omega) sa.1 sa.2
    have ubb := ub (n := sumR rb) (x := highOf l rb x) (by omega) sb.1 sb.2
    have ua0 := (up_mul (n := sumR ra) (d := d) (x := highOf l ra x) (by omega) (by omega) sa.1).2
    have ub0 := (up_mul (n := sumR rb) (d := d) (x := highOf l rb x) (by omega) (by omega) sb.1).2
    have da := down_mul (n := sumR ra) (d := d) (x := lowOf l ra x) (by omega) (by omega) pa.1
    have db := down_mul (n := sumR rb) (d := d) (x := lowOf l rb x) (by omega) (by omega) pb.1
    have la : downV (sumR ra) d (lowOf l ra x) ≤ d := Int.le_trans (down_up (n := sumR ra) (d := d) (by omega : lowOf l ra x ≤ highOf l ra x)) ua
    have lb : downV (sumR rb) d (lowOf l rb x) ≤ d := Int.le_trans (down_up (n := sumR rb) (d := d) (by omega : lowOf l rb x ≤ highOf l rb x)) ubb
    simp only [gapStep]
    omega
  exact ⟨⟨z1, (k d 0).1.2 ⟨by omega, fun x hx => (step x hx).1⟩⟩, z2, (k 0 d).2.2 ⟨by omega, fun x hx => (step x hx).2⟩⟩
theorem beyN_iff {p m q n d t : Nat} {P M Q N D T : Int} (hp : P = p) (hm : M = m) (hq : Q = q) (hn : N = n) (hd : D = d) (ht : T = t) : (beyN p m q n d t = true ↔ beyondV P M Q N D T) := by
  subst hp hm hq hn hd ht
  unfold beyN beyondV
  rw [Bool.or_eq_true, decide_eq_true_eq, decide_eq_true_eq]
  constructor
  · rintro (h | h)
    · left; exact_mod_cast h
    · right; exact_mod_cast h
  · rintro (h | h)
    · left; exact_mod_cast h
    · right; exact_mod_cast h
structure GapTold (l d : Nat) (ra ma rb mb : List Nd) (z : Int) (lo hi : Nat) (side : Int) : Prop where
  hi_ : beyN (rkN ma z) (smN ma) (rkN mb z) (smN mb) d hi = false
  lo_ : lo = 0 ∨ (1 ≤ lo ∧ ∃ x ∈ ma ++ mb, beyN (rkN ma x.1) (smN ma) (rkN mb x.1) (smN mb) d (lo - 1) = true)
  side_ : (side = 1 ∧ 0 < ordV (rkN ma z) (smN mb) (rkN mb z) (smN ma)) ∨ (side = -1 ∧ ordV (rkN ma z) (smN mb) (rkN mb z) (smN ma) < 0) ∨ side = 0
  lo_le : lo ≤ d
  hi_le : hi ≤ d
theorem gap_told (ha : Held l ka ra ma) (hb : Held l kb rb mb) (hl : 1 ≤ l ∧ l ≤ 48) (h1 : 1 ≤ ka) (h2 : 1 ≤ kb) (hna : sumR ma ≠ 0) (hnb : sumR mb ≠ 0) {d : Nat} (hd : 1 ≤ d) (z : Int) :
    ∃ lo hi : Nat, (gapFold l d ra rb (gapE l ra rb)).1 = lo ∧ (gapFold l d ra rb (gapE l ra rb)).2 = hi ∧ GapTold l d ra ma rb mb z lo hi (sideOf l ra rb z) := by
  have a0 := ha.bag.sum0
  have b0 := hb.bag.sum0
  have na : 1 ≤ sumR ma := by omega
  have nb : 1 ≤ sumR mb := by omega
  have hd' : (1 : Int) ≤ (d : Int) := by omega
  obtain ⟨⟨q1, q2⟩, q3, q4⟩ := gap_bounds ha hb hl h1 h2 na nb hd'
  have H := gap_within ha hb hl h1 h2 na nb hd' z
  have L := gap_reached ha hb hl h1 h2 na nb hd'
  have S := gap_sure ha hb hl h1 h2 na nb z
  generalize gapFold l d ra rb (gapE l ra rb) = G at q1 q2 q3 q4 H L
  obtain ⟨g1, g2⟩ := G
  simp only at q1 q2 q3 q4 H L
  obtain ⟨lo, rfl⟩ := Int.eq_ofNat_of_zero_le q1
  obtain ⟨hi, rfl⟩ := Int.eq_ofNat_of_zero_le q3
  refine ⟨lo, hi, rfl, rfl, ?_, ?_, ?_, by omega, by omega⟩
  · rw [← Bool.not_eq_true, beyN_iff (rkN_eq ha.bag z).1 (smN_eq ha.bag).1 (rkN_eq hb.bag z).1 (smN_eq hb.bag).1 rfl rfl]
    exact H
  · by_cases h0 : lo = 0
    · exact .inl h0
    · right
      obtain ⟨_, x, hx, hB⟩ := L (by omega)
      exact ⟨by omega, x, hx, (beyN_iff (rkN_eq ha.bag x.1).1 (smN_eq ha.bag).1 (rkN_eq hb.bag x.1).1 (smN_eq hb.bag).1 rfl (by omega)).2 hB⟩
  · rw [(rkN_eq ha.bag z).1, (rkN_eq hb.bag z).1, (smN_eq ha.bag).1, (smN_eq hb.bag).1] at S
    unfold ordV cmpV
    rcases S with ⟨s1, s2⟩ | ⟨s1, s2⟩ | s1
    · left
      refine ⟨s1, ?_⟩
      have s3 : rkN mb z * smN ma < rkN ma z * smN mb := by exact_mod_cast s2
      rw [if_neg (by omega), if_pos s3]
      decide
    · right; left
      refine ⟨s1, ?_⟩
      have s3 : rkN ma z * smN mb < rkN mb z * smN ma := by exact_mod_cast s2
      rw [if_pos s3]
      decide
    · right; right; exact s1
end
def farB (m1 m2 : List Nd) (d lo : Nat) (P : List Nd) : Bool := decide (lo = 0) || P.any fun z => beyN (rkN m1 z.1) (smN m1) (rkN m2 z.1) (smN m2) d (lo - 1)
theorem far_nil (m1 m2 : List Nd) (d lo : Nat) : farB m1 m2 d lo [] = ((lo : Int) == 0) := by
  unfold farB
  by_cases h : lo = 0 <;> simp [h]
theorem far_succ (m1 m2 : List Nd) (d lo : Nat) {L : List Nd} {q : Nat} (h : q < L.length) : farB m1 m2 d lo (L.take (q + 1)) = (farB m1 m2 d lo (L.take q) || beyN (rkN m1 L[q].1) (smN m1) (rkN m2 L[q].1) (smN m2) d (lo - 1)) := by
  unfold farB
  rw [List.take_succ_eq_append_getElem h, List.any_append]
  simp [Bool.or_assoc]
theorem far_lo {m1 m2 : List Nd} {d lo : Nat} {P : List Nd} (h : farB m1 m2 d lo P = false) : 1 ≤ lo := by
  unfold farB at h
  rw [Bool.or_eq_false_iff] at h
  have := h.1
  simp at this
  omega
theorem far_all {l d : Nat} {ra ma rb mb : List Nd} {z : Int} {lo hi : Nat} {side : Int} (h : GapTold l d ra ma rb mb z lo hi side) : farB ma mb d lo (ma ++ mb) = true := by
  unfold farB
  rcases h.lo_ with h0 | ⟨_, x, hx, hB⟩
  · simp [h0]
  · rw [Bool.or_eq_true]
    right
    exact List.any_eq_true.2 ⟨x, hx, hB⟩
theorem small60 {a b : Nat} (h1 : a ≤ 60) (h2 : b ≤ 60) : (a + b) * 16 ≤ 140737488355328 ∧ a + b ≤ maxLen := by
  unfold maxLen
  omega
theorem low_wrap {lo d : Nat} (h : lo ≤ d) (hd : (d : Int) ≤ 1099511627776) : wrap64 ((lo : Int) - 1) = (lo : Int) - 1 ∧ IntKind.i64.wrap ((lo : Int) - 1) = (lo : Int) - 1 := by
  rw [IntKind.wrap_i64]
  unfold wrap64
  omega
def MadeOk (x : SideX) (p : Option Addr) (lz : Int) (A : Option Addr) (m : List Nd) (W : World) : Prop :=
  ∃ (g l K : Nat) (F : Nat → Prop) (r : List Nd), p = some ⟨g, 0, none⟩ ∧ lz = l ∧ x.l = l ∧ DigAt W g K l x.k r F ∧ SlT W 96 encN A m ∧ Held l x.k r m ∧ r.length ≤ 60 ∧ m.length ≤ 60
theorem MadeOk.below {x : SideX} {p : Option Addr} {lz : Int} {A : Option Addr} {m : List Nd} {W W' : World} (h : MadeOk x p lz A m W) (hb : Below W.heap.size W W') : MadeOk x p lz A m W' := by
  obtain ⟨g, l, K, F, r, h1, h2, h3, h4, h5, h6⟩ := h
  exact ⟨g, l, K, F, r, h1, h2, h3, h4.below hb, h5.below hb, h6⟩
def MadeAny (x : SideX) (w : World) (e : Ending) (w' : World) : Prop :=
  ∃ (p : Option Addr) (lz : Int) (A : Option Addr) (c : Nat) (m : List Nd), e = .returned (.tuple #[.pointer p, .agg #[.int .i64 lz, .slice A m.length c]]) ∧ Below w.heap.size w w' ∧ (p = none ∨ MadeOk x p lz A m w')
theorem law13_MadeAny {w : World} {x : SideX} (h : SideOk w x) (h60 : x.ops.length ≤ 60) {W : World} (hb : Below w.heap.size w W) :
    Calls Tryz.prog 15 #[.agg #[.int .i64 x.l, .int .i64 x.k, .int .i64 x.K], .slice x.A x.ops.length x.c] W (MadeAny x W) := by
  cases hd : isDig x.l x.k x.K
  · exact (law13_Made_no W x.l x.k x.K _ hd).mono fun e w' ⟨he, hb'⟩ => ⟨none, 0, none, 0, [], he, hb', .inl rfl⟩
  · obtain ⟨l, K, hl, hK⟩ := isDig_nat hd
    rw [hl, hK] at hd ⊢
    exact (law13_Made W l K x.k x.A x.c x.ops hd (h.1.keep hb.size fun p hp => hb.cell hp) h.2.1 (by omega)).mono fun e w' ⟨g, F, r, m, A, c, he, hD, _, hT, hH, hr, hm, _, hb'⟩ =>
      ⟨some ⟨g, 0, none⟩, l, A, c, m, he, hb', .inr ⟨g, l, K, F, r, rfl, rfl, hl, hD, hT, hH, by omega, by omega⟩⟩
def gapBad (x y : SideX) (d : Int) : Prop := 60 < x.ops.length ∨ 60 < y.ops.length ∨ (x.K = 1 ∧ 10 < x.l) ∨ (y.K = 1 ∧ 10 < y.l) ∨ d < 1 ∨ 1099511627776 < d
instance (x y : SideX) (d : Int) : Decidable (gapBad x y d) := by unfold gapBad; infer_instance
def sideO (x : SideX) : Obj := .cells #[.int .i64 x.l, .int .i64 x.k, .int .i64 x.K, .slice x.A x.ops.length x.c] 26 (0, 0)
structure GhS (w : World) (x y : SideX) (W : World) : Prop where
  bx : W.heap[w.heap.size]? = some (.cells #[.int .i64 x.l, .int .i64 x.k, .int .i64 x.K, .slice x.A x.ops.length x.c] 26 (0, 0))
  by_ : W.heap[w.heap.size + 1]? = some (.cells #[.int .i64 y.l, .int .i64 y.k, .int .i64 y.K, .slice y.A y.ops.length y.c] 26 (0, 0))
  blw : Below w.heap.size w W
theorem GhS.below {w : World} {x y : SideX} {W W' : World} (h : GhS w x y W) (hb : Below W.heap.size W W') : GhS w x y W' := ⟨blk_below h.bx hb, blk_below h.by_ hb, h.blw.trans (hb.mono h.blw.size)⟩
structure GhM (w : World) (x y : SideX) (p10 p12 g1 K1 l1 g2 K2 l2 : Nat) (r1 r2 m1 m2 : List Nd) (F1 F2 : Nat → Prop) (A1 : Option Addr) (c1 : Nat) (A2 : Option Addr) (c2 : Nat) (W : World) : Prop where
  a : GhS w x y W
  v : W.heap[p10]? = some (.cells #[.int .i64 l1, .slice A1 m1.length c1] 31 (0, 0))
  u : W.heap[p12]? = some (.cells #[.int .i64 l2, .slice A2 m2.length c2] 31 (0, 0))
  d1 : DigAt W g1 K1 l1 x.k r1 F1
  d2 : DigAt W g2 K2 l2 y.k r2 F2
  s1 : SlT W 96 encN A1 m1
  s2 : SlT W 96 encN A2 m2
theorem GhM.below {w : World} {x y : SideX} {p10 p12 g1 K1 l1 g2 K2 l2 : Nat} {r1 r2 m1 m2 : List Nd} {F1 F2 : Nat → Prop} {A1 : Option Addr} {c1 : Nat} {A2 : Option Addr} {c2 : Nat} {W W' : World}
    (h : GhM w x y p10 p12 g1 K1 l1 g2 K2 l2 r1 r2 m1 m2 F1 F2 A1 c1 A2 c2 W) (hb : Below W.heap.size W W') : GhM w x y p10 p12 g1 K1 l1 g2 K2 l2 r1 r2 m1 m2 F1 F2 A1 c1 A2 c2 W' :=
  ⟨h.a.below hb, blk_below h.v hb, blk_below h.u hb, h.d1.below hb, h.d2.below hb, h.s1.below hb, h.s2.below hb⟩
theorem gapMost_err {l m : Int} {a b : List Nd} {d : Int} (hd : 1 ≤ d) : gapMostErr l m a b d = gapErr l m a b := by
  unfold gapMostErr
  by_cases h : gapErr l m a b = 0
  · rw [if_pos h, if_neg (by omega), h]
  · rw [if_neg h]
end Go.Proofs.YtcjnchjmpkapmaaGreat
/- Chapter 21: nil is held against nothing; the chapter's example. -/
namespace Go.Proofs.YtcjnchjmpkapmaaGreat
open Go.ChangeShapes Go.WideShapes Go.ChangeAt Go.RowKit
set_option linter.unusedVariables false
set_option linter.unusedSimpArgs false
set_option maxRecDepth 100000
attribute [local go_sem] Oper.semAt_some

def nodesA : List Nd := [(2, 1), (3, 1)]
def nodesB : List Nd := [(3, 5)]
theorem nodesA_ints : ints nodesA := by
  intro x hx
  simp only [nodesA, List.mem_cons, List.not_mem_nil, or_false] at hx
  rcases hx with rfl | rfl <;> (unfold i64; simp)
theorem nodesB_ints : ints nodesB := by
  intro x hx
  simp only [nodesB, List.mem_cons, List.not_mem_nil, or_false] at hx
  subst hx; unfold i64; simp
theorem loadA : loadErr 1 4 2 nodesA = 0 := by decide +kernel
theorem loadB : loadErr 1 4 1 nodesB = 0 := by decide +kernel
theorem side21 : sideT ((1 : Nat) : Int) ((1 : Nat) : Int) nodesA nodesB 0 = 1 := by decide +kernel
theorem err21 : gapErr ((1 : Nat) : Int) ((1 : Nat) : Int) nodesA nodesB = 0 := by decide +kernel
theorem ap21 : apT ((1 : Nat) : Int) ((1 : Nat) : Int) nodesA nodesB = (0, 1) := by decide +kernel
theorem merr21 : gapMostErr ((1 : Nat) : Int) ((1 : Nat) : Int) nodesA nodesB 100 = 0 := by decide +kernel
theorem most21 : gapMostT ((1 : Nat) : Int) ((1 : Nat) : Int) nodesA nodesB 100 = (50, 50) := by decide +kernel
end Go.Proofs.YtcjnchjmpkapmaaGreat
/- Chapter 21: the example, and the law GapNobody. -/
namespace Go.Proofs.YtcjnchjmpkapmaaGreat
open Go.ChangeShapes Go.WideShapes Go.ChangeAt Go.RowKit
set_option linter.unusedVariables false
set_option linter.unusedSimpArgs false
set_option maxRecDepth 100000

set_option maxHeartbeats 2000000 in
theorem alive21 (w : World) : Calls Tryz.prog 71 #[] w fun e w' => e = .returned (.bool true) ∧ Below w.heap.size w w' := by
  have HS := Lib.hid (sl_lit w encN nodesA 153 _ rfl)
  have HC := Lib.hid (digest_Load · 1 2 4 (some ⟨w.heap.size, 0, none⟩) 2 nodesA loadA · nodesA_ints (by decide))
  go_enter Tryz.func71, Tryz.ntmps71
  go_wp2_with fail
  refine (HC.out _ (HS.out.keep (by simp) fun p hp => rfl)).mono ?_
  rintro e w1 ⟨g1, F1, rfl, hD1, _, hb1⟩
  have B1 : Below w.heap.size w w1 := Below.then_ (by repeat (first | with_reducible exact Below.refl _ _ | with_reducible assumption | ((with_reducible refine Below.setCell ?_ ?_ _); rotate_left; · (first | omega | exact Nat.le_refl _ | (simp <;> omega))) | (with_reducible refine Below.allocW ?_ _) | (with_reducible refine Below.drew ?_) | (with_reducible refine Below.extW ?_ _))) hb1
  have s1 : w.heap.size ≤ w1.heap.size := B1.size
  have KD1 := Lib.hid (hD1.alloc (.cells #[.int .i64 3, .int .i64 5] 153))
  have HS2 := Lib.hid (sl_lit w1 encN nodesB 153 _ rfl)
  have HC2 := Lib.hid (digest_Load · 1 1 4 (some ⟨w1.heap.size, 0, none⟩) 1 nodesB loadB · nodesB_ints (by decide))
  clear hD1
  go_wp2_with fail
  refine (HC2.out _ (HS2.out.keep (by simp) fun p hp => rfl)).mono ?_
  rintro e w2 ⟨g2, F2, rfl, hD2, _, hb2⟩
  have B2 : Below w.heap.size w w2 := Below.then_ (by repeat (first | with_reducible exact Below.refl _ _ | with_reducible assumption | ((with_reducible refine Below.setCell ?_ ?_ _); rotate_left; · (first | omega | exact Nat.le_refl _ | (simp <;> omega))) | (with_reducible refine Below.allocW ?_ _) | (with_reducible refine Below.drew ?_) | (with_reducible refine Below.extW ?_ _))) hb2
  have s2 : w.heap.size ≤ w2.heap.size := B2.size
  have J1 := Lib.hid (KD1.out.below hb2)
  have J2 := Lib.hid hD2
  clear hD2
  go_wp2_with fail
  refine (gap_Side _ g1 2 1 g2 1 1 4 4 nodesA nodesB F1 F2 0 J1.out J2.out (by decide) (by decide)).mono ?_
  rintro e w3 ⟨rfl, hb3⟩
  have B3 : Below w.heap.size w w3 := Below.then_ (by repeat (first | with_reducible exact Below.refl _ _ | with_reducible assumption | ((with_reducible refine Below.setCell ?_ ?_ _); rotate_left; · (first | omega | exact Nat.le_refl _ | (simp <;> omega))) | (with_reducible refine Below.allocW ?_ _) | (with_reducible refine Below.drew ?_) | (with_reducible refine Below.extW ?_ _))) hb3
  have s3 : w.heap.size ≤ w3.heap.size := B3.size
  rw [side21, err21]
  have M1 := Lib.hid (J1.out.below hb3)
  have M2 := Lib.hid (J2.out.below hb3)
  go_wp2_with fail
  refine (gap_Apart _ g1 2 1 g2 1 1 4 4 nodesA nodesB F1 F2 M1.out M2.out (by decide) (by decide)).mono ?_
  rintro e w4 ⟨rfl, hb4⟩
  have B4 : Below w.heap.size w w4 := Below.then_ (by repeat (first | with_reducible exact Below.refl _ _ | with_reducible assumption | ((with_reducible refine Below.setCell ?_ ?_ _); rotate_left; · (first | omega | exact Nat.le_refl _ | (simp <;> omega))) | (with_reducible refine Below.allocW ?_ _) | (with_reducible refine Below.drew ?_) | (with_reducible refine Below.extW ?_ _))) hb4
  have s4 : w.heap.size ≤ w4.heap.size := B4.size
  rw [ap21, err21]
  have N1 := Lib.hid (M1.out.below hb4)
  have N2 := Lib.hid (M2.out.below hb4)
  go_wp2_with fail
  refine (gap_Most _ g1 2 1 g2 1 1 4 4 nodesA nodesB F1 F2 100 N1.out N2.out (by decide) (by decide) (by decide)).mono ?_
  rintro e w5 ⟨rfl, hb5⟩
  have B5 : Below w.heap.size w w5 := Below.then_ (by repeat (first | with_reducible exact Below.refl _ _ | with_reducible assumption | ((with_reducible refine Below.setCell ?_ ?_ _); rotate_left; · (first | omega | exact Nat.le_refl _ | (simp <;> omega))) | (with_reducible refine Below.allocW ?_ _) | (with_reducible refine Below.drew ?_) | (with_reducible refine Below.extW ?_ _))) hb5
  have s5 : w.heap.size ≤ w5.heap.size := B5.size
  rw [most21, merr21]
  go_wp2_with fail
  go_ret
  exact ⟨rfl, (by repeat (first | with_reducible exact Below.refl _ _ | with_reducible assumption | ((with_reducible refine Below.setCell ?_ ?_ _); rotate_left; · (first | omega | exact Nat.le_refl _ | (simp <;> omega))) | (with_reducible refine Below.allocW ?_ _) | (with_reducible refine Below.drew ?_) | (with_reducible refine Below.extW ?_ _)))⟩
end Go.Proofs.YtcjnchjmpkapmaaGreat
/- Chapter 21: what two digests accepted: the law. -/
namespace Go.Proofs.YtcjnchjmpkapmaaGreat
open Go.ChangeShapes Go.WideShapes Go.ChangeAt Go.RowKit
set_option linter.unusedVariables false
set_option linter.unusedSimpArgs false
set_option maxRecDepth 100000

theorem gapOk_all {x y : SideX} {d : Int} (h : ¬ gapBad x y d) : ¬ 60 < x.ops.length ∧ ¬ 60 < y.ops.length ∧ ¬ (x.K = 1 ∧ 10 < x.l) ∧ ¬ (y.K = 1 ∧ 10 < y.l) ∧ ¬ d < 1 ∧ ¬ 1099511627776 < d := by
  unfold gapBad at h
  omega
set_option maxHeartbeats 16000000 in
theorem law_GapHolds_bad (x y : SideX) (at_ d : Int) (w : World) (hx : SideOk w x) (hy : SideOk w y) (hd : i64 d) (hbad : gapBad x y d) :
    Calls Tryz.prog 11 #[callsV x.l x.k x.K x.A x.ops.length x.c, callsV y.l y.k y.K y.A y.ops.length y.c, .agg #[.int .i64 at_, .int .i64 d]] w fun e w' => e = .returned (.bool true) ∧ Below w.heap.size w w' := by
  have S0 : Hid (GhS w x y (((w.alloc (.cells #[.int .i64 x.l, .int .i64 x.k, .int .i64 x.K, .slice x.A x.ops.length x.c] 26)).alloc (.cells #[.int .i64 y.l, .int .i64 y.k, .int .i64 y.K, .slice y.A y.ops.length y.c] 26)).alloc (.cells #[.int .i64 at_, .int .i64 d] 121))) := Lib.hid ⟨((heap_new_lt _ _ _ (by simp; omega)).trans (heap_new_lt _ _ _ (by simp))).trans (heap_alloc_new w _), (heap_new_lt _ _ _ (by simp)).trans (heap_new_at (w.alloc _) _ _ (by simp)), (by repeat (first | with_reducible exact Below.refl _ _ | with_reducible assumption | ((with_reducible refine Below.setCell ?_ ?_ _); rotate_left; · (first | omega | exact Nat.le_refl _ | (simp <;> omega))) | (with_reducible refine Below.allocW ?_ _) | (with_reducible refine Below.drew ?_) | (with_reducible refine Below.extW ?_ _)))⟩
  have Z0 : Hid ((((w.alloc (.cells #[.int .i64 x.l, .int .i64 x.k, .int .i64 x.K, .slice x.A x.ops.length x.c] 26)).alloc (.cells #[.int .i64 y.l, .int .i64 y.k, .int .i64 y.K, .slice y.A y.ops.length y.c] 26)).alloc (.cells #[.int .i64 at_, .int .i64 d] 121)).heap[w.heap.size + 2]? = some (.cells #[.int .i64 at_, .int .i64 d] 121 (0, 0))) := Lib.hid (heap_new_at ((w.alloc _).alloc _) _ _ (by simp))
  have hxm := hx.2.2.2.2.2
  have hym := hy.2.2.2.2.2
  unfold maxLen at hxm hym
  unfold i64 at hd
  unfold callsV
  clear hx hy
  go_enter Tryz.func11, Tryz.ntmps11
  go_upto_region 1 with fail
  generalize (((w.alloc (.cells #[.int .i64 x.l, .int .i64 x.k, .int .i64 x.K, .slice x.A x.ops.length x.c] 26)).alloc (.cells #[.int .i64 y.l, .int .i64 y.k, .int .i64 y.K, .slice y.A y.ops.length y.c] 26)).alloc (.cells #[.int .i64 at_, .int .i64 d] 121)) = W0 at S0 Z0 ⊢
  have z0 := blk_cell Z0.out
  have zz := lt_of_block Z0.out
  refine wp_region_ext (by kernel_rfl) (by kernel_rfl) ?_
  repeat (go_big_quiet_step (fail))
  refine wpQuiet_nil ?_
  intro w1 hb1
  have S1 := Lib.hid (S0.out.below (below_of_ext hb1))
  clear hb1 z0 zz S0 Z0
  go_upto_region 2 with fail
  go_cut [72] (fun c wx => c = .bool (decide (gapBad x y d)) ∧ wx = w1)
  case first =>
    have x0 := blk_cell S1.out.bx
    have xz := lt_of_block S1.out.bx
    have y0 := blk_cell S1.out.by_
    have yz := lt_of_block S1.out.by_
    clear S1
    by_cases h1 : 60 < x.ops.length
    · have h1d : decide ((60 : Int) < (x.ops.length : Int)) = true := by simp; omega
      go_wp2_with fail
      go_meet
      exact ⟨congrArg Value.bool (decide_eq_true (p := gapBad x y d) (.inl h1)).symm, rfl⟩
    · have h1d : decide ((60 : Int) < (x.ops.length : Int)) = false := by simp; omega
      by_cases h2 : 60 < y.ops.length
      · have h2d : decide ((60 : Int) < (y.ops.length : Int)) = true := by simp; omega
        go_wp2_with fail
        go_meet
        exact ⟨congrArg Value.bool (decide_eq_true (p := gapBad x y d) (.inr (.inl h2))).symm, rfl⟩
      · have h2d : decide ((60 : Int) < (y.ops.length : Int)) = false := by simp; omega
        by_cases h3 : x.K = 1 ∧ 10 < x.l
        · have h3a : (x.K == 1) = true := by simpa using h3.1
          have h3b : decide (10 < x.l) = true := by simpa using h3.2
          go_wp2_with fail
          go_meet
          exact ⟨congrArg Value.bool (decide_eq_true (p := gapBad x y d) (.inr (.inr (.inl h3)))).symm, rfl⟩
        · skip
          rcases (by by_cases e : x.K = 1; exact .inl ⟨by simpa using e, by have : ¬ 10 < x.l := fun h => h3 ⟨e, h⟩; simpa using this⟩; exact .inr (by simpa using e) : ((x.K == 1) = true ∧ decide (10 < x.l) = false) ∨ (x.K == 1) = false) with ⟨g1x, g2x⟩ | g1x
          · skip
            by_cases h4 : y.K = 1 ∧ 10 < y.l
            · have h4a : (y.K == 1) = true := by simpa using h4.1
              have h4b : decide (10 < y.l) = true := by simpa using h4.2
              go_wp2_with fail
              go_meet
              exact ⟨congrArg Value.bool (decide_eq_true (p := gapBad x y d) (.inr (.inr (.inr (.inl h4))))).symm, rfl⟩
            · skip
              rcases (by by_cases e : y.K = 1; exact .inl ⟨by simpa using e, by have : ¬ 10 < y.l := fun h => h4 ⟨e, h⟩; simpa using this⟩; exact .inr (by simpa using e) : ((y.K == 1) = true ∧ decide (10 < y.l) = false) ∨ (y.K == 1) = false) with ⟨g1y, g2y⟩ | g1y
              · skip
                by_cases h5 : d < 1
                · have h5d : decide (d < 1) = true := by simpa using h5
                  go_wp2_with fail
                  go_meet
                  exact ⟨congrArg Value.bool (decide_eq_true (p := gapBad x y d) (.inr (.inr (.inr (.inr (.inl h5)))))).symm, rfl⟩
                · have h5d : decide (d < 1) = false := by simpa using h5
                  by_cases h6 : 1099511627776 < d
                  · have h6d : decide (1099511627776 < d) = true := by simpa using h6
                    go_wp2_with fail
                    go_meet
                    exact ⟨congrArg Value.bool (decide_eq_true (p := gapBad x y d) (.inr (.inr (.inr (.inr (.inr h6)))))).symm, rfl⟩
                  · have h6d : decide (1099511627776 < d) = false := by simpa using h6
                    exact absurd hbad (by unfold gapBad; omega)
              · skip
                by_cases h5 : d < 1
                · have h5d : decide (d < 1) = true := by simpa using h5
                  go_wp2_with fail
                  go_meet
                  exact ⟨congrArg Value.bool (decide_eq_true (p := gapBad x y d) (.inr (.inr (.inr (.inr (.inl h5)))))).symm, rfl⟩
                · have h5d : decide (d < 1) = false := by simpa using h5
                  by_cases h6 : 1099511627776 < d
                  · have h6d : decide (1099511627776 < d) = true := by simpa using h6
                    go_wp2_with fail
                    go_meet
                    exact ⟨congrArg Value.bool (decide_eq_true (p := gapBad x y d) (.inr (.inr (.inr (.inr (.inr h6)))))).symm, rfl⟩
                  · have h6d : decide (1099511627776 < d) = false := by simpa using h6
                    exact absurd hbad (by unfold gapBad; omega)
          · skip
            by_cases h4 : y.K = 1 ∧ 10 < y.l
            · have h4a : (y.K == 1) = true := by simpa using h4.1
              have h4b : decide (10 < y.l) = true := by simpa using h4.2
              go_wp2_with fail
              go_meet
              exact ⟨congrArg Value.bool (decide_eq_true (p := gapBad x y d) (.inr (.inr (.inr (.inl h4))))).symm, rfl⟩
            · skip
              rcases (by by_cases e : y.K = 1; exact .inl ⟨by simpa using e, by have : ¬ 10 < y.l := fun h => h4 ⟨e, h⟩; simpa using this⟩; exact .inr (by simpa using e) : ((y.K == 1) = true ∧ decide (10 < y.l) = false) ∨ (y.K == 1) = false) with ⟨g1y, g2y⟩ | g1y
              · skip
                by_cases h5 : d < 1
                · have h5d : decide (d < 1) = true := by simpa using h5
                  go_wp2_with fail
                  go_meet
                  exact ⟨congrArg Value.bool (decide_eq_true (p := gapBad x y d) (.inr (.inr (.inr (.inr (.inl h5)))))).symm, rfl⟩
                · have h5d : decide (d < 1) = false := by simpa using h5
                  by_cases h6 : 1099511627776 < d
                  · have h6d : decide (1099511627776 < d) = true := by simpa using h6
                    go_wp2_with fail
                    go_meet
                    exact ⟨congrArg Value.bool (decide_eq_true (p := gapBad x y d) (.inr (.inr (.inr (.inr (.inr h6)))))).symm, rfl⟩
                  · have h6d : decide (1099511627776 < d) = false := by simpa using h6
                    exact absurd hbad (by unfold gapBad; omega)
              · skip
                by_cases h5 : d < 1
                · have h5d : decide (d < 1) = true := by simpa using h5
                  go_wp2_with fail
                  go_meet
                  exact ⟨congrArg Value.bool (decide_eq_true (p := gapBad x y d) (.inr (.inr (.inr (.inr (.inl h5)))))).symm, rfl⟩
                · have h5d : decide (d < 1) = false := by simpa using h5
                  by_cases h6 : 1099511627776 < d
                  · have h6d : decide (1099511627776 < d) = true := by simpa using h6
                    go_wp2_with fail
                    go_meet
                    exact ⟨congrArg Value.bool (decide_eq_true (p := gapBad x y d) (.inr (.inr (.inr (.inr (.inr h6)))))).symm, rfl⟩
                  · have h6d : decide (1099511627776 < d) = false := by simpa using h6
                    exact absurd hbad (by unfold gapBad; omega)
  case rest =>
    obtain ⟨rfl, rfl⟩ := hcut
    have hbd : decide (gapBad x y d) = true := by simpa using hbad
    go_wp2_with fail
    refine (alive21 _).mono ?_
    rintro e w2 ⟨rfl, hb2⟩
    have B2 := Lib.hid (Below.then_ S1.out.blw hb2)
    go_wp2_with fail
    go_ret
    exact ⟨rfl, B2.out⟩
end Go.Proofs.YtcjnchjmpkapmaaGreat
/- Chapter 21: what two digests accepted: the law. -/
namespace Go.Proofs.YtcjnchjmpkapmaaGreat
open Go.ChangeShapes Go.WideShapes Go.ChangeAt Go.RowKit
set_option linter.unusedVariables false
set_option linter.unusedSimpArgs false
set_option maxRecDepth 100000

theorem own_emptyR (W : World) : Own (W.alloc (.cells #[] 96)) W.heap.size 96 encN (.slice (some ⟨W.heap.size, 0, none⟩) 0 0) [] :=
  .inr ⟨W.heap.size, 0, 0, #[], rfl, Nat.le_refl _, heap_alloc_new W _, Nat.le_refl _, by simp, by simp, fun j u hj => by simp at hj⟩
set_option maxHeartbeats 16000000 in
theorem law_GapHolds_ok (x y : SideX) (at_ d : Int) (w : World) (hx : SideOk w x) (hy : SideOk w y) (hd : i64 d) (hbad : ¬ gapBad x y d) :
    Calls Tryz.prog 11 #[callsV x.l x.k x.K x.A x.ops.length x.c, callsV y.l y.k y.K y.A y.ops.length y.c, .agg #[.int .i64 at_, .int .i64 d]] w fun e w' => e = .returned (.bool true) ∧ Below w.heap.size w w' := by
  have S0 : Hid (GhS w x y (((w.alloc (.cells #[.int .i64 x.l, .int .i64 x.k, .int .i64 x.K, .slice x.A x.ops.length x.c] 26)).alloc (.cells #[.int .i64 y.l, .int .i64 y.k, .int .i64 y.K, .slice y.A y.ops.length y.c] 26)).alloc (.cells #[.int .i64 at_, .int .i64 d] 121))) := Lib.hid ⟨((heap_new_lt _ _ _ (by simp; omega)).trans (heap_new_lt _ _ _ (by simp))).trans (heap_alloc_new w _), (heap_new_lt _ _ _ (by simp)).trans (heap_new_at (w.alloc _) _ _ (by simp)), (by repeat (first | with_reducible exact Below.refl _ _ | with_reducible assumption | ((with_reducible refine Below.setCell ?_ ?_ _); rotate_left; · (first | omega | exact Nat.le_refl _ | (simp <;> omega))) | (with_reducible refine Below.allocW ?_ _) | (with_reducible refine Below.drew ?_) | (with_reducible refine Below.extW ?_ _)))⟩
  have Z0 : Hid ((((w.alloc (.cells #[.int .i64 x.l, .int .i64 x.k, .int .i64 x.K, .slice x.A x.ops.length x.c] 26)).alloc (.cells #[.int .i64 y.l, .int .i64 y.k, .int .i64 y.K, .slice y.A y.ops.length y.c] 26)).alloc (.cells #[.int .i64 at_, .int .i64 d] 121)).heap[w.heap.size + 2]? = some (.cells #[.int .i64 at_, .int .i64 d] 121 (0, 0))) := Lib.hid (heap_new_at ((w.alloc _).alloc _) _ _ (by simp))
  have HMx := Lib.hid (fun (h60 : x.ops.length ≤ 60) W hb => law13_MadeAny hx h60 (W := W) hb)
  have HMy := Lib.hid (fun (h60 : y.ops.length ≤ 60) W hb => law13_MadeAny hy h60 (W := W) hb)
  have hxm := hx.2.2.2.2.2
  have hym := hy.2.2.2.2.2
  unfold maxLen at hxm hym
  unfold i64 at hd
  unfold callsV
  clear hx hy
  go_enter Tryz.func11, Tryz.ntmps11
  go_upto_region 1 with fail
  generalize (((w.alloc (.cells #[.int .i64 x.l, .int .i64 x.k, .int .i64 x.K, .slice x.A x.ops.length x.c] 26)).alloc (.cells #[.int .i64 y.l, .int .i64 y.k, .int .i64 y.K, .slice y.A y.ops.length y.c] 26)).alloc (.cells #[.int .i64 at_, .int .i64 d] 121)) = W0 at S0 Z0 ⊢
  have z0 := blk_cell Z0.out
  have zz := lt_of_block Z0.out
  refine wp_region_ext (by kernel_rfl) (by kernel_rfl) ?_
  repeat (go_big_quiet_step (fail))
  refine wpQuiet_nil ?_
  intro w1 hb1
  have S1 := Lib.hid (S0.out.below (below_of_ext hb1))
  clear hb1 z0 zz S0 Z0
  go_upto_region 2 with fail
  go_cut [72] (fun c wx => c = .bool (decide (gapBad x y d)) ∧ wx = w1)
  case first =>
    have x0 := blk_cell S1.out.bx
    have xz := lt_of_block S1.out.bx
    have y0 := blk_cell S1.out.by_
    have yz := lt_of_block S1.out.by_
    clear S1 HMx HMy
    obtain ⟨h1, h2, h3, h4, h5, h6⟩ := gapOk_all hbad
    have h1d : decide ((60 : Int) < (x.ops.length : Int)) = false := by simp; omega
    have h2d : decide ((60 : Int) < (y.ops.length : Int)) = false := by simp; omega
    have h5d : decide (d < 1) = false := by simpa using h5
    have h6d : decide (1099511627776 < d) = false := by simpa using h6
    rcases (by by_cases e : x.K = 1; exact .inl ⟨by simpa using e, by have : ¬ 10 < x.l := fun h => h3 ⟨e, h⟩; simpa using this⟩; exact .inr (by simpa using e) : ((x.K == 1) = true ∧ decide (10 < x.l) = false) ∨ (x.K == 1) = false) with ⟨g1x, g2x⟩ | g1x
    · rcases (by by_cases e : y.K = 1; exact .inl ⟨by simpa using e, by have : ¬ 10 < y.l := fun h => h4 ⟨e, h⟩; simpa using this⟩; exact .inr (by simpa using e) : ((y.K == 1) = true ∧ decide (10 < y.l) = false) ∨ (y.K == 1) = false) with ⟨g1y, g2y⟩ | g1y
      · go_wp2_with fail
        go_meet
        exact ⟨congrArg Value.bool (decide_eq_false (p := gapBad x y d) hbad).symm, rfl⟩
      · go_wp2_with fail
        go_meet
        exact ⟨congrArg Value.bool (decide_eq_false (p := gapBad x y d) hbad).symm, rfl⟩
    · rcases (by by_cases e : y.K = 1; exact .inl ⟨by simpa using e, by have : ¬ 10 < y.l := fun h => h4 ⟨e, h⟩; simpa using this⟩; exact .inr (by simpa using e) : ((y.K == 1) = true ∧ decide (10 < y.l) = false) ∨ (y.K == 1) = false) with ⟨g1y, g2y⟩ | g1y
      · go_wp2_with fail
        go_meet
        exact ⟨congrArg Value.bool (decide_eq_false (p := gapBad x y d) hbad).symm, rfl⟩
      · go_wp2_with fail
        go_meet
        exact ⟨congrArg Value.bool (decide_eq_false (p := gapBad x y d) hbad).symm, rfl⟩
  case rest =>
    obtain ⟨rfl, rfl⟩ := hcut
    have hbd : decide (gapBad x y d) = false := by simpa using hbad
    have h60x : x.ops.length ≤ 60 := Nat.not_lt.1 fun h => hbad (.inl h)
    have h60y : y.ops.length ≤ 60 := Nat.not_lt.1 fun h => hbad (.inr (.inl h))
    have hd1 : 1 ≤ d := Int.not_lt.1 fun h => hbad (.inr (.inr (.inr (.inr (.inl h)))))
    have hd2 : d ≤ 1099511627776 := Int.not_lt.1 fun h => hbad (.inr (.inr (.inr (.inr (.inr h)))))
    have HMx := Lib.hid (HMx.out h60x)
    have HMy := Lib.hid (HMy.out h60y)
    clear hd hxm hym
    have x0 := blk_cell S1.out.bx
    have xz := lt_of_block S1.out.bx
    go_wp2_with fail
    refine (HMx.out _ S1.out.blw).mono ?_
    rintro e w2 ⟨p1, lz1, A1, c1, m1, rfl, hb2, ok1⟩
    have al := hb2.trans (((Below.refl w2.heap.size w2).alloc (Nat.le_refl _) (.cells #[.int .i64 lz1, .slice A1 m1.length c1] 31)).mono hb2.size)
    have V3 := Lib.hid (heap_alloc_new w2 (.cells #[.int .i64 lz1, .slice A1 m1.length c1] 31))
    have S3 := Lib.hid (S1.out.below al)
    have OK1 := Lib.hid (ok1.imp id fun h => h.below ((Below.refl w2.heap.size w2).alloc (Nat.le_refl _) (.cells #[.int .i64 lz1, .slice A1 m1.length c1] 31)))
    clear al hb2 ok1 S1 x0 xz
    go_upto_region 5 with fail
    obtain ⟨p10, hp10⟩ : ∃ q, q = w2.heap.size := ⟨_, rfl⟩
    rw [← hp10] at V3 ⊢
    generalize w2.alloc (.cells #[.int .i64 lz1, .slice A1 m1.length c1] 31) = w3 at V3 S3 OK1 ⊢
    clear hp10
    have x0 := blk_cell S3.out.by_
    have xz := lt_of_block S3.out.by_
    go_wp2_with fail
    refine (HMy.out _ S3.out.blw).mono ?_
    rintro e w4 ⟨p2, lz2, A2, c2, m2, rfl, hb4, ok2⟩
    have al := hb4.trans (((Below.refl w4.heap.size w4).alloc (Nat.le_refl _) (.cells #[.int .i64 lz2, .slice A2 m2.length c2] 31)).mono hb4.size)
    have U5 := Lib.hid (heap_alloc_new w4 (.cells #[.int .i64 lz2, .slice A2 m2.length c2] 31))
    have S5 := Lib.hid (S3.out.below al)
    have OK2 := Lib.hid (ok2.imp id fun h => h.below ((Below.refl w4.heap.size w4).alloc (Nat.le_refl _) (.cells #[.int .i64 lz2, .slice A2 m2.length c2] 31)))
    have V5 := Lib.hid (blk_below V3.out al)
    have OK1 := Lib.hid (OK1.out.imp id fun h => h.below al)
    clear al hb4 ok2 S3 x0 xz V3
    go_upto_region 6 with fail
    obtain ⟨p12, hp12⟩ : ∃ q, q = w4.heap.size := ⟨_, rfl⟩
    rw [← hp12] at U5 ⊢
    generalize w4.alloc (.cells #[.int .i64 lz2, .slice A2 m2.length c2] 31) = w5 at U5 S5 OK2 V5 OK1 ⊢
    clear hp12
    rcases OK1.out with rfl | ⟨g1, l1, K1, F1, r1, rfl, rfl, hxl, hD1, hT1, hH1, hr1, hm1⟩
    · go_wp2_with fail
      refine (alive21 _).mono ?_
      rintro e w6 ⟨rfl, hb6⟩
      have B6 := Lib.hid (Below.then_ S5.out.blw hb6)
      go_wp2_with fail
      go_ret
      exact ⟨rfl, B6.out⟩
    · rcases OK2.out with rfl | ⟨g2, l2, K2, F2, r2, rfl, rfl, hyl, hD2, hT2, hH2, hr2, hm2⟩
      · go_wp2_with fail
        refine (alive21 _).mono ?_
        rintro e w6 ⟨rfl, hb6⟩
        have B6 := Lib.hid (Below.then_ S5.out.blw hb6)
        go_wp2_with fail
        go_ret
        exact ⟨rfl, B6.out⟩
      · have M5 : Hid (GhM w x y p10 p12 g1 K1 l1 g2 K2 l2 r1 r2 m1 m2 F1 F2 A1 c1 A2 c2 w5) := Lib.hid ⟨S5.out, V5.out, U5.out, hD1, hD2, hT1, hT2⟩
        have HH1 := Lib.hid hH1
        have HH2 := Lib.hid hH2
        have hl1 := hD1.l_le
        have hk1 := hD1.1
        have hk2 := hD2.1
        clear S5 V5 U5 hD1 hD2 hT1 hT2 hH1 hH2 OK1 OK2
        obtain ⟨dn, rfl⟩ := Int.eq_ofNat_of_zero_le (show 0 ≤ d by omega)
        have hv1 : ∀ z ∈ m1, 1 ≤ z.2 := fun z hz => (HH1.out.bag.val z hz).2.2
        have hv2 : ∀ z ∈ m2, 1 ≤ z.2 := fun z hz => (HH2.out.bag.val z hz).2.2
        obtain ⟨er, her⟩ : ∃ er, er = gapErr l1 l2 r1 r2 := ⟨_, rfl⟩
        obtain ⟨⟨mo1, mo2⟩, hmo⟩ : ∃ mo, mo = gapMostT l1 l2 r1 r2 dn := ⟨_, rfl⟩
        obtain ⟨si, hsi⟩ : ∃ si, si = sideT l1 l2 r1 r2 at_ := ⟨_, rfl⟩
        have HMo := Lib.hid (fun W (h : GhM w x y p10 p12 g1 K1 l1 g2 K2 l2 r1 r2 m1 m2 F1 F2 A1 c1 A2 c2 W) => gap_Most W g1 K1 l1 g2 K2 l2 x.k y.k r1 r2 F1 F2 dn h.d1 h.d2 (by omega) (by omega) (by omega))
        have HSi := Lib.hid (fun W (h : GhM w x y p10 p12 g1 K1 l1 g2 K2 l2 r1 r2 m1 m2 F1 F2 A1 c1 A2 c2 W) => gap_Side W g1 K1 l1 g2 K2 l2 x.k y.k r1 r2 F1 F2 at_ h.d1 h.d2 (by omega) (by omega))
        rw [gapMost_err hd1, ← her, ← hmo] at HMo
        simp only at HMo
        rw [← her, ← hsi] at HSi
        have HT1 := Lib.hid (fun W (h : GhM w x y p10 p12 g1 K1 l1 g2 K2 l2 r1 r2 m1 m2 F1 F2 A1 c1 A2 c2 W) => ref10_Total W l1 A1 c1 m1 h.s1.sl hv1 HH1.out.bag.sum)
        have HT2 := Lib.hid (fun W (h : GhM w x y p10 p12 g1 K1 l1 g2 K2 l2 r1 r2 m1 m2 F1 F2 A1 c1 A2 c2 W) => ref10_Total W l2 A2 c2 m2 h.s2.sl hv2 HH2.out.bag.sum)
        rw [(smN_eq HH1.out.bag).1] at HT1
        rw [(smN_eq HH2.out.bag).1] at HT2
        unfold bagV at HT1 HT2
        have HER := Lib.hid her
        have HMOE := Lib.hid hmo
        have HSIE := Lib.hid hsi
        clear her hmo hsi
        go_wp2_with fail
        refine (HMo.out w5 M5.out).mono ?_
        rintro e w6 ⟨rfl, hb6⟩
        have al := hb6.trans (((Below.refl w6.heap.size w6).alloc (Nat.le_refl _) (.cells #[.int .i64 mo1, .int .i64 mo2] 57)).mono hb6.size)
        have XM := Lib.hid (heap_alloc_new w6 (.cells #[.int .i64 mo1, .int .i64 mo2] 57))
        have M7 := Lib.hid (M5.out.below al)
        clear al hb6 M5 HMo
        go_upto_region 9 with fail
        obtain ⟨pm, hpm⟩ : ∃ q, q = w6.heap.size := ⟨_, rfl⟩
        rw [← hpm] at XM ⊢
        generalize w6.alloc (.cells #[.int .i64 mo1, .int .i64 mo2] 57) = w7 at XM M7 ⊢
        clear hpm
        go_wp2_with fail
        refine (HSi.out w7 M7.out).mono ?_
        rintro e w8 ⟨rfl, hb8⟩
        have M8 := Lib.hid (M7.out.below hb8)
        have XM8 := Lib.hid (blk_below XM.out hb8)
        clear hb8 M7 XM HSi
        have hee : (er != er) = false := by simp
        have x0 := blk_cell M8.out.v
        have xz := lt_of_block M8.out.v
        have y0 := blk_cell M8.out.u
        have yz := lt_of_block M8.out.u
        go_upto_region 12 with fail
        refine wp_region_ext (by kernel_rfl) (by kernel_rfl) ?_
        repeat (go_big_quiet_step (first | (go_at_call_of 33 (Value.agg #[.int .i64 l2, .slice A2 m2.length c2]); exact quiet_ext (HT2.out _ (M8.out.below (ext_below _ _)))) | (go_at_call 33; exact quiet_ext (HT1.out _ (M8.out.below (ext_below _ _))))))
        refine wpQuiet_nil ?_
        intro w9 hb9
        have M9 := Lib.hid (M8.out.below (below_of_ext hb9))
        have XM9 := Lib.hid (blk_below XM8.out (below_of_ext hb9))
        clear hb9 x0 xz y0 yz M8 XM8 HT1 HT2 hee
        have x0 := blk_cell M9.out.a.bx
        have xz := lt_of_block M9.out.a.bx
        have y0 := blk_cell M9.out.a.by_
        have yz := lt_of_block M9.out.a.by_
        go_upto_region 13 with fail
        by_cases hl : l1 = l2
        · obtain rfl : l1 = l2 := hl
          have hne : (x.l != y.l) = false := by rw [hxl, hyl]; simp
          have hz : er = if smN m1 = 0 ∨ smN m2 = 0 then 7 else 0 := by
            rw [HER.out]
            unfold gapErr
            rw [if_neg (by simp), HH1.out.sum, HH2.out.sum, (smN_eq HH1.out.bag).1, (smN_eq HH2.out.bag).1]
            simp
          by_cases hz1 : smN m1 = 0
          · obtain rfl : er = 7 := by rw [hz, if_pos (.inl hz1)]
            have k1 : ((smN m1 : Int) == 0) = true := by simp [hz1]
            clear hz HER
            go_wp2_with fail
            refine (alive21 _).mono ?_
            rintro e w10 ⟨rfl, hb10⟩
            have B10 := Lib.hid (Below.then_ M9.out.a.blw hb10)
            go_wp2_with fail
            go_ret
            exact ⟨rfl, B10.out⟩
          · have k1 : ((smN m1 : Int) == 0) = false := by simp [hz1]
            by_cases hz2 : smN m2 = 0
            · obtain rfl : er = 7 := by rw [hz, if_pos (.inr hz2)]
              have k2 : ((smN m2 : Int) == 0) = true := by simp [hz2]
              clear hz HER
              go_wp2_with fail
              refine (alive21 _).mono ?_
              rintro e w10 ⟨rfl, hb10⟩
              have B10 := Lib.hid (Below.then_ M9.out.a.blw hb10)
              go_wp2_with fail
              go_ret
              exact ⟨rfl, B10.out⟩
            · obtain rfl : er = 0 := by rw [hz, if_neg (by simp [hz1, hz2])]
              have k2 : ((smN m2 : Int) == 0) = false := by simp [hz2]
              clear hz
              obtain ⟨lo, hi, eLo, eHi, T⟩ := gap_told HH1.out HH2.out hl1 hk1 hk2 (by rw [(smN_eq HH1.out.bag).1]; omega) (by rw [(smN_eq HH2.out.bag).1]; omega) (d := dn) (by omega) at_
              have hmo : (mo1, mo2) = gapFold l1 dn r1 r2 (gapE l1 r1 r2) := by
                rw [HMOE.out]
                unfold gapMostT
                rw [if_pos (by rw [gapMost_err hd1]; exact HER.out.symm)]
              have hsi : si = sideOf l1 r1 r2 at_ := by
                rw [HSIE.out]
                unfold sideT
                rw [if_pos HER.out.symm]
              rw [← hmo] at eLo eHi
              simp only at eLo eHi
              rw [← hsi] at T
              have TD := Lib.hid T
              have hlo := T.lo_le
              have hhi := T.hi_le
              subst eLo eHi
              have b1 := (smN_eq HH1.out.bag).2
              have b2 := (smN_eq HH2.out.bag).2
              have HRk1 : Hid (∀ (z : Int) (W : World), GhM w x y p10 p12 g1 K1 l1 g2 K2 l1 r1 r2 m1 m2 F1 F2 A1 c1 A2 c2 W → Calls Tryz.prog 37 #[.agg #[.int .i64 l1, .slice A1 m1.length c1], .int .i64 z] W fun e w' => e = .returned (.int .i64 (rkN m1 z)) ∧ Below W.heap.size W w') := Lib.hid fun z W h => by
                have := ref10_Rank W l1 A1 c1 m1 z h.s1.sl hv1 HH1.out.bag.sum
                unfold bagV at this
                rwa [(rkN_eq HH1.out.bag z).1] at this
              have HRk2 : Hid (∀ (z : Int) (W : World), GhM w x y p10 p12 g1 K1 l1 g2 K2 l1 r1 r2 m1 m2 F1 F2 A1 c1 A2 c2 W → Calls Tryz.prog 37 #[.agg #[.int .i64 l1, .slice A2 m2.length c2], .int .i64 z] W fun e w' => e = .returned (.int .i64 (rkN m2 z)) ∧ Below W.heap.size W w') := Lib.hid fun z W h => by
                have := ref10_Rank W l1 A2 c2 m2 z h.s2.sl hv2 HH2.out.bag.sum
                unfold bagV at this
                rwa [(rkN_eq HH2.out.bag z).1] at this
              have HBey := Lib.hid (fun (z : Int) (t : Nat) (ht : t ≤ dn) W => law21_beyond W (rkN m1 z) (smN m1) (rkN m2 z) (smN m2) dn t (by have := (rkN_eq HH1.out.bag z).2; omega) (by omega) (by have := (rkN_eq HH2.out.bag z).2; omega) (by omega) (by omega) (by omega))
              have HOr := Lib.hid (fun W => ref1_Order W (rkN m1 at_) (smN m2) (rkN m2 at_) (smN m1) (by have := (rkN_eq HH1.out.bag at_).2; omega) (by omega) (by have := (rkN_eq HH2.out.bag at_).2; omega) (by omega))
              have HBh := Lib.hid (HBey.out at_ hi hhi)
              rw [T.hi_] at HBh
              have hSd := T.side_
              have HFar := Lib.hid (far_all T)
              obtain ⟨kl, kl'⟩ := low_wrap hlo hd2
              clear T HER HMOE HSIE hmo hsi hv1 hv2
              go_upto_region 17 with fail
              clear x0 xz y0 yz
              have x0 := blk_cell M9.out.v
              have xz := lt_of_block M9.out.v
              have y0 := blk_cell M9.out.u
              have yz := lt_of_block M9.out.u
              refine wp_region_ext (by kernel_rfl) (by kernel_rfl) ?_
              repeat (go_big_quiet_step (first | (go_at_call_of 37 (Value.agg #[.int .i64 l1, .slice A2 m2.length c2]); exact quiet_ext (HRk2.out _ _ (M9.out.below (ext_below _ _)))) | (go_at_call 37; exact quiet_ext (HRk1.out _ _ (M9.out.below (ext_below _ _))))))
              refine wpQuiet_nil ?_
              intro w10 hb10
              have M10 := Lib.hid (M9.out.below (below_of_ext hb10))
              have XM10 := Lib.hid (blk_below XM9.out (below_of_ext hb10))
              clear hb10 x0 xz y0 yz M9 XM9
              go_wp2_with fail
              refine (HOr.out w10).mono ?_
              rintro e w11 ⟨rfl, hb11⟩
              have M11 := Lib.hid (M10.out.below hb11)
              have XM11 := Lib.hid (blk_below XM10.out hb11)
              clear hb11 M10 XM10 HOr
              generalize ordV (rkN m1 at_) (smN m2) (rkN m2 at_) (smN m1) = od at hSd ⊢
              go_upto_region 19 with fail
              go_cut [182] (fun c wx => c = .bool false ∧ GhM w x y p10 p12 g1 K1 l1 g2 K2 l1 r1 r2 m1 m2 F1 F2 A1 c1 A2 c2 wx ∧ wx.heap[pm]? = some (.cells #[.int .i64 lo, .int .i64 hi] 57 (0, 0)))
              case first =>
                have x0 := blk_cell XM11.out
                have xz := lt_of_block XM11.out
                rcases hSd with ⟨rfl, h1⟩ | ⟨rfl, h1⟩ | rfl
                · have h2 : decide (od ≤ 0) = false := by simp; omega
                  go_wp2_with fail
                  refine (HBh.out w11).mono ?_
                  rintro e w12 ⟨rfl, hb12⟩
                  go_wp2_with fail
                  go_meet
                  exact ⟨rfl, M11.out.below hb12, blk_below XM11.out hb12⟩
                · have h2 : decide (0 ≤ od) = false := by simp; omega
                  have h3 : decide (od ≥ 0) = false := h2
                  go_wp2_with fail
                  refine (HBh.out w11).mono ?_
                  rintro e w12 ⟨rfl, hb12⟩
                  go_wp2_with fail
                  go_meet
                  exact ⟨rfl, M11.out.below hb12, blk_below XM11.out hb12⟩
                · go_wp2_with fail
                  refine (HBh.out w11).mono ?_
                  rintro e w12 ⟨rfl, hb12⟩
                  go_wp2_with fail
                  go_meet
                  exact ⟨rfl, M11.out.below hb12, blk_below XM11.out hb12⟩
              case rest =>
                obtain ⟨rfl, hM, hX⟩ := hcut
                have M12 := Lib.hid hM
                have XM12 := Lib.hid hX
                clear hM hX M11 XM11 hSd HBh
                have x0 := blk_cell XM12.out
                have xz := lt_of_block XM12.out
                go_upto_region 22 with fail
                clear x0 xz
                refine wp_region_noPanic ?_
                refine wp_region_N (fun W' => GhM w x y p10 p12 g1 K1 l1 g2 K2 l1 r1 r2 m1 m2 F1 F2 A1 c1 A2 c2 W') [] (by kernel_rfl) (M12.out.below (Below.drew (Below.refl _ _))) (fun hHeld => ?_)
                have N0 := Lib.hid hHeld
                have NX := Lib.hid (show wc.drew.heap[pm]? = _ from XM12.out)
                generalize wc.drew = q0 at N0 NX ⊢
                clear M12 XM12
                refine wpAnyN_pure (i := 1) (v := Value.pointer (some ⟨p10, 1, none⟩)) rfl (by kernel_rfl) (by kernel_rfl) (by kernel_rfl) (fun _ _ _ h => h) (Or.inl ⟨by rfl, fun W _ => by go_simp⟩) ?_
                try simp only [List.getElem_toArray, List.getElem_cons_zero, List.getElem_cons_succ, Act.put, List.setIfInBounds_toArray, List.set_cons_zero, List.set_cons_succ]
                refine wpAnyN_take (i := 2) (v := Value.slice A1 m1.length c1) rfl (by kernel_rfl) (by kernel_rfl) (by kernel_rfl) (by kernel_rfl) (fun _ _ _ h => h) (Or.inl ⟨by rfl, fun W hW => by have q1 := blk_cell hW.v; have q2 := lt_of_block hW.v; have q3 := blk_cell hW.u; have q4 := lt_of_block hW.u; go_simp⟩) N0.out ?_
                try simp only [List.getElem_toArray, List.getElem_cons_zero, List.getElem_cons_succ, Act.put, List.setIfInBounds_toArray, List.set_cons_zero, List.set_cons_succ]
                refine wpAnyN_pure (i := 4) (v := Value.pointer (some ⟨p12, 1, none⟩)) rfl (by kernel_rfl) (by kernel_rfl) (by kernel_rfl) (fun _ _ _ h => h) (Or.inl ⟨by rfl, fun W _ => by go_simp⟩) ?_
                try simp only [List.getElem_toArray, List.getElem_cons_zero, List.getElem_cons_succ, Act.put, List.setIfInBounds_toArray, List.set_cons_zero, List.set_cons_succ]
                refine wpAnyN_take (i := 5) (v := Value.slice A2 m2.length c2) rfl (by kernel_rfl) (by kernel_rfl) (by kernel_rfl) (by kernel_rfl) (fun _ _ _ h => h) (Or.inl ⟨by rfl, fun W hW => by have q1 := blk_cell hW.v; have q2 := lt_of_block hW.v; have q3 := blk_cell hW.u; have q4 := lt_of_block hW.u; go_simp⟩) N0.out ?_
                try simp only [List.getElem_toArray, List.getElem_cons_zero, List.getElem_cons_succ, Act.put, List.setIfInBounds_toArray, List.set_cons_zero, List.set_cons_succ]
                refine wpAnyN_one (i := 0) (by kernel_rfl) rfl (fun K hK => ?_)
                go_simp
                have OE := Lib.hid (own_emptyR q0)
                have B1 : Hid (Below q0.heap.size q0 (q0.alloc (.cells #[] 96))) := Lib.hid ((Below.refl _ _).alloc (Nat.le_refl _) _)
                refine hK.out _ _ (fun _ _ => N0.out.below B1.out) ?_
                clear hK K
                try simp only [List.getElem_toArray, List.getElem_cons_zero, List.getElem_cons_succ, Act.put, List.setIfInBounds_toArray, List.set_cons_zero, List.set_cons_succ]
                generalize q0.alloc (.cells #[] 96) = q1 at OE B1 ⊢
                have SP := Lib.hid (N0.out.below B1.out).s1.sl
                refine wpAnyN_one (i := 3) (by kernel_rfl) rfl (fun K hK => ?_)
                refine step_app (o := ⟨some 189, _, _, _, _, _⟩) tyRd rfl _ _ rfl encN q0.heap.size (.slice (some ⟨q0.heap.size, 0, none⟩) 0 0) [] rfl OE.out A1 c1 m1 q1.heap.size rfl SP.out (small60 (a := 0) (Nat.zero_le _) hm1).1 (small60 (a := 0) (Nat.zero_le _) hm1).2 B1.out.size ?_
                intro v2 q2 ho2 _ _ hb2 _
                have O2 : Hid (Own q2 q0.heap.size 96 encN v2 m1) := Lib.hid (by simpa using ho2)
                have B2 := Lib.hid (B1.out.trans hb2)
                clear ho2 hb2 OE B1 SP
                refine hK.out _ _ (fun _ _ => N0.out.below B2.out) ?_
                clear hK K
                try simp only [List.getElem_toArray, List.getElem_cons_zero, List.getElem_cons_succ, Act.put, List.setIfInBounds_toArray, List.set_cons_zero, List.set_cons_succ]
                have SQ := Lib.hid (N0.out.below B2.out).s2.sl
                refine wpAnyN_one (i := 6) (by kernel_rfl) rfl (fun K hK => ?_)
                refine step_app (o := ⟨some 192, _, _, _, _, _⟩) tyRd rfl _ _ rfl encN q0.heap.size v2 m1 rfl O2.out A2 c2 m2 q2.heap.size rfl SQ.out (small60 hm1 hm2).1 (small60 hm1 hm2).2 B2.out.size ?_
                intro v3 q3 ho3 _ _ hb3 _
                have B3 := Lib.hid (B2.out.trans hb3)
                obtain ⟨L, hLe⟩ : ∃ L, L = m1 ++ m2 := ⟨_, rfl⟩
                rw [← hLe] at ho3
                have HLe := Lib.hid hLe
                clear hLe
                obtain ⟨Av, cv, rfl, _⟩ := ho3.form
                have O13 := Lib.hid ho3
                have M13 := Lib.hid (N0.out.below B3.out)
                have XM13 := Lib.hid (blk_below NX.out B3.out)
                clear ho3 hb3 O2 B2 SQ
                refine hK.out _ _ (fun _ _ => M13.out) ?_
                clear hK K
                try simp only [List.getElem_toArray, List.getElem_cons_zero, List.getElem_cons_succ, Act.put, List.setIfInBounds_toArray, List.set_cons_zero, List.set_cons_succ]
                refine wpAnyN_one (i := 7) (by kernel_rfl) rfl (fun K hK => ?_)
                go_simp
                refine hK.out _ _ (fun _ _ => M13.out) ?_
                clear hK K
                try simp only [List.getElem_toArray, List.getElem_cons_zero, List.getElem_cons_succ, Act.put, List.setIfInBounds_toArray, List.set_cons_zero, List.set_cons_succ]
                refine wpAnyN_done (by kernel_rfl) ?_ _
                refine NoPanic.normal ?_
                clear N0 NX B3
                have HLn : Hid (L.length ≤ 120) := Lib.hid (by rw [HLe.out, List.length_append]; omega)
                rw [← HLe.out] at HFar
                have HSl := Lib.hid O13.out.sl
                have hln := HLn.out
                clear HLe O13
                have HFS := Lib.hid (fun q (h : q < L.length) => far_succ m1 m2 dn lo h)
                have HBl := Lib.hid (fun (z : Int) (h : 1 ≤ lo) W => by
                  have := HBey.out z (lo - 1) (by omega) W
                  rwa [show ((lo - 1 : Nat) : Int) = (lo : Int) - 1 by omega] at this)
                have HFn := Lib.hid (far_nil m1 m2 dn lo)
                clear hne k1 k2 hxl hyl hr1 hr2 hz1 hz2 h60x h60y hl1 hk1 hk2 b1 b2 hm1 hm2 hbad hbd hlo hhi hd1 hd2 HBey HH1 HH2
                go_wp2_with fail
                go_loopw [23, 195] (fun f i wr => ∃ q, q ≤ L.length ∧ i = .int .i64 q ∧ f = .bool (farB m1 m2 dn lo (L.take q)) ∧ Below q3.heap.size q3 wr) (fun _ i _ => L.length - (intOf i).toNat)
                case atStart => exact ⟨0, Nat.zero_le _, rfl, by rw [List.take_zero, HFn.out], Below.refl _ _⟩
                case round =>
                  obtain ⟨q, hq, rfl, rfl, hB⟩ := hrel
                  have HB := Lib.hid hB
                  clear hB
                  by_cases hlt : q < L.length
                  · obtain ⟨b, off, rfl, hb, hc⟩ := HSl.out.at_ hlt
                    have d0 := (HB.out.cell (p := ⟨b, off + q * 2 + 0, none⟩) hb).trans (hc 0 (.int .i64 L[q].1) rfl)
                    have d1 := (HB.out.cell (p := ⟨b, off + q * 2 + 1, none⟩) hb).trans (hc 1 (.int .i64 L[q].2) rfl)
                    simp only [Nat.add_zero] at d0
                    have hfs := HFS.out q hlt
                    have lb : b < wr.heap.size := Nat.lt_of_lt_of_le hb HB.out.size
                    generalize L[q] = z at d0 d1 hfs
                    obtain ⟨z1, z2⟩ := z
                    simp only at d0 d1 hfs
                    clear hc
                    have hlo0 := Lib.hid (fun h => far_lo (P := L.take q) (m1 := m1) (m2 := m2) (d := dn) (lo := lo) h)
                    generalize farB m1 m2 dn lo (L.take q) = f at hfs hlo0 ⊢
                    have HFs := Lib.hid hfs
                    clear hfs
                    have MA := Lib.hid ((M13.out.below HB.out).below ((Below.refl wr.heap.size wr).alloc (Nat.le_refl _) (.cells #[.int .i64 z1, .int .i64 z2] 96)))
                    have BA := Lib.hid (HB.out.alloc HB.out.size (.cells #[.int .i64 z1, .int .i64 z2] 96))
                    have XA := Lib.hid (heap_alloc_new wr (.cells #[.int .i64 z1, .int .i64 z2] 96))
                    go_upto_region 26 with fail
                    obtain ⟨pz, hpz⟩ : ∃ q, q = wr.heap.size := ⟨_, rfl⟩
                    rw [← hpz] at XA ⊢
                    generalize wr.alloc (.cells #[.int .i64 z1, .int .i64 z2] 96) = v1 at MA BA XA ⊢
                    clear hpz d0 d1 lb HB
                    have x0 := blk_cell MA.out.v
                    have xz := lt_of_block MA.out.v
                    have y0 := blk_cell MA.out.u
                    have yz := lt_of_block MA.out.u
                    have s0 := blk_cell XA.out
                    have sz := lt_of_block XA.out
                    refine wp_region_ext (by kernel_rfl) (by kernel_rfl) ?_
                    repeat (go_big_quiet_step (first | (go_at_call_of 37 (Value.agg #[.int .i64 l1, .slice A2 m2.length c2]); exact quiet_ext (HRk2.out _ _ (MA.out.below (ext_below _ _)))) | (go_at_call 37; exact quiet_ext (HRk1.out _ _ (MA.out.below (ext_below _ _))))))
                    refine wpQuiet_nil ?_
                    intro v2 hv2
                    have B2 := Lib.hid (BA.out.trans ((below_of_ext hv2).mono BA.out.size))
                    clear hv2 x0 xz y0 yz s0 sz MA BA XA
                    cases f
                    · have hlo1 := hlo0.out rfl
                      have HB2 := Lib.hid (HBl.out z1 hlo1)
                      have XM2 := Lib.hid (blk_below XM13.out B2.out)
                      have x0 := blk_cell XM2.out
                      have xz := lt_of_block XM2.out
                      go_wp2_with fail
                      refine (HB2.out v2).mono ?_
                      rintro e v3 ⟨rfl, hb3⟩
                      have B3 := Lib.hid (B2.out.trans (hb3.mono B2.out.size))
                      clear hb3 x0 xz XM2 B2 HB2
                      go_wp2_with fail
                      go_roundw
                      case rel => exact ⟨q + 1, hlt, by go_num, by rw [HFs.out]; simp, B3.out⟩
                      case measure => simp [intOf]; omega
                    · go_wp2_with fail
                      go_roundw
                      case rel => exact ⟨q + 1, hlt, by go_num, by rw [HFs.out]; simp, B2.out⟩
                      case measure => simp [intOf]; omega
                  · obtain rfl : q = L.length := Nat.le_antisymm hq (Nat.not_lt.1 hlt)
                    rw [List.take_length, HFar.out]
                    go_wp2_with fail
                    refine (alive21 _).mono ?_
                    rintro e v3 ⟨rfl, hb3⟩
                    have B3 := Lib.hid (Below.then_ (M13.out.below HB.out).a.blw hb3)
                    go_wp2_with fail
                    go_ret
                    exact ⟨rfl, B3.out⟩
        · have hne : (x.l != y.l) = true := by rw [hxl, hyl]; simp; omega
          obtain rfl : er = 6 := by
            rw [HER.out]
            unfold gapErr
            rw [if_pos (by omega)]
          go_wp2_with fail
          refine (alive21 _).mono ?_
          rintro e w10 ⟨rfl, hb10⟩
          have B10 := Lib.hid (Below.then_ M9.out.a.blw hb10)
          go_wp2_with fail
          go_ret
          exact ⟨rfl, B10.out⟩
end Go.Proofs.YtcjnchjmpkapmaaGreat
/- Two numbers that come in. -/
namespace Go.Proofs.YtcjnchjmpkapmaaGreat
open Go.ChangeShapes Go.WideShapes Go.ChangeAt Go.RowKit
set_option linter.unusedVariables false
set_option maxRecDepth 100000

theorem trod_two {H : Type} {enc : TypeId × Value → H} {P : Program} {w : World} {base : Nat} {spare : Nat → Bool} {held : Bool} {t e : TypeId} {fuel : Nat} {c0 c1 : Value} {x : DataW H × List MemPlace} (ht : P.underlying t = some (.array 2 e)) (hce : P.cellsOf e = 1)
    (h : DataW.trod enc P w base spare held fuel t [c0, c1] = some x) :
    ∃ y0 y1 n, x = (.agg [y0.1, y1.1], y0.2 ++ y1.2) ∧ DataW.trod enc P w base spare held n e [c0] = some y0 ∧ DataW.trod enc P w base spare held n e [c1] = some y1 := by
  cases fuel with
  | zero => simp [DataW.trod] at h
  | succ n =>
    unfold DataW.trod at h
    rw [ht] at h
    have r2 : List.range 2 = [0, 1] := rfl
    simp [r2, hce] at h
    obtain ⟨_, h⟩ := h
    cases h0 : DataW.trod enc P w base spare held n e [c0] with
    | none => simp [h0] at h
    | some y0 =>
      cases h1 : DataW.trod enc P w base spare held n e [c1] with
      | none => simp [h0, h1] at h
      | some y1 =>
        simp [h0, h1] at h
        exact ⟨y0, y1, n, h.symm, h0, h1⟩
theorem open_Ask2 {H : Type} {enc : TypeId × Value → H} {w : World} {base : Nat} {spare : Nat → Bool} {held : Bool} {r : Reach} {b0 : Nat} {v : Value} {d : DataW H} {p : List MemPlace}
    (hv : Value.okWide Tryz.prog w r b0 121 v) (h : DataW.Trod enc Tryz.prog w base spare held 121 v d p) :
    ∃ (a b : Int), v = .agg #[.int .i64 a, .int .i64 b] ∧ i64 a ∧ i64 b := by
  obtain ⟨cs, rfl, hsz, _⟩ : ∃ cs, v = .agg cs ∧ cs.size = (Tryz.prog).cellsOf 121 ∧ Row.okWide Tryz.prog w r b0 121 cs := by
    simpa [Value.okWide, Tryz.underlying121] using hv
  have hC : (Tryz.prog).cellsOf 121 = 2 := by kernel_rfl
  have hCi : (Tryz.prog).cellsOf 3 = 1 := by kernel_rfl
  rw [hC] at hsz
  obtain ⟨cs⟩ := cs
  match cs, hsz with
  | [c0, c1], _ =>
    obtain ⟨fuel, hf⟩ := h
    obtain ⟨y0, y1, m, _, g0, g1⟩ := trod_two Tryz.underlying121 hCi hf
    obtain ⟨k, e0, _, k0⟩ := DataW.trod_int Tryz.underlying3 g0
    obtain ⟨i, e1, _, k1⟩ := DataW.trod_int Tryz.underlying3 g1
    simp at e0 e1
    subst e0 e1
    exact ⟨k, i, rfl, i64_of_wf k0, i64_of_wf k1⟩
end Go.Proofs.YtcjnchjmpkapmaaGreat
/- Chapter 21, GapHolds: the law's two cases. -/
namespace Go.Proofs.YtcjnchjmpkapmaaGreat
open Go.ChangeShapes Go.WideShapes Go.ChangeAt Go.RowKit
set_option linter.unusedVariables false

theorem law_GapHolds (la ka Ka : Int) (ra : List Op3) (A : Option Addr) (cap : Nat) (lb kb Kb : Int) (rb : List Op3) (B : Option Addr) (capb : Nat) (at_ d : Int) (W : World)
    (hS : Sl W W.heap.size encO A ra) (hI : intsO ra) (wl : i64 la) (wk : i64 ka) (wK : i64 Ka) (hm : ra.length ≤ maxLen) (hS2 : Sl W W.heap.size encO B rb) (hI2 : intsO rb) (wl2 : i64 lb) (wk2 : i64 kb) (wK2 : i64 Kb) (hm2 : rb.length ≤ maxLen) (_ : i64 at_) (wd : i64 d) :
    Calls Tryz.prog 11 #[callsV la ka Ka A ra.length cap, callsV lb kb Kb B rb.length capb, .agg #[.int .i64 at_, .int .i64 d]] W fun e W' => e = .returned (.bool true) ∧ Below W.heap.size W W' := by
  have hx : SideOk W ⟨la, ka, Ka, A, cap, ra⟩ := ⟨hS, hI, wl, wk, wK, hm⟩
  have hy : SideOk W ⟨lb, kb, Kb, B, capb, rb⟩ := ⟨hS2, hI2, wl2, wk2, wK2, hm2⟩
  by_cases hbad : gapBad ⟨la, ka, Ka, A, cap, ra⟩ ⟨lb, kb, Kb, B, capb, rb⟩ d
  · exact law_GapHolds_bad ⟨la, ka, Ka, A, cap, ra⟩ ⟨lb, kb, Kb, B, capb, rb⟩ at_ d W hx hy wd hbad
  · exact law_GapHolds_ok ⟨la, ka, Ka, A, cap, ra⟩ ⟨lb, kb, Kb, B, capb, rb⟩ at_ d W hx hy wd hbad
end Go.Proofs.YtcjnchjmpkapmaaGreat
