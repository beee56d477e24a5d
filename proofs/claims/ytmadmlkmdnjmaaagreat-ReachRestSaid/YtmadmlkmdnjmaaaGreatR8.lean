/-
  Texts of this proof, one behind the other: ReachRestW.
-/
import Derived.Test.YtmadmlkmdnjmaaaGreatR5
import Derived.Test.YtmadmlkmdnjmaaaGreatR7
/- Chapter 18: what weighs on the rest of nodes: the law. -/
set_option linter.unusedSimpArgs false namespace Go.Proofs.YtmadmlkmdnjmaaaGreat
open Go.ChangeShapes Go.WideShapes Go.ChangeAt Go.RowKit
set_option linter.unusedVariables false
set_option linter.unusedSimpArgs false
set_option maxRecDepth 100000

theorem wIds_not {p q : Int → Bool} {r : List Nd} (h : ∀ x ∈ r, q x.1 = !p x.1) : wIds p r + wIds q r = sumR r := by
  induction r with
  | nil => rfl
  | cons x r ih =>
    have := ih fun y hy => h y (by simp [hy])
    have hx := h x (by simp)
    simp only [wIds, sumR, hx]
    cases p x.1 <;> simp <;> omega
theorem refOn_sum {l : Nat} {ids : List Int} {r : List Nd} (hi : ∀ y ∈ ids, isNode l y = true) (hn : ∀ x ∈ r, isNode l x.1 = true) : (refOn l ids false r).1 + (refOn l ids true r).2 = sumR r ∧ (refOn l ids false r).2 + (refOn l ids true r).1 = sumR r := by
  rw [refOn_num, refOn_num]
  constructor
  · refine wIds_not fun x hx => ?_
    obtain ⟨s1, s2, _⟩ := heldC_spec hi (hn x hx)
    simp only [numN, Bool.false_eq_true, if_false, if_true, reduceIte]
    rw [Bool.eq_iff_iff, Bool.not_eq_true', decide_eq_true_eq, decide_eq_false_iff_not]
    omega
  · refine wIds_not fun x hx => ?_
    obtain ⟨s1, s2, _⟩ := heldC_spec hi (hn x hx)
    simp only [numN, Bool.false_eq_true, if_false, if_true, reduceIte]
    rw [Bool.eq_iff_iff, Bool.not_eq_true', decide_eq_true_eq, decide_eq_false_iff_not]
    omega
theorem refOn_self {l : Nat} {C : Int → Prop} {T : List Int} {r : List Nd} (h : Tiles l C T) (hn : ∀ x ∈ r, isNode l x.1 = true) : refOn l T false r = onT T r :=
  (ref_on h.node (h.congr fun v => (h.cov v).symm) hn).symm
theorem betw_low {l : Nat} {r : List Nd} (hn : ∀ x ∈ r, isNode l x.1 = true) (m : Int) : betwLow l r (-1) m = lowOf l r m := by
  unfold betwLow lowOf
  rw [weighR_ids, weighR_ids]
  refine wIds_congr fun x hx => ?_
  have := (ends_bounds (hn x hx)).1
  simp only [inLow]
  rw [decide_eq_true (by omega : (-1 : Int) ≤ (endsOf l x.1).1)]; rfl
theorem betw_high {l : Nat} {r : List Nd} (hn : ∀ x ∈ r, isNode l x.1 = true) (m : Int) : betwHigh l r (-1) m = highOf l r m := by
  unfold betwHigh highOf
  rw [weighR_ids, weighR_ids]
  refine wIds_congr fun x hx => ?_
  have := ends_bounds (hn x hx)
  simp only [inHigh]
  rw [decide_eq_true (by omega : (-1 : Int) ≤ (endsOf l x.1).2.1)]; simp
/-- What stands while ReachRest runs. -/
structure RestW (w : World) (g K l : Nat) (k : Int) (r : List Nd) (F : Nat → Prop) (A : Option Addr) (cap : Nat) (a b : Int) (W : World) : Prop where
  d : DigAt W g K l k r F
  x : W.heap[w.heap.size]? = some (.cells #[.int .i64 l, .int .i64 k, .int .i64 K, .slice A r.length cap] 48 (0, 0))
  a : W.heap[w.heap.size + 1]? = some (.cells #[.int .i64 a, .int .i64 b] 74 (0, 0))
  blw : Below w.heap.size w W
theorem RestW.below {w : World} {g K l : Nat} {k : Int} {r : List Nd} {F : Nat → Prop} {A : Option Addr} {cap : Nat} {a b : Int} {W W' : World} (h : RestW w g K l k r F A cap a b W) (hb : Below W.heap.size W W') : RestW w g K l k r F A cap a b W' :=
  ⟨h.d.below hb, blk_below h.x hb, blk_below h.a hb, h.blw.trans (hb.mono h.blw.size)⟩
theorem RestW.alloc {w : World} {g K l : Nat} {k : Int} {r : List Nd} {F : Nat → Prop} {A : Option Addr} {cap : Nat} {a b : Int} {W : World} (h : RestW w g K l k r F A cap a b W) (o : Obj) : RestW w g K l k r F A cap a b (W.alloc o) := h.below ((Below.refl _ _).alloc (Nat.le_refl _) o)
theorem law_ReachRest_no (l k K : Int) (r : List Nd) (A : Option Addr) (cap : Nat) (ids : List Int) (Ai : Option Addr) (capi : Nat) (a b : Int) (w : World) (h : ¬ goodL l k K r) (hS : Sl w w.heap.size encN A r) (hI : ints r) (hm : r.length ≤ maxLen) :
    Calls Tryz.prog 7 #[loadedV l k K A r.length cap, .slice Ai ids.length capi, .agg #[.int .i64 a, .int .i64 b]] w fun e w' => e = .returned (.bool true) ∧ Below w.heap.size w w' := by
  have HC := Lib.hid (law16_Load_no · l k K A cap r h · hI hm)
  have HS := Lib.hid hS
  clear h hS
  unfold loadedV refDig at HC
  unfold loadedV
  have BA : Below w.heap.size w ((w.alloc (.cells #[.int .i64 l, .int .i64 k, .int .i64 K, .slice A r.length cap] 48)).alloc (.cells #[.int .i64 a, .int .i64 b] 74)) := (by repeat (first | with_reducible exact Below.refl _ _ | with_reducible assumption | ((with_reducible refine Below.setCell ?_ ?_ _); rotate_left; · (first | omega | exact Nat.le_refl _ | (simp <;> omega))) | (with_reducible refine Below.allocW ?_ _) | (with_reducible refine Below.drew ?_) | (with_reducible refine Below.extW ?_ _)))
  have S2 := Lib.hid (HS.out.keep (B' := ((w.alloc (.cells #[.int .i64 l, .int .i64 k, .int .i64 K, .slice A r.length cap] 48)).alloc (.cells #[.int .i64 a, .int .i64 b] 74)).heap.size) BA.size fun p hp => BA.cell hp)
  clear BA
  go_enter Tryz.func7, Tryz.ntmps7
  go_wp2_with fail
  refine (HC.out _ S2.out).mono ?_
  rintro e w1 ⟨rfl, hb1⟩
  have B1 : Below w.heap.size w w1 := Below.then_ (by repeat (first | with_reducible exact Below.refl _ _ | with_reducible assumption | ((with_reducible refine Below.setCell ?_ ?_ _); rotate_left; · (first | omega | exact Nat.le_refl _ | (simp <;> omega))) | (with_reducible refine Below.allocW ?_ _) | (with_reducible refine Below.drew ?_) | (with_reducible refine Below.extW ?_ _))) hb1
  have s1 : w.heap.size ≤ w1.heap.size := B1.size
  have z1_0 : w.heap.size < w1.heap.size := by have := hb1.size; (try simp at this); omega
  have y1_0 : w.heap.size ≤ w1.heap.size := Nat.le_of_lt z1_0
  have c1_0 := fun o => hb1.cell (p := ⟨w.heap.size, o, none⟩) (by first | omega | (simp <;> omega))
  have f1_0 := fun o => hb1.frozen (p := ⟨w.heap.size, o, none⟩) (by first | omega | (simp <;> omega))
  have z1_1 : w.heap.size + 1 < w1.heap.size := by have := hb1.size; (try simp at this); omega
  have y1_1 : w.heap.size + 1 ≤ w1.heap.size := Nat.le_of_lt z1_1
  have c1_1 := fun o => hb1.cell (p := ⟨w.heap.size + 1, o, none⟩) (by first | omega | (simp <;> omega))
  have f1_1 := fun o => hb1.frozen (p := ⟨w.heap.size + 1, o, none⟩) (by first | omega | (simp <;> omega))
  go_wp2_with fail
  refine (alive18 _).mono ?_
  rintro e w2 ⟨rfl, hb2⟩
  have B2 : Below w.heap.size w w2 := Below.then_ (by repeat (first | with_reducible exact Below.refl _ _ | with_reducible assumption | ((with_reducible refine Below.setCell ?_ ?_ _); rotate_left; · (first | omega | exact Nat.le_refl _ | (simp <;> omega))) | (with_reducible refine Below.allocW ?_ _) | (with_reducible refine Below.drew ?_) | (with_reducible refine Below.extW ?_ _))) hb2
  have s2 : w.heap.size ≤ w2.heap.size := B2.size
  go_wp2_with fail
  go_ret
  exact ⟨rfl, (by repeat (first | with_reducible exact Below.refl _ _ | with_reducible assumption | ((with_reducible refine Below.setCell ?_ ?_ _); rotate_left; · (first | omega | exact Nat.le_refl _ | (simp <;> omega))) | (with_reducible refine Below.allocW ?_ _) | (with_reducible refine Below.drew ?_) | (with_reducible refine Below.extW ?_ _)))⟩
set_option maxHeartbeats 8000000 in
theorem law_ReachRest_yes (l K : Nat) (k : Int) (r : List Nd) (A : Option Addr) (cap : Nat) (ids : List Int) (Ai : Option Addr) (capi : Nat) (a b : Int) (w : World) (h : goodL l k K r) (hS : Sl w w.heap.size encN A r) (hI : ints r) (hSi : Sl w w.heap.size encZ Ai ids) (hIi : ∀ x ∈ ids, i64 x) (hmi : ids.length ≤ maxLen) (ha : i64 a) (hb : i64 b) :
    Calls Tryz.prog 7 #[loadedV l k K A r.length cap, .slice Ai ids.length capi, .agg #[.int .i64 a, .int .i64 b]] w fun e w' => e = .returned (.bool true) ∧ Below w.heap.size w w' := by
  have hn : r.length ≤ 67108864 := by have := h.1; omega
  have hr := (goodL_parts h.2.2).1
  have hf := right_fits hr
  have HC := Lib.hid (law16_Load · l K k A cap r h · hI)
  have HS := Lib.hid (And.intro hS hSi)
  have HFit := Lib.hid hf.1
  have X0 : Hid (((w.alloc (.cells #[.int .i64 l, .int .i64 k, .int .i64 K, .slice A r.length cap] 48)).alloc (.cells #[.int .i64 a, .int .i64 b] 74)).heap[w.heap.size]? = some (.cells #[.int .i64 l, .int .i64 k, .int .i64 K, .slice A r.length cap] 48 (0, 0))) := Lib.hid ((heap_new_lt _ _ _ (by simp)).trans (heap_alloc_new w _))
  have X1 : Hid (((w.alloc (.cells #[.int .i64 l, .int .i64 k, .int .i64 K, .slice A r.length cap] 48)).alloc (.cells #[.int .i64 a, .int .i64 b] 74)).heap[w.heap.size + 1]? = some (.cells #[.int .i64 a, .int .i64 b] 74 (0, 0))) := Lib.hid (heap_new_at (w.alloc _) _ _ (by simp))
  have BW0 : Hid (Below w.heap.size w ((w.alloc (.cells #[.int .i64 l, .int .i64 k, .int .i64 K, .slice A r.length cap] 48)).alloc (.cells #[.int .i64 a, .int .i64 b] 74))) := Lib.hid (by repeat (first | with_reducible exact Below.refl _ _ | with_reducible assumption | ((with_reducible refine Below.setCell ?_ ?_ _); rotate_left; · (first | omega | exact Nat.le_refl _ | (simp <;> omega))) | (with_reducible refine Below.allocW ?_ _) | (with_reducible refine Below.drew ?_) | (with_reducible refine Below.extW ?_ _)))
  unfold loadedV refDig at HC
  unfold loadedV
  clear h hS hr hf hSi
  go_enter Tryz.func7, Tryz.ntmps7
  go_upto_region 1 with fail
  generalize (w.alloc (.cells #[.int .i64 l, .int .i64 k, .int .i64 K, .slice A r.length cap] 48)).alloc (.cells #[.int .i64 a, .int .i64 b] 74) = W0 at X0 X1 BW0 ⊢
  have cx := blk_cell X0.out
  have zx := lt_of_block X0.out
  have S0 := Lib.hid (HS.out.1.keep (B' := W0.heap.size) BW0.out.size fun p hp => BW0.out.cell hp)
  go_wp2_with fail
  refine (HC.out _ S0.out).mono ?_
  rintro e w1 ⟨g, F, rfl, hD, _, hb1⟩
  have hl := hD.l_le
  have hl2 : (l : Int) ≤ 48 := by omega
  have R1 : Hid (RestW w g K l k r F A cap a b w1) := Lib.hid ⟨hD, blk_below X0.out hb1, blk_below X1.out hb1, BW0.out.trans (hb1.mono BW0.out.size)⟩
  have hrn := HFit.out.nodes hl
  have HRN := Lib.hid hrn
  clear hb1 hD cx zx S0 X0 X1 BW0
  by_cases h30 : ids.length ≤ 30
  · have i30 : decide ((30 : Int) < (ids.length : Int)) = false := by simp; omega
    have HB := Lib.hid (fun (W : World) (h : DigAt W g K l k r F) hs => reach_On W g K l k r F Ai capi ids h hn hs (by omega) hrn)
    have HSh := Lib.hid (fun (W : World) (h : DigAt W g K l k r F) hs => reach_Off W g K l k r F Ai capi ids h hn hs (by omega) hrn)
    have HOn := Lib.hid (fun (W : World) (A2 : Option Addr) (c2 : Nat) (T : List Int) (h : DigAt W g K l k r F) hs hm => reach_On W g K l k r F A2 c2 T h hn hs hm hrn)
    have HBt := Lib.hid (fun (W : World) (x y : Int) (h : DigAt W g K l k r F) => reach_Between W g K l k r F x y h hn)
    have HN := Lib.hid (fun (W : World) (h : DigAt W g K l k r F) => digest_N W g K l k r F h)
    have HLo := Lib.hid (fun (W : World) (y : Int) (h : DigAt W g K l k r F) => rank_Low W g K l k r F y h hn)
    have HHi := Lib.hid (fun (W : World) (y : Int) (h : DigAt W g K l k r F) => rank_High W g K l k r F y h hn)
    have R2 := Lib.hid (R1.out.alloc (.cells #[.int .i64 k, .int .i64 l, .slice A r.length cap] 57))
    clear R1
    go_upto_region 4 with fail
    generalize w1.alloc (.cells #[.int .i64 k, .int .i64 l, .slice A r.length cap] 57) = w2 at R2 ⊢
    have T2 := Lib.hid (HS.out.2.keep (B' := w2.heap.size) R2.out.blw.size fun p hp => R2.out.blw.cell hp)
    cases hall : ids.all (isNode l)
    · rw [onV_no hall] at HB HSh
      have HR := Lib.hid (fun (W : World) hs => tiles_Rest_no W l hl Ai capi ids hs (by omega) hall)
      go_wp2_with fail
      refine (HB.out _ R2.out.d T2.out).mono ?_
      rintro e w3 ⟨rfl, hb3⟩
      have R3 := Lib.hid ((R2.out.below hb3).alloc (.cells #[.int .i64 0, .int .i64 0] 51))
      have P3 := Lib.hid (bothAt.new w3 0 0)
      clear hb3 T2 R2
      go_upto_region 5 with fail
      obtain ⟨p3, hp3⟩ : ∃ p, p = w3.heap.size := ⟨_, rfl⟩
      rw [← hp3] at P3 ⊢
      generalize w3.alloc (.cells #[.int .i64 0, .int .i64 0] 51) = w4 at R3 P3 ⊢
      clear hp3
      have T4 := Lib.hid (HS.out.2.keep (B' := w4.heap.size) R3.out.blw.size fun p hp => R3.out.blw.cell hp)
      go_wp2_with fail
      refine (HSh.out _ R3.out.d T4.out).mono ?_
      rintro e w5 ⟨rfl, hb5⟩
      have R5 := Lib.hid ((R3.out.below hb5).alloc (.cells #[.int .i64 0, .int .i64 0] 51))
      have Q3 := Lib.hid (P3.out.below (hb5.alloc hb5.size (.cells #[.int .i64 0, .int .i64 0] 51)))
      have P5 := Lib.hid (bothAt.new w5 0 0)
      clear hb5 T4 R3 P3
      go_upto_region 6 with fail
      obtain ⟨p5, hp5⟩ : ∃ p, p = w5.heap.size := ⟨_, rfl⟩
      rw [← hp5] at P5 ⊢
      generalize w5.alloc (.cells #[.int .i64 0, .int .i64 0] 51) = w6 at R5 Q3 P5 ⊢
      clear hp5
      have T6 := Lib.hid (HS.out.2.keep (B' := w6.heap.size) R5.out.blw.size fun p hp => R5.out.blw.cell hp)
      have cx := blk_cell R5.out.x
      have zx := lt_of_block R5.out.x
      go_wp2_with fail
      refine (HR.out _ T6.out).mono ?_
      rintro e w7 ⟨rfl, hb7⟩
      have RT := Lib.hid (R5.out.below hb7)
      clear hb7 cx zx R5 Q3 P5 T6 HB HSh HR
      go_upto_region 13 with fail
      have ca := blk_cell RT.out.a
      have za := lt_of_block RT.out.a
      refine wp_region_ext (by kernel_rfl) (by kernel_rfl) ?_
      repeat (go_big_quiet_step (fail))
      refine wpQuiet_nil ?_
      intro wU hU
      have RU := Lib.hid (RT.out.below (below_of_ext hU))
      clear hU ca za RT
      have hmx : -1 ≤ max a (-1) := by omega
      have hmx2 : max a (-1) ≤ 9223372036854775807 := by have := ha.2; omega
      have HB1 := Lib.hid (fun W h => HBt.out W (-1) (max a (-1)) h)
      have e1 : bothV (betw l r (-1) (max a (-1))) = .tuple #[.agg #[.int .i64 (lowOf l r (max a (-1))), .int .i64 (highOf l r (max a (-1)))], .int .i64 0] := by
        rw [betw_yes (by omega), betw_low HRN.out, betw_high HRN.out]
      rw [e1] at HB1
      have HL1 := Lib.hid (fun W h => HLo.out W (max a (-1)) h)
      have HH1 := Lib.hid (fun W h => HHi.out W (max a (-1)) h)
      generalize lowOf l r (max a (-1)) = lo1 at HB1 HL1
      generalize highOf l r (max a (-1)) = hi1 at HB1 HH1
      clear e1
      go_wp2_with fail
      refine (HB1.out _ RU.out.d).mono ?_
      rintro e wV ⟨rfl, hbV⟩
      have RV := Lib.hid ((RU.out.below hbV).alloc (.cells #[.int .i64 lo1, .int .i64 hi1] 51))
      have PV := Lib.hid (bothAt.new wV lo1 hi1)
      clear hbV RU
      go_upto_region 15 with fail
      obtain ⟨pv, hpv⟩ : ∃ p, p = wV.heap.size := ⟨_, rfl⟩
      rw [← hpv] at PV ⊢
      generalize wV.alloc (.cells #[.int .i64 lo1, .int .i64 hi1] 51) = wX at RV PV ⊢
      clear hpv
      have cv := blk_cell PV.out
      have zv := lt_of_block PV.out
      refine wp_region_ext (by kernel_rfl) (by kernel_rfl) ?_
      repeat (go_big_quiet_step (first
        | (go_at_call 33; exact quiet_ext (HL1.out _ (RV.out.d.below (ext_below _ _))))
        | (go_at_call 34; exact quiet_ext (HH1.out _ (RV.out.d.below (ext_below _ _))))))
      refine wpQuiet_nil ?_
      intro wY hY
      have RY := Lib.hid (RV.out.below (below_of_ext hY))
      clear hY cv zv PV RV HL1 HH1 HB1 hmx hmx2
      have cx := blk_cell RY.out.x
      have zx := lt_of_block RY.out.x
      by_cases hab : 0 ≤ a ∧ a ≤ b ∧ b < 2 ^ l
      · have HO := Lib.hid (fun W => tiles_Of W l hl a b hab.1 hab.2.1 hab.2.2)
        have HB2 := Lib.hid (fun W h => HBt.out W a b h)
        have HT2 := of_tiles hl hab.1 (by omega : b ≤ 2 ^ l - 1)
        have len2 := ofTiles_len hl a b
        have HO2 := Lib.hid (fun W (A2 : Option Addr) (c2 : Nat) h hs => HOn.out W A2 c2 (ofTiles l a b) h hs (by omega))
        have e2 : bothV (onV l (ofTiles l a b) false r) = .tuple #[.agg #[.int .i64 (betwLow l r a b), .int .i64 (betwHigh l r a b)], .int .i64 0] := by
          rw [onV_yes (List.all_eq_true.2 HT2.node), refOn_self HT2 HRN.out, on_run hab.2.1 HT2 HRN.out]
        rw [betw_yes (by omega)] at HB2
        rw [e2] at HO2
        generalize betwLow l r a b = lo2 at HB2 HO2
        generalize betwHigh l r a b = hi2 at HB2 HO2
        clear e2 HT2 hab
        generalize ofTiles l a b = T2 at HO HO2 len2
        go_wp2_with fail
        refine (HO.out _).mono ?_
        rintro e wZ ⟨v2, rfl, ho2, hbZ⟩
        have RZ := Lib.hid (RY.out.below hbZ)
        obtain ⟨A2, c2, rfl, _⟩ := ho2.form
        have O2 := Lib.hid ho2
        clear ho2 hbZ cx zx RY
        go_wp2_with fail
        refine (HB2.out _ RZ.out.d).mono ?_
        rintro e wA ⟨rfl, hbA⟩
        have RA := Lib.hid ((RZ.out.below hbA).alloc (.cells #[.int .i64 lo2, .int .i64 hi2] 51))
        have PA := Lib.hid (bothAt.new wA lo2 hi2)
        have OA := Lib.hid ((O2.out.below (hbA.alloc hbA.size (.cells #[.int .i64 lo2, .int .i64 hi2] 51))))
        clear hbA RZ O2
        go_upto_region 21 with fail
        obtain ⟨pa, hpa⟩ : ∃ p, p = wA.heap.size := ⟨_, rfl⟩
        rw [← hpa] at PA ⊢
        generalize wA.alloc (.cells #[.int .i64 lo2, .int .i64 hi2] 51) = wB at RA PA OA ⊢
        clear hpa
        go_wp2_with fail
        refine (HO2.out _ _ _ RA.out.d OA.out.sl).mono ?_
        rintro e wC ⟨rfl, hbC⟩
        have RC := Lib.hid ((RA.out.below hbC).alloc (.cells #[.int .i64 lo2, .int .i64 hi2] 51))
        have PC := Lib.hid (PA.out.below (hbC.alloc hbC.size (.cells #[.int .i64 lo2, .int .i64 hi2] 51)))
        have PD := Lib.hid (bothAt.new wC lo2 hi2)
        clear hbC RA PA OA
        go_upto_region 22 with fail
        obtain ⟨pc, hpc⟩ : ∃ p, p = wC.heap.size := ⟨_, rfl⟩
        rw [← hpc] at PD ⊢
        generalize wC.alloc (.cells #[.int .i64 lo2, .int .i64 hi2] 51) = wD at RC PC PD ⊢
        clear hpc
        have c1 := blk_cell PC.out
        have z1 := lt_of_block PC.out
        have c2 := blk_cell PD.out
        have z2 := lt_of_block PD.out
        go_wp2_with fail
        refine (alive18 _).mono ?_
        rintro e wE ⟨rfl, hbE⟩
        have RE := Lib.hid (RC.out.below hbE)
        go_wp2_with fail
        go_ret
        exact ⟨rfl, RE.out.blw⟩
      · have HO := Lib.hid (fun W => tiles_Of_no W l hl a b hab)
        go_wp2_with fail
        refine (HO.out _).mono ?_
        rintro e wZ ⟨rfl, hbZ⟩
        have RZ := Lib.hid (RY.out.below hbZ)
        clear hbZ
        go_wp2_with fail
        refine (alive18 _).mono ?_
        rintro e wA ⟨rfl, hbA⟩
        have RA := Lib.hid (RZ.out.below hbA)
        go_wp2_with fail
        go_ret
        exact ⟨rfl, RA.out.blw⟩
    · have hids : ∀ y ∈ ids, isNode l y = true := List.all_eq_true.1 hall
      rw [onV_yes hall] at HB HSh
      have hsum := refOn_sum (ids := ids) hids HRN.out
      have HR := Lib.hid (fun (W : World) hs => tiles_Rest W l hl Ai capi ids hs (by omega) hids)
      have HOff : Hid (∀ (T : List Int), Tiles l (fun v => (0 ≤ v ∧ v ≤ 2 ^ l - 1) ∧ ¬ held l ids v) T → bothV (onV l T false r) = .tuple #[.agg #[.int .i64 (refOn l ids true r).1, .int .i64 (refOn l ids true r).2], .int .i64 0]) :=
        Lib.hid fun T hT => by rw [onV_yes (List.all_eq_true.2 hT.node), refOn_self hT HRN.out, ref_off hids hT HRN.out]
      generalize (refOn l ids false r).1 = n1 at HB hsum
      generalize (refOn l ids false r).2 = n2 at HB hsum
      generalize (refOn l ids true r).1 = f1 at HSh hsum HOff
      generalize (refOn l ids true r).2 = f2 at HSh hsum HOff
      have hNat := HFit.out.sum
      have hNat0 := sumR_nonneg HFit.out.roll
      have wN : wrap64 (sumR r) = sumR r := by unfold wrap64; omega
      have s1 := hsum.1
      have s2 := hsum.2
      go_wp2_with fail
      refine (HB.out _ R2.out.d T2.out).mono ?_
      rintro e w3 ⟨rfl, hb3⟩
      have R3 := Lib.hid ((R2.out.below hb3).alloc (.cells #[.int .i64 n1, .int .i64 n2] 51))
      have P3 := Lib.hid (bothAt.new w3 n1 n2)
      clear hb3 T2 R2
      go_upto_region 5 with fail
      obtain ⟨p3, hp3⟩ : ∃ p, p = w3.heap.size := ⟨_, rfl⟩
      rw [← hp3] at P3 ⊢
      generalize w3.alloc (.cells #[.int .i64 n1, .int .i64 n2] 51) = w4 at R3 P3 ⊢
      clear hp3
      have T4 := Lib.hid (HS.out.2.keep (B' := w4.heap.size) R3.out.blw.size fun p hp => R3.out.blw.cell hp)
      go_wp2_with fail
      refine (HSh.out _ R3.out.d T4.out).mono ?_
      rintro e w5 ⟨rfl, hb5⟩
      have R5 := Lib.hid ((R3.out.below hb5).alloc (.cells #[.int .i64 f1, .int .i64 f2] 51))
      have Q3 := Lib.hid (P3.out.below (hb5.alloc hb5.size (.cells #[.int .i64 f1, .int .i64 f2] 51)))
      have P5 := Lib.hid (bothAt.new w5 f1 f2)
      clear hb5 T4 R3 P3
      go_upto_region 6 with fail
      obtain ⟨p5, hp5⟩ : ∃ p, p = w5.heap.size := ⟨_, rfl⟩
      rw [← hp5] at P5 ⊢
      generalize w5.alloc (.cells #[.int .i64 f1, .int .i64 f2] 51) = w6 at R5 Q3 P5 ⊢
      clear hp5
      have T6 := Lib.hid (HS.out.2.keep (B' := w6.heap.size) R5.out.blw.size fun p hp => R5.out.blw.cell hp)
      have cx := blk_cell R5.out.x
      have zx := lt_of_block R5.out.x
      go_wp2_with fail
      refine (HR.out _ T6.out).mono ?_
      rintro e w7 ⟨v7, T, rfl, ho7, hT, hTl, hb7⟩
      have R7 := Lib.hid (R5.out.below hb7)
      have P7 := Lib.hid (Q3.out.below hb7)
      have Q7 := Lib.hid (P5.out.below hb7)
      obtain ⟨A7, c7, rfl, _⟩ := ho7.form
      have O7 := Lib.hid ho7.sl
      have HO7 := Lib.hid (fun W hs h => HOn.out W A7 c7 T h hs (by omega))
      rw [HOff.out T hT] at HO7
      clear ho7 hb7 cx zx R5 Q3 P5 T6 HB HSh HR HOff hT
      go_upto_region 10 with fail
      go_wp2_with fail
      refine (HO7.out _ O7.out R7.out.d).mono ?_
      rintro e w8 ⟨rfl, hb8⟩
      have R8 := Lib.hid ((R7.out.below hb8).alloc (.cells #[.int .i64 f1, .int .i64 f2] 51))
      have P8 := Lib.hid (P7.out.below (hb8.alloc hb8.size (.cells #[.int .i64 f1, .int .i64 f2] 51)))
      have Q8 := Lib.hid (Q7.out.below (hb8.alloc hb8.size (.cells #[.int .i64 f1, .int .i64 f2] 51)))
      have M8 := Lib.hid (bothAt.new w8 f1 f2)
      clear hb8 R7 P7 Q7 O7 HO7
      go_upto_region 11 with fail
      obtain ⟨p8, hp8⟩ : ∃ p, p = w8.heap.size := ⟨_, rfl⟩
      rw [← hp8] at M8 ⊢
      generalize w8.alloc (.cells #[.int .i64 f1, .int .i64 f2] 51) = w9 at R8 P8 Q8 M8 ⊢
      clear hp8
      have c3 := blk_cell P8.out
      have z3 := lt_of_block P8.out
      have c5 := blk_cell Q8.out
      have z5 := lt_of_block Q8.out
      have c8 := blk_cell M8.out
      have z8 := lt_of_block M8.out
      refine wp_region_ext (by kernel_rfl) (by kernel_rfl) ?_
      repeat (go_big_quiet_step ((go_at_call 31; exact quiet_ext (HN.out _ (R8.out.d.below (ext_below _ _))))))
      refine wpQuiet_nil ?_
      intro wT hT9
      have RT := Lib.hid (R8.out.below (below_of_ext hT9))
      clear hT9 c3 z3 c5 z5 c8 z8 R8 P8 Q8 M8
      go_upto_region 13 with fail
      have ca := blk_cell RT.out.a
      have za := lt_of_block RT.out.a
      refine wp_region_ext (by kernel_rfl) (by kernel_rfl) ?_
      repeat (go_big_quiet_step (fail))
      refine wpQuiet_nil ?_
      intro wU hU
      have RU := Lib.hid (RT.out.below (below_of_ext hU))
      clear hU ca za RT
      have hmx : -1 ≤ max a (-1) := by omega
      have hmx2 : max a (-1) ≤ 9223372036854775807 := by have := ha.2; omega
      have HB1 := Lib.hid (fun W h => HBt.out W (-1) (max a (-1)) h)
      have e1 : bothV (betw l r (-1) (max a (-1))) = .tuple #[.agg #[.int .i64 (lowOf l r (max a (-1))), .int .i64 (highOf l r (max a (-1)))], .int .i64 0] := by
        rw [betw_yes (by omega), betw_low HRN.out, betw_high HRN.out]
      rw [e1] at HB1
      have HL1 := Lib.hid (fun W h => HLo.out W (max a (-1)) h)
      have HH1 := Lib.hid (fun W h => HHi.out W (max a (-1)) h)
      generalize lowOf l r (max a (-1)) = lo1 at HB1 HL1
      generalize highOf l r (max a (-1)) = hi1 at HB1 HH1
      clear e1
      go_wp2_with fail
      refine (HB1.out _ RU.out.d).mono ?_
      rintro e wV ⟨rfl, hbV⟩
      have RV := Lib.hid ((RU.out.below hbV).alloc (.cells #[.int .i64 lo1, .int .i64 hi1] 51))
      have PV := Lib.hid (bothAt.new wV lo1 hi1)
      clear hbV RU
      go_upto_region 15 with fail
      obtain ⟨pv, hpv⟩ : ∃ p, p = wV.heap.size := ⟨_, rfl⟩
      rw [← hpv] at PV ⊢
      generalize wV.alloc (.cells #[.int .i64 lo1, .int .i64 hi1] 51) = wX at RV PV ⊢
      clear hpv
      have cv := blk_cell PV.out
      have zv := lt_of_block PV.out
      refine wp_region_ext (by kernel_rfl) (by kernel_rfl) ?_
      repeat (go_big_quiet_step (first
        | (go_at_call 33; exact quiet_ext (HL1.out _ (RV.out.d.below (ext_below _ _))))
        | (go_at_call 34; exact quiet_ext (HH1.out _ (RV.out.d.below (ext_below _ _))))))
      refine wpQuiet_nil ?_
      intro wY hY
      have RY := Lib.hid (RV.out.below (below_of_ext hY))
      clear hY cv zv PV RV HL1 HH1 HB1 hmx hmx2
      have cx := blk_cell RY.out.x
      have zx := lt_of_block RY.out.x
      by_cases hab : 0 ≤ a ∧ a ≤ b ∧ b < 2 ^ l
      · have HO := Lib.hid (fun W => tiles_Of W l hl a b hab.1 hab.2.1 hab.2.2)
        have HB2 := Lib.hid (fun W h => HBt.out W a b h)
        have HT2 := of_tiles hl hab.1 (by omega : b ≤ 2 ^ l - 1)
        have len2 := ofTiles_len hl a b
        have HO2 := Lib.hid (fun W (A2 : Option Addr) (c2 : Nat) h hs => HOn.out W A2 c2 (ofTiles l a b) h hs (by omega))
        have e2 : bothV (onV l (ofTiles l a b) false r) = .tuple #[.agg #[.int .i64 (betwLow l r a b), .int .i64 (betwHigh l r a b)], .int .i64 0] := by
          rw [onV_yes (List.all_eq_true.2 HT2.node), refOn_self HT2 HRN.out, on_run hab.2.1 HT2 HRN.out]
        rw [betw_yes (by omega)] at HB2
        rw [e2] at HO2
        generalize betwLow l r a b = lo2 at HB2 HO2
        generalize betwHigh l r a b = hi2 at HB2 HO2
        clear e2 HT2 hab
        generalize ofTiles l a b = T2 at HO HO2 len2
        go_wp2_with fail
        refine (HO.out _).mono ?_
        rintro e wZ ⟨v2, rfl, ho2, hbZ⟩
        have RZ := Lib.hid (RY.out.below hbZ)
        obtain ⟨A2, c2, rfl, _⟩ := ho2.form
        have O2 := Lib.hid ho2
        clear ho2 hbZ cx zx RY
        go_wp2_with fail
        refine (HB2.out _ RZ.out.d).mono ?_
        rintro e wA ⟨rfl, hbA⟩
        have RA := Lib.hid ((RZ.out.below hbA).alloc (.cells #[.int .i64 lo2, .int .i64 hi2] 51))
        have PA := Lib.hid (bothAt.new wA lo2 hi2)
        have OA := Lib.hid ((O2.out.below (hbA.alloc hbA.size (.cells #[.int .i64 lo2, .int .i64 hi2] 51))))
        clear hbA RZ O2
        go_upto_region 21 with fail
        obtain ⟨pa, hpa⟩ : ∃ p, p = wA.heap.size := ⟨_, rfl⟩
        rw [← hpa] at PA ⊢
        generalize wA.alloc (.cells #[.int .i64 lo2, .int .i64 hi2] 51) = wB at RA PA OA ⊢
        clear hpa
        go_wp2_with fail
        refine (HO2.out _ _ _ RA.out.d OA.out.sl).mono ?_
        rintro e wC ⟨rfl, hbC⟩
        have RC := Lib.hid ((RA.out.below hbC).alloc (.cells #[.int .i64 lo2, .int .i64 hi2] 51))
        have PC := Lib.hid (PA.out.below (hbC.alloc hbC.size (.cells #[.int .i64 lo2, .int .i64 hi2] 51)))
        have PD := Lib.hid (bothAt.new wC lo2 hi2)
        clear hbC RA PA OA
        go_upto_region 22 with fail
        obtain ⟨pc, hpc⟩ : ∃ p, p = wC.heap.size := ⟨_, rfl⟩
        rw [← hpc] at PD ⊢
        generalize wC.alloc (.cells #[.int .i64 lo2, .int .i64 hi2] 51) = wD at RC PC PD ⊢
        clear hpc
        have c1 := blk_cell PC.out
        have z1 := lt_of_block PC.out
        have c2 := blk_cell PD.out
        have z2 := lt_of_block PD.out
        go_wp2_with fail
        refine (alive18 _).mono ?_
        rintro e wE ⟨rfl, hbE⟩
        have RE := Lib.hid (RC.out.below hbE)
        go_wp2_with fail
        go_ret
        exact ⟨rfl, RE.out.blw⟩
      · have HO := Lib.hid (fun W => tiles_Of_no W l hl a b hab)
        go_wp2_with fail
        refine (HO.out _).mono ?_
        rintro e wZ ⟨rfl, hbZ⟩
        have RZ := Lib.hid (RY.out.below hbZ)
        clear hbZ
        go_wp2_with fail
        refine (alive18 _).mono ?_
        rintro e wA ⟨rfl, hbA⟩
        have RA := Lib.hid (RZ.out.below hbA)
        go_wp2_with fail
        go_ret
        exact ⟨rfl, RA.out.blw⟩
  · have i30 : (30 : Int) < (ids.length : Int) := by omega
    go_wp2_with fail
    refine (alive18 _).mono ?_
    rintro e wA ⟨rfl, hbA⟩
    have RA := Lib.hid ((R1.out.alloc (.cells #[.int .i64 k, .int .i64 l, .slice A r.length cap] 57)).below hbA)
    go_wp2_with fail
    go_ret
    exact ⟨rfl, RA.out.blw⟩
theorem law_ReachRest (l k K : Int) (r : List Nd) (A : Option Addr) (cap : Nat) (ids : List Int) (Ai : Option Addr) (capi : Nat) (a b : Int) (W : World) (hS : Sl W W.heap.size encN A r) (hI : ints r) (_ : i64 l) (_ : i64 k) (_ : i64 K) (hm : r.length ≤ maxLen) (hSi : Sl W W.heap.size encZ Ai ids) (hIi : ∀ x ∈ ids, i64 x) (hmi : ids.length ≤ maxLen) (ha : i64 a) (hb : i64 b) :
    Calls Tryz.prog 7 #[loadedV l k K A r.length cap, .slice Ai ids.length capi, .agg #[.int .i64 a, .int .i64 b]] W fun e W' => e = .returned (.bool true) ∧ Below W.heap.size W W' := by
  by_cases h : goodL l k K r
  · obtain ⟨n, m, rfl, rfl⟩ := goodL_nat h.2.2
    exact law_ReachRest_yes n m k r A cap ids Ai capi a b W h hS hI hSi hIi hmi ha hb
  · exact law_ReachRest_no l k K r A cap ids Ai capi a b W h hS hI hm
end Go.Proofs.YtmadmlkmdnjmaaaGreat
