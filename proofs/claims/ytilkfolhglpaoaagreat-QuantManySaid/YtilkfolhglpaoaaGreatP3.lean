/-
  Texts of this proof, one behind the other: Made2, Ref02, RefLoad, Open, Load16, TellsA, Digits.
-/
import Derived.Deep.DeepCutAuto
import Derived.Test.YtilkfolhglpaoaaGreatP1
import Derived.Test.YtilkfolhglpaoaaGreatP2
/- Package rank: made: the walk. -/
set_option linter.unusedSimpArgs false namespace Go.Proofs.YtilkfolhglpaoaaGreat
open Go.ChangeShapes Go.WideShapes Go.ChangeAt Go.RowKit
set_option linter.unusedVariables false
set_option maxRecDepth 100000

set_option maxHeartbeats 4000000 in
theorem rank_made (w : World) (base : Nat) (v : Value) (l : List Nd) (ho : Own w base 164 encN v l) (hl : ∀ x ∈ l, 0 ≤ x.1 ∧ x.1 ≤ 281474976710655) (h1 : ∀ x ∈ l, 1 ≤ x.2) (hs : sumR l ≤ 72057594037927935) (hm : l.length ≤ 67108864) :
    Calls Tryz.prog 144 #[v] w (MadePost v l w) := by
  have hno := ho.not_at w.heap.size (Nat.le_refl _)
  have HO := Lib.hid (ho.alloc (.cells #[.slice none 0 0, .slice none 0 0] 193))
  have HL := Lib.hid hl
  have H1 := Lib.hid h1
  clear ho hl h1
  go_enter Tryz.func144, Tryz.ntmps144
  go_wp2_with fail
  refine (made_sort _ base v l HO.out HL.out hm).mono ?_
  rintro e w1 ⟨rfl, l', hp, hsrt, ho1, hT⟩
  have HLen := Lib.hid hp.length_eq
  have hlm : l'.length ≤ 67108864 := by have := HLen.out; omega
  have HTu := Lib.hid hT
  have s1 := hT.size
  have HP := Lib.hid hp
  have HSo := Lib.hid hsrt
  have HO1 := Lib.hid ho1
  have z0 : w.heap.size < w1.heap.size := by simp at s1; omega
  have N0 := Lib.hid (hT.keep (b := w.heap.size) (heap_alloc_new w _) hno)
  clear hp hsrt ho1 hT
  obtain ⟨A, cap, hvf, _⟩ := HO1.out.form
  have HV := Lib.hid hvf
  subst hvf
  go_wp2_with fail
  have S0 : Hid (TwoSt w1 w.heap.size (w1.heap.size + 1) w.heap.size w1.heap.size (.slice A l'.length cap) l' (.slice none 0 0) (.slice none 0 0) (w1.alloc (.cells #[.slice none 0 0, .slice none 0 0] 193)) (.slice none 0 0) [] (.slice none 0 0) []) :=
    Lib.hid ⟨(HO1.out.base_le (Nat.zero_le _)).alloc _, heap_alloc_new w1 _, (Below.heap_alloc w1 _ w.heap.size z0).trans N0.out, Own.nil _ _ _ _, Own.nil _ _ _ _, (fun g h => by cases h), (Below.refl _ _).alloc (by omega) _, (by simp), z0, (by omega), Nat.le_refl _⟩
  go_loopw [4, 12] (fun n i wr => ∃ (q k1 k2 : Nat) (t : List Nd) (A1 A2 : Option Addr) (c1 c2 : Nat), q ≤ l'.length ∧ i = .int .i64 q ∧ n = .int .i64 (sumR (l'.take q)) ∧ k1 = t.length ∧ k2 = t.length ∧
      TwoSt w1 w.heap.size (w1.heap.size + 1) w.heap.size w1.heap.size (.slice A l'.length cap) l' (.slice A1 k1 c1) (.slice A2 k2 c2) wr (.slice A1 k1 c1) (t.map (·.1)) (.slice A2 k2 c2) (t.map (·.2)) ∧ Tab (l'.take q) t ∧ t.length ≤ q) (fun _ i _ => l'.length - (intOf i).toNat)
  case atStart => exact ⟨0, 0, 0, [], none, none, 0, 0, Nat.zero_le _, rfl, rfl, rfl, rfl, S0.out, Tab.nil, Nat.le_refl _⟩
  case round =>
    obtain ⟨q, k1, k2, t, A1, A2, c1, c2, hq, rfl, rfl, hk1, hk2, hst, htab, htq⟩ := hrel
    have hz := hst.size
    have hzs : w1.heap.size < wr.heap.size := by omega
    have cs := blk_cell hst.sums
    have cf := blk_frozen hst.sums
    have KST := Lib.hid hst
    have KT := Lib.hid htab
    by_cases hlt : q < l'.length
    · obtain ⟨c, off, rfl, hc, hcl⟩ := hst.lst.sl.at_ hlt
      have d0 := hcl 0 (.int .i64 l'[q].1) rfl
      have d1 := hcl 1 (.int .i64 l'[q].2) rfl
      simp only [Nat.add_zero] at d0
      have hx := HL.out _ (HP.out.mem_iff.1 (List.getElem_mem hlt))
      have hx1 := H1.out _ (HP.out.mem_iff.1 (List.getElem_mem hlt))
      have e1 := sumR_take_succ hlt
      have hle : ∀ z ∈ l'.take q, z.1 ≤ l'[q].1 := fun z hz => by
        obtain ⟨i, hi, rfl⟩ := List.getElem_of_mem hz
        have hi' : i < q := by rw [List.length_take] at hi; omega
        rw [List.getElem_take]
        exact List.pairwise_iff_getElem.1 HSo.out i q (by omega) hlt hi'
      have hts := List.take_succ_eq_append_getElem hlt
      have hpos : ∀ z ∈ l', 1 ≤ z.2 := fun z hz => H1.out z (HP.out.mem_iff.1 hz)
      have hsb := sum_part hpos hlt
      rw [sumR_perm HP.out] at hsb
      obtain ⟨y, hye⟩ : ∃ y, y = l'[q] := ⟨_, rfl⟩
      rw [← hye] at d0 d1 hx hx1 e1 hle hts hsb
      have HTS := Lib.hid hts
      have HLE := Lib.hid hle
      have HE1 := Lib.hid e1
      have hlq : q ≤ 67108864 := by omega
      have HK1 := Lib.hid hk1
      have HK2 := Lib.hid hk2
      have kb1 : k1 ≤ 67108864 := by omega
      have kb2 : k2 ≤ 67108864 := by omega
      obtain ⟨n, hn⟩ : ∃ n, n = sumR (l'.take q) := ⟨_, rfl⟩
      rw [← hn] at hsb HE1 ⊢
      have HN := Lib.hid hn
      have i1 := hst.own1.len_le
      have i2 := hst.own2.len_le
      simp only [List.length_map] at i1 i2
      have ic1 : k1 ≤ c1 := by omega
      have ic2 : k2 ≤ c2 := by omega
      have kk : Hid (k2 = k1) := Lib.hid (by omega)
      clear hst htab hcl e1 hle hts hye hpos hk1 hk2 hn hq i1 i2
      rcases List.eq_nil_or_concat t with ht | ⟨t', a, ht⟩
      · have g1 : decide (0 < k1) = false := by have := HK1.out; rw [ht] at this; simp at this; simp; omega
        have hne : ∀ z ∈ t, z.1 ≠ y.1 := by rw [ht]; simp
        have HNE := Lib.hid hne
        clear hne ht
        go_wp2_with fail
        refine wp_region_ext (by kernel_rfl) (by kernel_rfl) ?_
        repeat (go_big_quiet_step (fail))
        refine wpQuiet_nil ?_
        intro w2 hb2
        replace hb2 := below_of_ext hb2
        have c20 := (hb2.cell (p := ⟨wr.heap.size, 0, none⟩) (by simp)).trans (by go_simp : _ = some (Value.int .i64 y.1))
        have z20 : wr.heap.size < w2.heap.size := by have := hb2.size; simp at this; omega
        have s2 := (KST.out.alloc (.cells #[.int .i64 y.1, .int .i64 y.2] 164)).below hb2
        have cs2 := blk_cell s2.sums
        have cf2 := blk_frozen s2.sums
        have zs2 : w1.heap.size < w2.heap.size := by omega
        have ow1 : ∀ g, (Value.slice A1 k1 c1).ownBlock = some g → g < wr.heap.size := fun g hg => (KST.out.own1.lt g hg).2
        have ow2 : ∀ g, (Value.slice A2 k2 c2).ownBlock = some g → g < wr.heap.size := fun g hg => (KST.out.own2.lt g hg).2
        generalize Value.slice A1 k1 c1 = V1 at s2 cs2 ow1 ⊢
        generalize Value.slice A2 k2 c2 = V2 at s2 cs2 ow2 ⊢
        have W1 := Lib.hid ow1
        have W2 := Lib.hid ow2
        have S2 := Lib.hid s2
        clear s2 hb2 cs cf g1 ow1 ow2
        go_wp2_with fail
        refine wp_region_noPanic ?_
        refine wp_region_N (fun w' => w'.cell? ⟨w1.heap.size, 0, none⟩ = some V1 ∧ w'.cell? ⟨w1.heap.size, 1, none⟩ = some V2 ∧ w'.cell? ⟨wr.heap.size, 0, none⟩ = some (.int .i64 y.1)) [12, 14] (by kernel_rfl) ⟨by simp [*, go_sem], by simp [*, go_sem], by simp [*, go_sem]⟩ (fun hHeld => ?_)
        refine wpAnyN_pure (i := 0) (v := .pointer (some ⟨w1.heap.size, 0, none⟩)) rfl (by kernel_rfl) (by kernel_rfl) (by kernel_rfl) (fun _ _ _ h => h) (Or.inl ⟨by rfl, fun W _ => by go_simp⟩) ?_
        try simp only [Act.put, List.setIfInBounds_toArray, List.set_cons_zero, List.set_cons_succ]
        refine wpAnyN_take (i := 1) (v := V1) rfl (by kernel_rfl) (by kernel_rfl) (by kernel_rfl) (by kernel_rfl) (fun _ _ _ h => h) (Or.inl ⟨by rfl, fun W hW => by obtain ⟨q1, q2, q3⟩ := hW; go_simp⟩) hHeld ?_
        try simp only [Act.put, List.setIfInBounds_toArray, List.set_cons_zero, List.set_cons_succ]
        refine wpAnyN_pure (i := 2) (v := .pointer (some ⟨wr.heap.size, 0, none⟩)) rfl (by kernel_rfl) (by kernel_rfl) (by kernel_rfl) (fun _ _ _ h => h) (Or.inl ⟨by rfl, fun W _ => by go_simp⟩) ?_
        try simp only [Act.put, List.setIfInBounds_toArray, List.set_cons_zero, List.set_cons_succ]
        refine wpAnyN_take (i := 3) (v := .int .i64 y.1) rfl (by kernel_rfl) (by kernel_rfl) (by kernel_rfl) (by kernel_rfl) (fun _ _ _ h => h) (Or.inl ⟨by rfl, fun W hW => by obtain ⟨q1, q2, q3⟩ := hW; go_simp⟩) hHeld ?_
        try simp only [Act.put, List.setIfInBounds_toArray, List.set_cons_zero, List.set_cons_succ]
        refine wpAnyN_pure (i := 6) (v := .pointer (some ⟨w1.heap.size, 1, none⟩)) rfl (by kernel_rfl) (by kernel_rfl) (by kernel_rfl) (fun _ _ _ h => h) (Or.inl ⟨by rfl, fun W _ => by go_simp⟩) ?_
        try simp only [Act.put, List.setIfInBounds_toArray, List.set_cons_zero, List.set_cons_succ]
        refine wpAnyN_take (i := 7) (v := V2) rfl (by kernel_rfl) (by kernel_rfl) (by kernel_rfl) (by kernel_rfl) (fun _ _ _ h => h) (Or.inl ⟨by rfl, fun W hW => by obtain ⟨q1, q2, q3⟩ := hW; go_simp⟩) hHeld ?_
        try simp only [Act.put, List.setIfInBounds_toArray, List.set_cons_zero, List.set_cons_succ]
        refine wpAnyN_pure (i := 8) (v := .int .i64 (n + y.2)) rfl (by kernel_rfl) (by kernel_rfl) (by kernel_rfl) (fun _ _ _ h => h) (Or.inl ⟨by rfl, fun W _ => by go_simp⟩) ?_
        try simp only [Act.put, List.setIfInBounds_toArray, List.set_cons_zero, List.set_cons_succ]
        clear hHeld
        refine wpAnyN_two (i := 4) (k := 9) (by kernel_rfl) rfl rfl (fun K hK => ?_) (fun K hK => ?_)
        · skip
          go_simp
          refine hK.out _ _ (fun _ _ => ?_) ?_
          · exact ⟨by simp [*, go_sem], by simp [*, go_sem], by simp [*, go_sem]⟩
          clear hK K
          try simp only [Act.put, List.setIfInBounds_toArray, List.set_cons_zero, List.set_cons_succ]
          refine wpAnyN_two (i := 5) (k := 9) (by kernel_rfl) rfl rfl (fun K hK => ?_) (fun K hK => ?_)
          · skip
            refine step_app (o := ⟨some 47, _, _, _, _, _⟩) tyZ (by rfl) _ _ (by rfl) encZ (w1.heap.size + 1) V1 (t.map (·.1)) (by rfl) (TwoSt.own1 (w := w1) (base := w.heap.size) (B := w1.heap.size + 1) (b0 := w.heap.size) (bs := w1.heap.size) (vl := (Value.slice (some ⟨c, off, none⟩) l'.length cap)) (ll := l') (V1 := V1) (V2 := V2) (U2 := V2) (L2 := (t.map (·.2))) (by (repeat (first | with_reducible exact S2.out | with_reducible refine TwoSt.alloc ?_ _ | with_reducible refine TwoSt.drew ?_)); done)) _ 1 [y.1] _ (by rfl) (sl_cell (by simp [*, go_sem]) (by first | omega | (simp; done) | (simp; omega))) (by first | omega | (simp; omega)) (by simp [maxLen]; omega) (by first | omega | (simp; omega)) ?_
            intro v4 w4 ho4 hg4 hl4 hb4 hn4
            obtain ⟨A4, k4, m4, rfl⟩ : ∃ A k m, v4 = .slice A m k := by obtain ⟨A, k, hv, _⟩ := ho4.form; exact ⟨A, k, _, hv⟩
            have P4 := TwoSt.app1 (w := w1) (base := w.heap.size) (B := w1.heap.size + 1) (b0 := w.heap.size) (bs := w1.heap.size) (vl := (Value.slice (some ⟨c, off, none⟩) l'.length cap)) (ll := l') (V1 := V1) (V2 := V2) (U2 := V2) (L2 := (t.map (·.2))) (U1 := V1) (L1 := (t.map (·.1))) (by (repeat (first | with_reducible exact S2.out | with_reducible refine TwoSt.alloc ?_ _ | with_reducible refine TwoSt.drew ?_)); done) hg4 ho4 hl4 hb4
            have r4 := hg4.size
            try simp only [World.size_alloc, World.drew] at r4
            have G4 := grown_new hg4 wr.heap.size (fun g hg => W1.out g hg)
            have x4 := blk_cell P4.sums
            have f4 := blk_frozen P4.sums
            have y4 : w4.cell? ⟨wr.heap.size, 0, none⟩ = some (.int .i64 y.1) := (G4 wr.heap.size 0 (Nat.le_refl _) (by first | omega | (simp; omega))).trans (by simp [*, go_sem])
            have z4 : w1.heap.size < w4.heap.size := P4.size
            have q4 : wr.heap.size < w4.heap.size := by have := hg4.size; (try simp at this); omega
            clear hn4 hb4 hl4 hg4 ho4
            refine hK.out _ _ (fun _ _ => ?_) ?_
            · exact ⟨by simp [*, go_sem], by simp [*, go_sem], by simp [*, go_sem]⟩
            clear hK K
            try simp only [Act.put, List.setIfInBounds_toArray, List.set_cons_zero, List.set_cons_succ]
            refine wpAnyN_pure (i := 11) (v := .pointer (some ⟨w1.heap.size, 0, none⟩)) rfl (by kernel_rfl) (by kernel_rfl) (by kernel_rfl) (fun _ _ _ h => h) (Or.inl ⟨by rfl, fun W _ => by go_simp⟩) ?_
            try simp only [Act.put, List.setIfInBounds_toArray, List.set_cons_zero, List.set_cons_succ]
            refine wpAnyN_one (i := 9) (by kernel_rfl) rfl (fun K hK => ?_)
            go_simp
            refine hK.out _ _ (fun _ _ => ?_) ?_
            · exact ⟨by simp [*, go_sem], by simp [*, go_sem], by simp [*, go_sem]⟩
            clear hK K
            try simp only [Act.put, List.setIfInBounds_toArray, List.set_cons_zero, List.set_cons_succ]
            refine wpAnyN_one (i := 10) (by kernel_rfl) rfl (fun K hK => ?_)
            refine step_app (o := ⟨some 52, _, _, _, _, _⟩) tyZ (by rfl) _ _ (by rfl) encZ (w1.heap.size + 1) V2 (t.map (·.2)) (by rfl) (TwoSt.own2 (w := w1) (base := w.heap.size) (B := w1.heap.size + 1) (b0 := w.heap.size) (bs := w1.heap.size) (vl := (Value.slice (some ⟨c, off, none⟩) l'.length cap)) (ll := l') (V1 := V1) (V2 := V2) (U1 := .slice A4 m4 k4) (L1 := (t.map (·.1)) ++ [y.1]) (by (repeat (first | with_reducible exact P4 | with_reducible refine TwoSt.alloc ?_ _ | with_reducible refine TwoSt.drew ?_)); done)) _ 1 [(n + y.2)] _ (by rfl) (sl_cell (by simp [*, go_sem]) (by first | omega | (simp; done) | (simp; omega))) (by first | omega | (simp; omega)) (by simp [maxLen]; omega) (by first | omega | (simp; omega)) ?_
            intro v5 w5 ho5 hg5 hl5 hb5 hn5
            obtain ⟨A5, k5, m5, rfl⟩ : ∃ A k m, v5 = .slice A m k := by obtain ⟨A, k, hv, _⟩ := ho5.form; exact ⟨A, k, _, hv⟩
            have P5 := TwoSt.app2 (w := w1) (base := w.heap.size) (B := w1.heap.size + 1) (b0 := w.heap.size) (bs := w1.heap.size) (vl := (Value.slice (some ⟨c, off, none⟩) l'.length cap)) (ll := l') (V1 := V1) (V2 := V2) (U1 := .slice A4 m4 k4) (L1 := (t.map (·.1)) ++ [y.1]) (U2 := V2) (L2 := (t.map (·.2))) (by (repeat (first | with_reducible exact P4 | with_reducible refine TwoSt.alloc ?_ _ | with_reducible refine TwoSt.drew ?_)); done) hg5 ho5 hl5 hb5
            have r5 := hg5.size
            try simp only [World.size_alloc, World.drew] at r5
            have G5 := grown_new hg5 wr.heap.size (fun g hg => W2.out g hg)
            have x5 := blk_cell P5.sums
            have f5 := blk_frozen P5.sums
            have y5 : w5.cell? ⟨wr.heap.size, 0, none⟩ = some (.int .i64 y.1) := (G5 wr.heap.size 0 (Nat.le_refl _) (by first | omega | (simp; omega))).trans (by simp [*, go_sem])
            have z5 : w1.heap.size < w5.heap.size := P5.size
            have q5 : wr.heap.size < w5.heap.size := by have := hg5.size; (try simp at this); omega
            clear hn5 hb5 hl5 hg5 ho5
            refine hK.out _ _ (fun _ _ => ?_) ?_
            · exact ⟨by simp [*, go_sem], by simp [*, go_sem], by simp [*, go_sem]⟩
            clear hK K
            try simp only [Act.put, List.setIfInBounds_toArray, List.set_cons_zero, List.set_cons_succ]
            refine wpAnyN_one (i := 12) (by kernel_rfl) rfl (fun K hK => ?_)
            go_simp
            refine hK.out _ _ (fun h _ => absurd (by decide) h) ?_
            clear hK K
            try simp only [Act.put, List.setIfInBounds_toArray, List.set_cons_zero, List.set_cons_succ]
            refine wpAnyN_pure (i := 13) (v := .pointer (some ⟨w1.heap.size, 1, none⟩)) rfl (by kernel_rfl) (by kernel_rfl) (by kernel_rfl) (fun _ _ _ h => h) (Or.inl ⟨by rfl, fun W _ => by go_simp⟩) ?_
            try simp only [Act.put, List.setIfInBounds_toArray, List.set_cons_zero, List.set_cons_succ]
            refine wpAnyN_one (i := 14) (by kernel_rfl) rfl (fun K hK => ?_)
            go_simp
            refine hK.out _ _ (fun h _ => absurd (by decide) h) ?_
            clear hK K
            try simp only [Act.put, List.setIfInBounds_toArray, List.set_cons_zero, List.set_cons_succ]
            refine wpAnyN_done (by kernel_rfl) ?_ _
            have E4 := P5.own1.len_le
            have E5 := P5.own2.len_le
            simp only [List.length_append, List.length_map, List.length_cons, List.length_nil] at E4 E5
            have F4 := Lib.hid E4.1
            have F5 := Lib.hid E5.1
            have PF := Lib.hid P5.st
            clear E4 E5 P4 P5 G4 G5 x4 x5 f4 f5 y4 y5 z4 z5 q4 q5 r4 r5 c20 z20 cs2 cf2
            refine NoPanic.normal ?_
            go_wp2_with fail
            go_roundw
            case rel => exact ⟨q + 1, m4, m5, t ++ [(y.1, n + y.2)], A4, A5, k4, k5, by omega, by go_num, by rw [HE1.out], by have := F4.out; simp; omega, by have := F5.out; simp; omega, by simpa using PF.out, by rw [HTS.out]; have := KT.out.more HLE.out HNE.out; rwa [← HN.out] at this, by simp; omega⟩
            case measure => simp [intOf]; omega
          · skip
            go_simp
            refine hK.out _ _ (fun _ _ => ?_) ?_
            · exact ⟨by simp [*, go_sem], by simp [*, go_sem], by simp [*, go_sem]⟩
            clear hK K
            try simp only [Act.put, List.setIfInBounds_toArray, List.set_cons_zero, List.set_cons_succ]
            refine wpAnyN_one (i := 5) (by kernel_rfl) rfl (fun K hK => ?_)
            refine step_app (o := ⟨some 47, _, _, _, _, _⟩) tyZ (by rfl) _ _ (by rfl) encZ (w1.heap.size + 1) V1 (t.map (·.1)) (by rfl) (TwoSt.own1 (w := w1) (base := w.heap.size) (B := w1.heap.size + 1) (b0 := w.heap.size) (bs := w1.heap.size) (vl := (Value.slice (some ⟨c, off, none⟩) l'.length cap)) (ll := l') (V1 := V1) (V2 := V2) (U2 := V2) (L2 := (t.map (·.2))) (by (repeat (first | with_reducible exact S2.out | with_reducible refine TwoSt.alloc ?_ _ | with_reducible refine TwoSt.drew ?_)); done)) _ 1 [y.1] _ (by rfl) (sl_cell (by simp [*, go_sem]) (by first | omega | (simp; done) | (simp; omega))) (by first | omega | (simp; omega)) (by simp [maxLen]; omega) (by first | omega | (simp; omega)) ?_
            intro v4 w4 ho4 hg4 hl4 hb4 hn4
            obtain ⟨A4, k4, m4, rfl⟩ : ∃ A k m, v4 = .slice A m k := by obtain ⟨A, k, hv, _⟩ := ho4.form; exact ⟨A, k, _, hv⟩
            have P4 := TwoSt.app1 (w := w1) (base := w.heap.size) (B := w1.heap.size + 1) (b0 := w.heap.size) (bs := w1.heap.size) (vl := (Value.slice (some ⟨c, off, none⟩) l'.length cap)) (ll := l') (V1 := V1) (V2 := V2) (U2 := V2) (L2 := (t.map (·.2))) (U1 := V1) (L1 := (t.map (·.1))) (by (repeat (first | with_reducible exact S2.out | with_reducible refine TwoSt.alloc ?_ _ | with_reducible refine TwoSt.drew ?_)); done) hg4 ho4 hl4 hb4
            have r4 := hg4.size
            try simp only [World.size_alloc, World.drew] at r4
            have G4 := grown_new hg4 wr.heap.size (fun g hg => W1.out g hg)
            have x4 := blk_cell P4.sums
            have f4 := blk_frozen P4.sums
            have y4 : w4.cell? ⟨wr.heap.size, 0, none⟩ = some (.int .i64 y.1) := (G4 wr.heap.size 0 (Nat.le_refl _) (by first | omega | (simp; omega))).trans (by simp [*, go_sem])
            have b4 : w4.cell? ⟨w2.heap.size + 1, 0, none⟩ = some (.int .i64 (n + y.2)) := (G4 (w2.heap.size + 1) 0 (by omega) (by first | omega | (simp; done) | (simp; omega))).trans (by simp [*, go_sem])
            have z4 : w1.heap.size < w4.heap.size := P4.size
            have q4 : wr.heap.size < w4.heap.size := by have := hg4.size; (try simp at this); omega
            clear hn4 hb4 hl4 hg4 ho4
            refine hK.out _ _ (fun _ _ => ?_) ?_
            · exact ⟨by simp [*, go_sem], by simp [*, go_sem], by simp [*, go_sem]⟩
            clear hK K
            try simp only [Act.put, List.setIfInBounds_toArray, List.set_cons_zero, List.set_cons_succ]
            refine wpAnyN_pure (i := 11) (v := .pointer (some ⟨w1.heap.size, 0, none⟩)) rfl (by kernel_rfl) (by kernel_rfl) (by kernel_rfl) (fun _ _ _ h => h) (Or.inl ⟨by rfl, fun W _ => by go_simp⟩) ?_
            try simp only [Act.put, List.setIfInBounds_toArray, List.set_cons_zero, List.set_cons_succ]
            refine wpAnyN_one (i := 10) (by kernel_rfl) rfl (fun K hK => ?_)
            refine step_app (o := ⟨some 52, _, _, _, _, _⟩) tyZ (by rfl) _ _ (by rfl) encZ (w1.heap.size + 1) V2 (t.map (·.2)) (by rfl) (TwoSt.own2 (w := w1) (base := w.heap.size) (B := w1.heap.size + 1) (b0 := w.heap.size) (bs := w1.heap.size) (vl := (Value.slice (some ⟨c, off, none⟩) l'.length cap)) (ll := l') (V1 := V1) (V2 := V2) (U1 := .slice A4 m4 k4) (L1 := (t.map (·.1)) ++ [y.1]) (by (repeat (first | with_reducible exact P4 | with_reducible refine TwoSt.alloc ?_ _ | with_reducible refine TwoSt.drew ?_)); done)) _ 1 [(n + y.2)] _ (by rfl) (sl_cell (by simp [*, go_sem]) (by first | omega | (simp; done) | (simp; omega))) (by first | omega | (simp; omega)) (by simp [maxLen]; omega) (by first | omega | (simp; omega)) ?_
            intro v5 w5 ho5 hg5 hl5 hb5 hn5
            obtain ⟨A5, k5, m5, rfl⟩ : ∃ A k m, v5 = .slice A m k := by obtain ⟨A, k, hv, _⟩ := ho5.form; exact ⟨A, k, _, hv⟩
            have P5 := TwoSt.app2 (w := w1) (base := w.heap.size) (B := w1.heap.size + 1) (b0 := w.heap.size) (bs := w1.heap.size) (vl := (Value.slice (some ⟨c, off, none⟩) l'.length cap)) (ll := l') (V1 := V1) (V2 := V2) (U1 := .slice A4 m4 k4) (L1 := (t.map (·.1)) ++ [y.1]) (U2 := V2) (L2 := (t.map (·.2))) (by (repeat (first | with_reducible exact P4 | with_reducible refine TwoSt.alloc ?_ _ | with_reducible refine TwoSt.drew ?_)); done) hg5 ho5 hl5 hb5
            have r5 := hg5.size
            try simp only [World.size_alloc, World.drew] at r5
            have G5 := grown_new hg5 wr.heap.size (fun g hg => W2.out g hg)
            have x5 := blk_cell P5.sums
            have f5 := blk_frozen P5.sums
            have y5 : w5.cell? ⟨wr.heap.size, 0, none⟩ = some (.int .i64 y.1) := (G5 wr.heap.size 0 (Nat.le_refl _) (by first | omega | (simp; omega))).trans (by simp [*, go_sem])
            have z5 : w1.heap.size < w5.heap.size := P5.size
            have q5 : wr.heap.size < w5.heap.size := by have := hg5.size; (try simp at this); omega
            clear hn5 hb5 hl5 hg5 ho5
            refine hK.out _ _ (fun _ _ => ?_) ?_
            · exact ⟨by simp [*, go_sem], by simp [*, go_sem], by simp [*, go_sem]⟩
            clear hK K
            try simp only [Act.put, List.setIfInBounds_toArray, List.set_cons_zero, List.set_cons_succ]
            refine wpAnyN_one (i := 12) (by kernel_rfl) rfl (fun K hK => ?_)
            go_simp
            refine hK.out _ _ (fun h _ => absurd (by decide) h) ?_
            clear hK K
            try simp only [Act.put, List.setIfInBounds_toArray, List.set_cons_zero, List.set_cons_succ]
            refine wpAnyN_pure (i := 13) (v := .pointer (some ⟨w1.heap.size, 1, none⟩)) rfl (by kernel_rfl) (by kernel_rfl) (by kernel_rfl) (fun _ _ _ h => h) (Or.inl ⟨by rfl, fun W _ => by go_simp⟩) ?_
            try simp only [Act.put, List.setIfInBounds_toArray, List.set_cons_zero, List.set_cons_succ]
            refine wpAnyN_one (i := 14) (by kernel_rfl) rfl (fun K hK => ?_)
            go_simp
            refine hK.out _ _ (fun h _ => absurd (by decide) h) ?_
            clear hK K
            try simp only [Act.put, List.setIfInBounds_toArray, List.set_cons_zero, List.set_cons_succ]
            refine wpAnyN_done (by kernel_rfl) ?_ _
            have E4 := P5.own1.len_le
            have E5 := P5.own2.len_le
            simp only [List.length_append, List.length_map, List.length_cons, List.length_nil] at E4 E5
            have F4 := Lib.hid E4.1
            have F5 := Lib.hid E5.1
            have PF := Lib.hid P5.st
            clear E4 E5 P4 P5 G4 G5 x4 x5 f4 f5 y4 y5 z4 z5 q4 q5 r4 r5 c20 z20 cs2 cf2
            refine NoPanic.normal ?_
            go_wp2_with fail
            go_roundw
            case rel => exact ⟨q + 1, m4, m5, t ++ [(y.1, n + y.2)], A4, A5, k4, k5, by omega, by go_num, by rw [HE1.out], by have := F4.out; simp; omega, by have := F5.out; simp; omega, by simpa using PF.out, by rw [HTS.out]; have := KT.out.more HLE.out HNE.out; rwa [← HN.out] at this, by simp; omega⟩
            case measure => simp [intOf]; omega
        · skip
          go_simp
          refine hK.out _ _ (fun _ _ => ?_) ?_
          · exact ⟨by simp [*, go_sem], by simp [*, go_sem], by simp [*, go_sem]⟩
          clear hK K
          try simp only [Act.put, List.setIfInBounds_toArray, List.set_cons_zero, List.set_cons_succ]
          refine wpAnyN_one (i := 4) (by kernel_rfl) rfl (fun K hK => ?_)
          go_simp
          refine hK.out _ _ (fun _ _ => ?_) ?_
          · exact ⟨by simp [*, go_sem], by simp [*, go_sem], by simp [*, go_sem]⟩
          clear hK K
          try simp only [Act.put, List.setIfInBounds_toArray, List.set_cons_zero, List.set_cons_succ]
          refine wpAnyN_one (i := 5) (by kernel_rfl) rfl (fun K hK => ?_)
          refine step_app (o := ⟨some 47, _, _, _, _, _⟩) tyZ (by rfl) _ _ (by rfl) encZ (w1.heap.size + 1) V1 (t.map (·.1)) (by rfl) (TwoSt.own1 (w := w1) (base := w.heap.size) (B := w1.heap.size + 1) (b0 := w.heap.size) (bs := w1.heap.size) (vl := (Value.slice (some ⟨c, off, none⟩) l'.length cap)) (ll := l') (V1 := V1) (V2 := V2) (U2 := V2) (L2 := (t.map (·.2))) (by (repeat (first | with_reducible exact S2.out | with_reducible refine TwoSt.alloc ?_ _ | with_reducible refine TwoSt.drew ?_)); done)) _ 1 [y.1] _ (by rfl) (sl_cell (by simp [*, go_sem]) (by first | omega | (simp; done) | (simp; omega))) (by first | omega | (simp; omega)) (by simp [maxLen]; omega) (by first | omega | (simp; omega)) ?_
          intro v4 w4 ho4 hg4 hl4 hb4 hn4
          obtain ⟨A4, k4, m4, rfl⟩ : ∃ A k m, v4 = .slice A m k := by obtain ⟨A, k, hv, _⟩ := ho4.form; exact ⟨A, k, _, hv⟩
          have P4 := TwoSt.app1 (w := w1) (base := w.heap.size) (B := w1.heap.size + 1) (b0 := w.heap.size) (bs := w1.heap.size) (vl := (Value.slice (some ⟨c, off, none⟩) l'.length cap)) (ll := l') (V1 := V1) (V2 := V2) (U2 := V2) (L2 := (t.map (·.2))) (U1 := V1) (L1 := (t.map (·.1))) (by (repeat (first | with_reducible exact S2.out | with_reducible refine TwoSt.alloc ?_ _ | with_reducible refine TwoSt.drew ?_)); done) hg4 ho4 hl4 hb4
          have r4 := hg4.size
          try simp only [World.size_alloc, World.drew] at r4
          have G4 := grown_new hg4 wr.heap.size (fun g hg => W1.out g hg)
          have x4 := blk_cell P4.sums
          have f4 := blk_frozen P4.sums
          have y4 : w4.cell? ⟨wr.heap.size, 0, none⟩ = some (.int .i64 y.1) := (G4 wr.heap.size 0 (Nat.le_refl _) (by first | omega | (simp; omega))).trans (by simp [*, go_sem])
          have b4 : w4.cell? ⟨w2.heap.size, 0, none⟩ = some (.int .i64 (n + y.2)) := (G4 (w2.heap.size) 0 (by omega) (by first | omega | (simp; done) | (simp; omega))).trans (by simp [*, go_sem])
          have z4 : w1.heap.size < w4.heap.size := P4.size
          have q4 : wr.heap.size < w4.heap.size := by have := hg4.size; (try simp at this); omega
          clear hn4 hb4 hl4 hg4 ho4
          refine hK.out _ _ (fun _ _ => ?_) ?_
          · exact ⟨by simp [*, go_sem], by simp [*, go_sem], by simp [*, go_sem]⟩
          clear hK K
          try simp only [Act.put, List.setIfInBounds_toArray, List.set_cons_zero, List.set_cons_succ]
          refine wpAnyN_pure (i := 11) (v := .pointer (some ⟨w1.heap.size, 0, none⟩)) rfl (by kernel_rfl) (by kernel_rfl) (by kernel_rfl) (fun _ _ _ h => h) (Or.inl ⟨by rfl, fun W _ => by go_simp⟩) ?_
          try simp only [Act.put, List.setIfInBounds_toArray, List.set_cons_zero, List.set_cons_succ]
          refine wpAnyN_one (i := 10) (by kernel_rfl) rfl (fun K hK => ?_)
          refine step_app (o := ⟨some 52, _, _, _, _, _⟩) tyZ (by rfl) _ _ (by rfl) encZ (w1.heap.size + 1) V2 (t.map (·.2)) (by rfl) (TwoSt.own2 (w := w1) (base := w.heap.size) (B := w1.heap.size + 1) (b0 := w.heap.size) (bs := w1.heap.size) (vl := (Value.slice (some ⟨c, off, none⟩) l'.length cap)) (ll := l') (V1 := V1) (V2 := V2) (U1 := .slice A4 m4 k4) (L1 := (t.map (·.1)) ++ [y.1]) (by (repeat (first | with_reducible exact P4 | with_reducible refine TwoSt.alloc ?_ _ | with_reducible refine TwoSt.drew ?_)); done)) _ 1 [(n + y.2)] _ (by rfl) (sl_cell (by simp [*, go_sem]) (by first | omega | (simp; done) | (simp; omega))) (by first | omega | (simp; omega)) (by simp [maxLen]; omega) (by first | omega | (simp; omega)) ?_
          intro v5 w5 ho5 hg5 hl5 hb5 hn5
          obtain ⟨A5, k5, m5, rfl⟩ : ∃ A k m, v5 = .slice A m k := by obtain ⟨A, k, hv, _⟩ := ho5.form; exact ⟨A, k, _, hv⟩
          have P5 := TwoSt.app2 (w := w1) (base := w.heap.size) (B := w1.heap.size + 1) (b0 := w.heap.size) (bs := w1.heap.size) (vl := (Value.slice (some ⟨c, off, none⟩) l'.length cap)) (ll := l') (V1 := V1) (V2 := V2) (U1 := .slice A4 m4 k4) (L1 := (t.map (·.1)) ++ [y.1]) (U2 := V2) (L2 := (t.map (·.2))) (by (repeat (first | with_reducible exact P4 | with_reducible refine TwoSt.alloc ?_ _ | with_reducible refine TwoSt.drew ?_)); done) hg5 ho5 hl5 hb5
          have r5 := hg5.size
          try simp only [World.size_alloc, World.drew] at r5
          have G5 := grown_new hg5 wr.heap.size (fun g hg => W2.out g hg)
          have x5 := blk_cell P5.sums
          have f5 := blk_frozen P5.sums
          have y5 : w5.cell? ⟨wr.heap.size, 0, none⟩ = some (.int .i64 y.1) := (G5 wr.heap.size 0 (Nat.le_refl _) (by first | omega | (simp; omega))).trans (by simp [*, go_sem])
          have z5 : w1.heap.size < w5.heap.size := P5.size
          have q5 : wr.heap.size < w5.heap.size := by have := hg5.size; (try simp at this); omega
          clear hn5 hb5 hl5 hg5 ho5
          refine hK.out _ _ (fun _ _ => ?_) ?_
          · exact ⟨by simp [*, go_sem], by simp [*, go_sem], by simp [*, go_sem]⟩
          clear hK K
          try simp only [Act.put, List.setIfInBounds_toArray, List.set_cons_zero, List.set_cons_succ]
          refine wpAnyN_one (i := 12) (by kernel_rfl) rfl (fun K hK => ?_)
          go_simp
          refine hK.out _ _ (fun h _ => absurd (by decide) h) ?_
          clear hK K
          try simp only [Act.put, List.setIfInBounds_toArray, List.set_cons_zero, List.set_cons_succ]
          refine wpAnyN_pure (i := 13) (v := .pointer (some ⟨w1.heap.size, 1, none⟩)) rfl (by kernel_rfl) (by kernel_rfl) (by kernel_rfl) (fun _ _ _ h => h) (Or.inl ⟨by rfl, fun W _ => by go_simp⟩) ?_
          try simp only [Act.put, List.setIfInBounds_toArray, List.set_cons_zero, List.set_cons_succ]
          refine wpAnyN_one (i := 14) (by kernel_rfl) rfl (fun K hK => ?_)
          go_simp
          refine hK.out _ _ (fun h _ => absurd (by decide) h) ?_
          clear hK K
          try simp only [Act.put, List.setIfInBounds_toArray, List.set_cons_zero, List.set_cons_succ]
          refine wpAnyN_done (by kernel_rfl) ?_ _
          have E4 := P5.own1.len_le
          have E5 := P5.own2.len_le
          simp only [List.length_append, List.length_map, List.length_cons, List.length_nil] at E4 E5
          have F4 := Lib.hid E4.1
          have F5 := Lib.hid E5.1
          have PF := Lib.hid P5.st
          clear E4 E5 P4 P5 G4 G5 x4 x5 f4 f5 y4 y5 z4 z5 q4 q5 r4 r5 c20 z20 cs2 cf2
          refine NoPanic.normal ?_
          go_wp2_with fail
          go_roundw
          case rel => exact ⟨q + 1, m4, m5, t ++ [(y.1, n + y.2)], A4, A5, k4, k5, by omega, by go_num, by rw [HE1.out], by have := F4.out; simp; omega, by have := F5.out; simp; omega, by simpa using PF.out, by rw [HTS.out]; have := KT.out.more HLE.out HNE.out; rwa [← HN.out] at this, by simp; omega⟩
          case measure => simp [intOf]; omega
      · rw [List.concat_eq_append] at ht
        obtain ⟨m, hm⟩ : ∃ m, m = t'.length := ⟨_, rfl⟩
        have hkm : k1 = m + 1 := by have := HK1.out; rw [ht] at this; simp at this; omega
        have g1 : decide (0 < k1) = true := by simp; omega
        have g2 : (k1 : Int) - 1 = (m : Int) := by omega
        have g3 : (m : Int) < (k1 : Int) := by omega
        have g4 : m < k1 := by omega
        have g5 : m < (t.map (·.1)).length := by rw [ht]; simp; omega
        have ga : (t.map (·.1))[m] = a.1 := by simp only [ht, hm]; simp
        obtain ⟨b1, o1, rfl, hb1, hc1⟩ := KST.out.own1.sl.at_ g5
        have e0 := hc1 0 (.int .i64 a.1) (by rw [ga]; rfl)
        simp only [Nat.add_zero, Nat.mul_one] at e0
        have g6 : m < (t.map (·.2)).length := by rw [ht]; simp; omega
        obtain ⟨b2, o2, rfl, hb2, hc2⟩ := KST.out.own2.sl.at_ g6
        have gb : (t.map (·.2))[m] = a.2 := by simp only [ht, hm]; simp
        have e8 := hc2 0 (.int .i64 a.2) (by rw [gb]; rfl)
        simp only [Nat.add_zero, Nat.mul_one] at e8
        have g7 : m < k2 := by have := kk.out; omega
        have HKM := Lib.hid hkm
        have HM := Lib.hid hm
        have HT := Lib.hid ht
        clear hc1 hc2 g5 ga gb hkm hm ht
        by_cases ha : a.1 = y.1
        · have ha' : (a.1 == y.1) = true := by simpa using ha
          have HAE := Lib.hid ha
          have e9 := KST.out.own2.frozen
          have hz2 : b2 < wr.heap.size := hb2
          clear ha
          go_wp2_with fail
          refine wp_region_ext (by kernel_rfl) (by kernel_rfl) ?_
          repeat (go_big_quiet_step (fail))
          refine wpQuiet_nil ?_
          intro w2 hb2'
          replace hb2' := below_of_ext hb2'
          have s2 := (KST.out.alloc (.cells #[.int .i64 y.1, .int .i64 y.2] 164)).below hb2'
          have cs2 := blk_cell s2.sums
          have cf2 := blk_frozen s2.sums
          have zs2 : w1.heap.size < w2.heap.size := by have := hb2'.size; simp at this; omega
          have z22 : b2 < w2.heap.size := by have := hb2'.size; simp at this; omega
          have c23 : w2.cell? ⟨b2, o2 + m, none⟩ = some (.int .i64 a.2) := (hb2'.cell (p := ⟨b2, o2 + m, none⟩) (by simp; omega)).trans (by go_simp)
          have f22 := s2.own2.frozen
          have S2 := Lib.hid s2
          clear s2 hb2' cs cf g1 e0 e9 e8
          go_wp2_with fail
          have S3 := Lib.hid (S2.out.set2 m g6 (n + y.2))
          clear c23 f22 S2 cs2 cf2
          go_wp2_with fail
          go_roundw
          case rel => exact ⟨q + 1, k1, k2, t' ++ [(y.1, n + y.2)], some ⟨b1, o1, none⟩, some ⟨b2, o2, none⟩, c1, c2, by omega, by go_num, by rw [HE1.out], by have := HKM.out; have := HM.out; simp; omega, by have := HKM.out; have := HM.out; have := kk.out; simp; omega, by have h := S3.out; rw [HT.out, set_last HM.out (y.1, n + y.2)] at h; have e : (t' ++ [a]).map (·.1) = (t' ++ [(y.1, n + y.2)]).map (·.1) := (by simp [HAE.out]); rwa [e] at h, by have h := KT.out; rw [HT.out, show a = (y.1, a.2) from Prod.ext HAE.out rfl] at h; have h2 := h.same HLE.out; rw [← HN.out] at h2; rwa [HTS.out], by rw [HT.out] at htq; simp at htq ⊢; omega⟩
          case measure => simp [intOf]; omega
        · have ha' : (a.1 == y.1) = false := by simpa using ha
          have HNE := Lib.hid (show ∀ z ∈ t, z.1 ≠ y.1 by rw [HT.out]; exact Tab.last_ne (by rw [← HT.out]; exact KT.out) HLE.out ha)
          clear ha
          go_wp2_with fail
          refine wp_region_ext (by kernel_rfl) (by kernel_rfl) ?_
          repeat (go_big_quiet_step (fail))
          refine wpQuiet_nil ?_
          intro w2 hb2
          replace hb2 := below_of_ext hb2
          have c20 := (hb2.cell (p := ⟨wr.heap.size, 0, none⟩) (by simp)).trans (by go_simp : _ = some (Value.int .i64 y.1))
          have z20 : wr.heap.size < w2.heap.size := by have := hb2.size; simp at this; omega
          have s2 := (KST.out.alloc (.cells #[.int .i64 y.1, .int .i64 y.2] 164)).below hb2
          have cs2 := blk_cell s2.sums
          have cf2 := blk_frozen s2.sums
          have zs2 : w1.heap.size < w2.heap.size := by omega
          have ow1 : ∀ g, (Value.slice (some ⟨b1, o1, none⟩) k1 c1).ownBlock = some g → g < wr.heap.size := fun g hg => (KST.out.own1.lt g hg).2
          have ow2 : ∀ g, (Value.slice (some ⟨b2, o2, none⟩) k2 c2).ownBlock = some g → g < wr.heap.size := fun g hg => (KST.out.own2.lt g hg).2
          generalize Value.slice (some ⟨b1, o1, none⟩) k1 c1 = V1 at s2 cs2 ow1 ⊢
          generalize Value.slice (some ⟨b2, o2, none⟩) k2 c2 = V2 at s2 cs2 ow2 ⊢
          have W1 := Lib.hid ow1
          have W2 := Lib.hid ow2
          have S2 := Lib.hid s2
          clear s2 hb2 cs cf g1 g2 g3 g4 ow1 ow2 e0 e8 g7
          go_wp2_with fail
          refine wp_region_noPanic ?_
          refine wp_region_N (fun w' => w'.cell? ⟨w1.heap.size, 0, none⟩ = some V1 ∧ w'.cell? ⟨w1.heap.size, 1, none⟩ = some V2 ∧ w'.cell? ⟨wr.heap.size, 0, none⟩ = some (.int .i64 y.1)) [12, 14] (by kernel_rfl) ⟨by simp [*, go_sem], by simp [*, go_sem], by simp [*, go_sem]⟩ (fun hHeld => ?_)
          refine wpAnyN_pure (i := 0) (v := .pointer (some ⟨w1.heap.size, 0, none⟩)) rfl (by kernel_rfl) (by kernel_rfl) (by kernel_rfl) (fun _ _ _ h => h) (Or.inl ⟨by rfl, fun W _ => by go_simp⟩) ?_
          try simp only [Act.put, List.setIfInBounds_toArray, List.set_cons_zero, List.set_cons_succ]
          refine wpAnyN_take (i := 1) (v := V1) rfl (by kernel_rfl) (by kernel_rfl) (by kernel_rfl) (by kernel_rfl) (fun _ _ _ h => h) (Or.inl ⟨by rfl, fun W hW => by obtain ⟨q1, q2, q3⟩ := hW; go_simp⟩) hHeld ?_
          try simp only [Act.put, List.setIfInBounds_toArray, List.set_cons_zero, List.set_cons_succ]
          refine wpAnyN_pure (i := 2) (v := .pointer (some ⟨wr.heap.size, 0, none⟩)) rfl (by kernel_rfl) (by kernel_rfl) (by kernel_rfl) (fun _ _ _ h => h) (Or.inl ⟨by rfl, fun W _ => by go_simp⟩) ?_
          try simp only [Act.put, List.setIfInBounds_toArray, List.set_cons_zero, List.set_cons_succ]
          refine wpAnyN_take (i := 3) (v := .int .i64 y.1) rfl (by kernel_rfl) (by kernel_rfl) (by kernel_rfl) (by kernel_rfl) (fun _ _ _ h => h) (Or.inl ⟨by rfl, fun W hW => by obtain ⟨q1, q2, q3⟩ := hW; go_simp⟩) hHeld ?_
          try simp only [Act.put, List.setIfInBounds_toArray, List.set_cons_zero, List.set_cons_succ]
          refine wpAnyN_pure (i := 6) (v := .pointer (some ⟨w1.heap.size, 1, none⟩)) rfl (by kernel_rfl) (by kernel_rfl) (by kernel_rfl) (fun _ _ _ h => h) (Or.inl ⟨by rfl, fun W _ => by go_simp⟩) ?_
          try simp only [Act.put, List.setIfInBounds_toArray, List.set_cons_zero, List.set_cons_succ]
          refine wpAnyN_take (i := 7) (v := V2) rfl (by kernel_rfl) (by kernel_rfl) (by kernel_rfl) (by kernel_rfl) (fun _ _ _ h => h) (Or.inl ⟨by rfl, fun W hW => by obtain ⟨q1, q2, q3⟩ := hW; go_simp⟩) hHeld ?_
          try simp only [Act.put, List.setIfInBounds_toArray, List.set_cons_zero, List.set_cons_succ]
          refine wpAnyN_pure (i := 8) (v := .int .i64 (n + y.2)) rfl (by kernel_rfl) (by kernel_rfl) (by kernel_rfl) (fun _ _ _ h => h) (Or.inl ⟨by rfl, fun W _ => by go_simp⟩) ?_
          try simp only [Act.put, List.setIfInBounds_toArray, List.set_cons_zero, List.set_cons_succ]
          clear hHeld
          refine wpAnyN_two (i := 4) (k := 9) (by kernel_rfl) rfl rfl (fun K hK => ?_) (fun K hK => ?_)
          · skip
            go_simp
            refine hK.out _ _ (fun _ _ => ?_) ?_
            · exact ⟨by simp [*, go_sem], by simp [*, go_sem], by simp [*, go_sem]⟩
            clear hK K
            try simp only [Act.put, List.setIfInBounds_toArray, List.set_cons_zero, List.set_cons_succ]
            refine wpAnyN_two (i := 5) (k := 9) (by kernel_rfl) rfl rfl (fun K hK => ?_) (fun K hK => ?_)
            · skip
              refine step_app (o := ⟨some 47, _, _, _, _, _⟩) tyZ (by rfl) _ _ (by rfl) encZ (w1.heap.size + 1) V1 (t.map (·.1)) (by rfl) (TwoSt.own1 (w := w1) (base := w.heap.size) (B := w1.heap.size + 1) (b0 := w.heap.size) (bs := w1.heap.size) (vl := (Value.slice (some ⟨c, off, none⟩) l'.length cap)) (ll := l') (V1 := V1) (V2 := V2) (U2 := V2) (L2 := (t.map (·.2))) (by (repeat (first | with_reducible exact S2.out | with_reducible refine TwoSt.alloc ?_ _ | with_reducible refine TwoSt.drew ?_)); done)) _ 1 [y.1] _ (by rfl) (sl_cell (by simp [*, go_sem]) (by first | omega | (simp; done) | (simp; omega))) (by first | omega | (simp; omega)) (by simp [maxLen]; omega) (by first | omega | (simp; omega)) ?_
              intro v4 w4 ho4 hg4 hl4 hb4 hn4
              obtain ⟨A4, k4, m4, rfl⟩ : ∃ A k m, v4 = .slice A m k := by obtain ⟨A, k, hv, _⟩ := ho4.form; exact ⟨A, k, _, hv⟩
              have P4 := TwoSt.app1 (w := w1) (base := w.heap.size) (B := w1.heap.size + 1) (b0 := w.heap.size) (bs := w1.heap.size) (vl := (Value.slice (some ⟨c, off, none⟩) l'.length cap)) (ll := l') (V1 := V1) (V2 := V2) (U2 := V2) (L2 := (t.map (·.2))) (U1 := V1) (L1 := (t.map (·.1))) (by (repeat (first | with_reducible exact S2.out | with_reducible refine TwoSt.alloc ?_ _ | with_reducible refine TwoSt.drew ?_)); done) hg4 ho4 hl4 hb4
              have r4 := hg4.size
              try simp only [World.size_alloc, World.drew] at r4
              have G4 := grown_new hg4 wr.heap.size (fun g hg => W1.out g hg)
              have x4 := blk_cell P4.sums
              have f4 := blk_frozen P4.sums
              have y4 : w4.cell? ⟨wr.heap.size, 0, none⟩ = some (.int .i64 y.1) := (G4 wr.heap.size 0 (Nat.le_refl _) (by first | omega | (simp; omega))).trans (by simp [*, go_sem])
              have z4 : w1.heap.size < w4.heap.size := P4.size
              have q4 : wr.heap.size < w4.heap.size := by have := hg4.size; (try simp at this); omega
              clear hn4 hb4 hl4 hg4 ho4
              refine hK.out _ _ (fun _ _ => ?_) ?_
              · exact ⟨by simp [*, go_sem], by simp [*, go_sem], by simp [*, go_sem]⟩
              clear hK K
              try simp only [Act.put, List.setIfInBounds_toArray, List.set_cons_zero, List.set_cons_succ]
              refine wpAnyN_pure (i := 11) (v := .pointer (some ⟨w1.heap.size, 0, none⟩)) rfl (by kernel_rfl) (by kernel_rfl) (by kernel_rfl) (fun _ _ _ h => h) (Or.inl ⟨by rfl, fun W _ => by go_simp⟩) ?_
              try simp only [Act.put, List.setIfInBounds_toArray, List.set_cons_zero, List.set_cons_succ]
              refine wpAnyN_one (i := 9) (by kernel_rfl) rfl (fun K hK => ?_)
              go_simp
              refine hK.out _ _ (fun _ _ => ?_) ?_
              · exact ⟨by simp [*, go_sem], by simp [*, go_sem], by simp [*, go_sem]⟩
              clear hK K
              try simp only [Act.put, List.setIfInBounds_toArray, List.set_cons_zero, List.set_cons_succ]
              refine wpAnyN_one (i := 10) (by kernel_rfl) rfl (fun K hK => ?_)
              refine step_app (o := ⟨some 52, _, _, _, _, _⟩) tyZ (by rfl) _ _ (by rfl) encZ (w1.heap.size + 1) V2 (t.map (·.2)) (by rfl) (TwoSt.own2 (w := w1) (base := w.heap.size) (B := w1.heap.size + 1) (b0 := w.heap.size) (bs := w1.heap.size) (vl := (Value.slice (some ⟨c, off, none⟩) l'.length cap)) (ll := l') (V1 := V1) (V2 := V2) (U1 := .slice A4 m4 k4) (L1 := (t.map (·.1)) ++ [y.1]) (by (repeat (first | with_reducible exact P4 | with_reducible refine TwoSt.alloc ?_ _ | with_reducible refine TwoSt.drew ?_)); done)) _ 1 [(n + y.2)] _ (by rfl) (sl_cell (by simp [*, go_sem]) (by first | omega | (simp; done) | (simp; omega))) (by first | omega | (simp; omega)) (by simp [maxLen]; omega) (by first | omega | (simp; omega)) ?_
              intro v5 w5 ho5 hg5 hl5 hb5 hn5
              obtain ⟨A5, k5, m5, rfl⟩ : ∃ A k m, v5 = .slice A m k := by obtain ⟨A, k, hv, _⟩ := ho5.form; exact ⟨A, k, _, hv⟩
              have P5 := TwoSt.app2 (w := w1) (base := w.heap.size) (B := w1.heap.size + 1) (b0 := w.heap.size) (bs := w1.heap.size) (vl := (Value.slice (some ⟨c, off, none⟩) l'.length cap)) (ll := l') (V1 := V1) (V2 := V2) (U1 := .slice A4 m4 k4) (L1 := (t.map (·.1)) ++ [y.1]) (U2 := V2) (L2 := (t.map (·.2))) (by (repeat (first | with_reducible exact P4 | with_reducible refine TwoSt.alloc ?_ _ | with_reducible refine TwoSt.drew ?_)); done) hg5 ho5 hl5 hb5
              have r5 := hg5.size
              try simp only [World.size_alloc, World.drew] at r5
              have G5 := grown_new hg5 wr.heap.size (fun g hg => W2.out g hg)
              have x5 := blk_cell P5.sums
              have f5 := blk_frozen P5.sums
              have y5 : w5.cell? ⟨wr.heap.size, 0, none⟩ = some (.int .i64 y.1) := (G5 wr.heap.size 0 (Nat.le_refl _) (by first | omega | (simp; omega))).trans (by simp [*, go_sem])
              have z5 : w1.heap.size < w5.heap.size := P5.size
              have q5 : wr.heap.size < w5.heap.size := by have := hg5.size; (try simp at this); omega
              clear hn5 hb5 hl5 hg5 ho5
              refine hK.out _ _ (fun _ _ => ?_) ?_
              · exact ⟨by simp [*, go_sem], by simp [*, go_sem], by simp [*, go_sem]⟩
              clear hK K
              try simp only [Act.put, List.setIfInBounds_toArray, List.set_cons_zero, List.set_cons_succ]
              refine wpAnyN_one (i := 12) (by kernel_rfl) rfl (fun K hK => ?_)
              go_simp
              refine hK.out _ _ (fun h _ => absurd (by decide) h) ?_
              clear hK K
              try simp only [Act.put, List.setIfInBounds_toArray, List.set_cons_zero, List.set_cons_succ]
              refine wpAnyN_pure (i := 13) (v := .pointer (some ⟨w1.heap.size, 1, none⟩)) rfl (by kernel_rfl) (by kernel_rfl) (by kernel_rfl) (fun _ _ _ h => h) (Or.inl ⟨by rfl, fun W _ => by go_simp⟩) ?_
              try simp only [Act.put, List.setIfInBounds_toArray, List.set_cons_zero, List.set_cons_succ]
              refine wpAnyN_one (i := 14) (by kernel_rfl) rfl (fun K hK => ?_)
              go_simp
              refine hK.out _ _ (fun h _ => absurd (by decide) h) ?_
              clear hK K
              try simp only [Act.put, List.setIfInBounds_toArray, List.set_cons_zero, List.set_cons_succ]
              refine wpAnyN_done (by kernel_rfl) ?_ _
              have E4 := P5.own1.len_le
              have E5 := P5.own2.len_le
              simp only [List.length_append, List.length_map, List.length_cons, List.length_nil] at E4 E5
              have F4 := Lib.hid E4.1
              have F5 := Lib.hid E5.1
              have PF := Lib.hid P5.st
              clear E4 E5 P4 P5 G4 G5 x4 x5 f4 f5 y4 y5 z4 z5 q4 q5 r4 r5 c20 z20 cs2 cf2
              refine NoPanic.normal ?_
              go_wp2_with fail
              go_roundw
              case rel => exact ⟨q + 1, m4, m5, t ++ [(y.1, n + y.2)], A4, A5, k4, k5, by omega, by go_num, by rw [HE1.out], by have := F4.out; simp; omega, by have := F5.out; simp; omega, by simpa using PF.out, by rw [HTS.out]; have := KT.out.more HLE.out HNE.out; rwa [← HN.out] at this, by simp; omega⟩
              case measure => simp [intOf]; omega
            · skip
              go_simp
              refine hK.out _ _ (fun _ _ => ?_) ?_
              · exact ⟨by simp [*, go_sem], by simp [*, go_sem], by simp [*, go_sem]⟩
              clear hK K
              try simp only [Act.put, List.setIfInBounds_toArray, List.set_cons_zero, List.set_cons_succ]
              refine wpAnyN_one (i := 5) (by kernel_rfl) rfl (fun K hK => ?_)
              refine step_app (o := ⟨some 47, _, _, _, _, _⟩) tyZ (by rfl) _ _ (by rfl) encZ (w1.heap.size + 1) V1 (t.map (·.1)) (by rfl) (TwoSt.own1 (w := w1) (base := w.heap.size) (B := w1.heap.size + 1) (b0 := w.heap.size) (bs := w1.heap.size) (vl := (Value.slice (some ⟨c, off, none⟩) l'.length cap)) (ll := l') (V1 := V1) (V2 := V2) (U2 := V2) (L2 := (t.map (·.2))) (by (repeat (first | with_reducible exact S2.out | with_reducible refine TwoSt.alloc ?_ _ | with_reducible refine TwoSt.drew ?_)); done)) _ 1 [y.1] _ (by rfl) (sl_cell (by simp [*, go_sem]) (by first | omega | (simp; done) | (simp; omega))) (by first | omega | (simp; omega)) (by simp [maxLen]; omega) (by first | omega | (simp; omega)) ?_
              intro v4 w4 ho4 hg4 hl4 hb4 hn4
              obtain ⟨A4, k4, m4, rfl⟩ : ∃ A k m, v4 = .slice A m k := by obtain ⟨A, k, hv, _⟩ := ho4.form; exact ⟨A, k, _, hv⟩
              have P4 := TwoSt.app1 (w := w1) (base := w.heap.size) (B := w1.heap.size + 1) (b0 := w.heap.size) (bs := w1.heap.size) (vl := (Value.slice (some ⟨c, off, none⟩) l'.length cap)) (ll := l') (V1 := V1) (V2 := V2) (U2 := V2) (L2 := (t.map (·.2))) (U1 := V1) (L1 := (t.map (·.1))) (by (repeat (first | with_reducible exact S2.out | with_reducible refine TwoSt.alloc ?_ _ | with_reducible refine TwoSt.drew ?_)); done) hg4 ho4 hl4 hb4
              have r4 := hg4.size
              try simp only [World.size_alloc, World.drew] at r4
              have G4 := grown_new hg4 wr.heap.size (fun g hg => W1.out g hg)
              have x4 := blk_cell P4.sums
              have f4 := blk_frozen P4.sums
              have y4 : w4.cell? ⟨wr.heap.size, 0, none⟩ = some (.int .i64 y.1) := (G4 wr.heap.size 0 (Nat.le_refl _) (by first | omega | (simp; omega))).trans (by simp [*, go_sem])
              have b4 : w4.cell? ⟨w2.heap.size + 1, 0, none⟩ = some (.int .i64 (n + y.2)) := (G4 (w2.heap.size + 1) 0 (by omega) (by first | omega | (simp; done) | (simp; omega))).trans (by simp [*, go_sem])
              have z4 : w1.heap.size < w4.heap.size := P4.size
              have q4 : wr.heap.size < w4.heap.size := by have := hg4.size; (try simp at this); omega
              clear hn4 hb4 hl4 hg4 ho4
              refine hK.out _ _ (fun _ _ => ?_) ?_
              · exact ⟨by simp [*, go_sem], by simp [*, go_sem], by simp [*, go_sem]⟩
              clear hK K
              try simp only [Act.put, List.setIfInBounds_toArray, List.set_cons_zero, List.set_cons_succ]
              refine wpAnyN_pure (i := 11) (v := .pointer (some ⟨w1.heap.size, 0, none⟩)) rfl (by kernel_rfl) (by kernel_rfl) (by kernel_rfl) (fun _ _ _ h => h) (Or.inl ⟨by rfl, fun W _ => by go_simp⟩) ?_
              try simp only [Act.put, List.setIfInBounds_toArray, List.set_cons_zero, List.set_cons_succ]
              refine wpAnyN_one (i := 10) (by kernel_rfl) rfl (fun K hK => ?_)
              refine step_app (o := ⟨some 52, _, _, _, _, _⟩) tyZ (by rfl) _ _ (by rfl) encZ (w1.heap.size + 1) V2 (t.map (·.2)) (by rfl) (TwoSt.own2 (w := w1) (base := w.heap.size) (B := w1.heap.size + 1) (b0 := w.heap.size) (bs := w1.heap.size) (vl := (Value.slice (some ⟨c, off, none⟩) l'.length cap)) (ll := l') (V1 := V1) (V2 := V2) (U1 := .slice A4 m4 k4) (L1 := (t.map (·.1)) ++ [y.1]) (by (repeat (first | with_reducible exact P4 | with_reducible refine TwoSt.alloc ?_ _ | with_reducible refine TwoSt.drew ?_)); done)) _ 1 [(n + y.2)] _ (by rfl) (sl_cell (by simp [*, go_sem]) (by first | omega | (simp; done) | (simp; omega))) (by first | omega | (simp; omega)) (by simp [maxLen]; omega) (by first | omega | (simp; omega)) ?_
              intro v5 w5 ho5 hg5 hl5 hb5 hn5
              obtain ⟨A5, k5, m5, rfl⟩ : ∃ A k m, v5 = .slice A m k := by obtain ⟨A, k, hv, _⟩ := ho5.form; exact ⟨A, k, _, hv⟩
              have P5 := TwoSt.app2 (w := w1) (base := w.heap.size) (B := w1.heap.size + 1) (b0 := w.heap.size) (bs := w1.heap.size) (vl := (Value.slice (some ⟨c, off, none⟩) l'.length cap)) (ll := l') (V1 := V1) (V2 := V2) (U1 := .slice A4 m4 k4) (L1 := (t.map (·.1)) ++ [y.1]) (U2 := V2) (L2 := (t.map (·.2))) (by (repeat (first | with_reducible exact P4 | with_reducible refine TwoSt.alloc ?_ _ | with_reducible refine TwoSt.drew ?_)); done) hg5 ho5 hl5 hb5
              have r5 := hg5.size
              try simp only [World.size_alloc, World.drew] at r5
              have G5 := grown_new hg5 wr.heap.size (fun g hg => W2.out g hg)
              have x5 := blk_cell P5.sums
              have f5 := blk_frozen P5.sums
              have y5 : w5.cell? ⟨wr.heap.size, 0, none⟩ = some (.int .i64 y.1) := (G5 wr.heap.size 0 (Nat.le_refl _) (by first | omega | (simp; omega))).trans (by simp [*, go_sem])
              have z5 : w1.heap.size < w5.heap.size := P5.size
              have q5 : wr.heap.size < w5.heap.size := by have := hg5.size; (try simp at this); omega
              clear hn5 hb5 hl5 hg5 ho5
              refine hK.out _ _ (fun _ _ => ?_) ?_
              · exact ⟨by simp [*, go_sem], by simp [*, go_sem], by simp [*, go_sem]⟩
              clear hK K
              try simp only [Act.put, List.setIfInBounds_toArray, List.set_cons_zero, List.set_cons_succ]
              refine wpAnyN_one (i := 12) (by kernel_rfl) rfl (fun K hK => ?_)
              go_simp
              refine hK.out _ _ (fun h _ => absurd (by decide) h) ?_
              clear hK K
              try simp only [Act.put, List.setIfInBounds_toArray, List.set_cons_zero, List.set_cons_succ]
              refine wpAnyN_pure (i := 13) (v := .pointer (some ⟨w1.heap.size, 1, none⟩)) rfl (by kernel_rfl) (by kernel_rfl) (by kernel_rfl) (fun _ _ _ h => h) (Or.inl ⟨by rfl, fun W _ => by go_simp⟩) ?_
              try simp only [Act.put, List.setIfInBounds_toArray, List.set_cons_zero, List.set_cons_succ]
              refine wpAnyN_one (i := 14) (by kernel_rfl) rfl (fun K hK => ?_)
              go_simp
              refine hK.out _ _ (fun h _ => absurd (by decide) h) ?_
              clear hK K
              try simp only [Act.put, List.setIfInBounds_toArray, List.set_cons_zero, List.set_cons_succ]
              refine wpAnyN_done (by kernel_rfl) ?_ _
              have E4 := P5.own1.len_le
              have E5 := P5.own2.len_le
              simp only [List.length_append, List.length_map, List.length_cons, List.length_nil] at E4 E5
              have F4 := Lib.hid E4.1
              have F5 := Lib.hid E5.1
              have PF := Lib.hid P5.st
              clear E4 E5 P4 P5 G4 G5 x4 x5 f4 f5 y4 y5 z4 z5 q4 q5 r4 r5 c20 z20 cs2 cf2
              refine NoPanic.normal ?_
              go_wp2_with fail
              go_roundw
              case rel => exact ⟨q + 1, m4, m5, t ++ [(y.1, n + y.2)], A4, A5, k4, k5, by omega, by go_num, by rw [HE1.out], by have := F4.out; simp; omega, by have := F5.out; simp; omega, by simpa using PF.out, by rw [HTS.out]; have := KT.out.more HLE.out HNE.out; rwa [← HN.out] at this, by simp; omega⟩
              case measure => simp [intOf]; omega
          · skip
            go_simp
            refine hK.out _ _ (fun _ _ => ?_) ?_
            · exact ⟨by simp [*, go_sem], by simp [*, go_sem], by simp [*, go_sem]⟩
            clear hK K
            try simp only [Act.put, List.setIfInBounds_toArray, List.set_cons_zero, List.set_cons_succ]
            refine wpAnyN_one (i := 4) (by kernel_rfl) rfl (fun K hK => ?_)
            go_simp
            refine hK.out _ _ (fun _ _ => ?_) ?_
            · exact ⟨by simp [*, go_sem], by simp [*, go_sem], by simp [*, go_sem]⟩
            clear hK K
            try simp only [Act.put, List.setIfInBounds_toArray, List.set_cons_zero, List.set_cons_succ]
            refine wpAnyN_one (i := 5) (by kernel_rfl) rfl (fun K hK => ?_)
            refine step_app (o := ⟨some 47, _, _, _, _, _⟩) tyZ (by rfl) _ _ (by rfl) encZ (w1.heap.size + 1) V1 (t.map (·.1)) (by rfl) (TwoSt.own1 (w := w1) (base := w.heap.size) (B := w1.heap.size + 1) (b0 := w.heap.size) (bs := w1.heap.size) (vl := (Value.slice (some ⟨c, off, none⟩) l'.length cap)) (ll := l') (V1 := V1) (V2 := V2) (U2 := V2) (L2 := (t.map (·.2))) (by (repeat (first | with_reducible exact S2.out | with_reducible refine TwoSt.alloc ?_ _ | with_reducible refine TwoSt.drew ?_)); done)) _ 1 [y.1] _ (by rfl) (sl_cell (by simp [*, go_sem]) (by first | omega | (simp; done) | (simp; omega))) (by first | omega | (simp; omega)) (by simp [maxLen]; omega) (by first | omega | (simp; omega)) ?_
            intro v4 w4 ho4 hg4 hl4 hb4 hn4
            obtain ⟨A4, k4, m4, rfl⟩ : ∃ A k m, v4 = .slice A m k := by obtain ⟨A, k, hv, _⟩ := ho4.form; exact ⟨A, k, _, hv⟩
            have P4 := TwoSt.app1 (w := w1) (base := w.heap.size) (B := w1.heap.size + 1) (b0 := w.heap.size) (bs := w1.heap.size) (vl := (Value.slice (some ⟨c, off, none⟩) l'.length cap)) (ll := l') (V1 := V1) (V2 := V2) (U2 := V2) (L2 := (t.map (·.2))) (U1 := V1) (L1 := (t.map (·.1))) (by (repeat (first | with_reducible exact S2.out | with_reducible refine TwoSt.alloc ?_ _ | with_reducible refine TwoSt.drew ?_)); done) hg4 ho4 hl4 hb4
            have r4 := hg4.size
            try simp only [World.size_alloc, World.drew] at r4
            have G4 := grown_new hg4 wr.heap.size (fun g hg => W1.out g hg)
            have x4 := blk_cell P4.sums
            have f4 := blk_frozen P4.sums
            have y4 : w4.cell? ⟨wr.heap.size, 0, none⟩ = some (.int .i64 y.1) := (G4 wr.heap.size 0 (Nat.le_refl _) (by first | omega | (simp; omega))).trans (by simp [*, go_sem])
            have b4 : w4.cell? ⟨w2.heap.size, 0, none⟩ = some (.int .i64 (n + y.2)) := (G4 (w2.heap.size) 0 (by omega) (by first | omega | (simp; done) | (simp; omega))).trans (by simp [*, go_sem])
            have z4 : w1.heap.size < w4.heap.size := P4.size
            have q4 : wr.heap.size < w4.heap.size := by have := hg4.size; (try simp at this); omega
            clear hn4 hb4 hl4 hg4 ho4
            refine hK.out _ _ (fun _ _ => ?_) ?_
            · exact ⟨by simp [*, go_sem], by simp [*, go_sem], by simp [*, go_sem]⟩
            clear hK K
            try simp only [Act.put, List.setIfInBounds_toArray, List.set_cons_zero, List.set_cons_succ]
            refine wpAnyN_pure (i := 11) (v := .pointer (some ⟨w1.heap.size, 0, none⟩)) rfl (by kernel_rfl) (by kernel_rfl) (by kernel_rfl) (fun _ _ _ h => h) (Or.inl ⟨by rfl, fun W _ => by go_simp⟩) ?_
            try simp only [Act.put, List.setIfInBounds_toArray, List.set_cons_zero, List.set_cons_succ]
            refine wpAnyN_one (i := 10) (by kernel_rfl) rfl (fun K hK => ?_)
            refine step_app (o := ⟨some 52, _, _, _, _, _⟩) tyZ (by rfl) _ _ (by rfl) encZ (w1.heap.size + 1) V2 (t.map (·.2)) (by rfl) (TwoSt.own2 (w := w1) (base := w.heap.size) (B := w1.heap.size + 1) (b0 := w.heap.size) (bs := w1.heap.size) (vl := (Value.slice (some ⟨c, off, none⟩) l'.length cap)) (ll := l') (V1 := V1) (V2 := V2) (U1 := .slice A4 m4 k4) (L1 := (t.map (·.1)) ++ [y.1]) (by (repeat (first | with_reducible exact P4 | with_reducible refine TwoSt.alloc ?_ _ | with_reducible refine TwoSt.drew ?_)); done)) _ 1 [(n + y.2)] _ (by rfl) (sl_cell (by simp [*, go_sem]) (by first | omega | (simp; done) | (simp; omega))) (by first | omega | (simp; omega)) (by simp [maxLen]; omega) (by first | omega | (simp; omega)) ?_
            intro v5 w5 ho5 hg5 hl5 hb5 hn5
            obtain ⟨A5, k5, m5, rfl⟩ : ∃ A k m, v5 = .slice A m k := by obtain ⟨A, k, hv, _⟩ := ho5.form; exact ⟨A, k, _, hv⟩
            have P5 := TwoSt.app2 (w := w1) (base := w.heap.size) (B := w1.heap.size + 1) (b0 := w.heap.size) (bs := w1.heap.size) (vl := (Value.slice (some ⟨c, off, none⟩) l'.length cap)) (ll := l') (V1 := V1) (V2 := V2) (U1 := .slice A4 m4 k4) (L1 := (t.map (·.1)) ++ [y.1]) (U2 := V2) (L2 := (t.map (·.2))) (by (repeat (first | with_reducible exact P4 | with_reducible refine TwoSt.alloc ?_ _ | with_reducible refine TwoSt.drew ?_)); done) hg5 ho5 hl5 hb5
            have r5 := hg5.size
            try simp only [World.size_alloc, World.drew] at r5
            have G5 := grown_new hg5 wr.heap.size (fun g hg => W2.out g hg)
            have x5 := blk_cell P5.sums
            have f5 := blk_frozen P5.sums
            have y5 : w5.cell? ⟨wr.heap.size, 0, none⟩ = some (.int .i64 y.1) := (G5 wr.heap.size 0 (Nat.le_refl _) (by first | omega | (simp; omega))).trans (by simp [*, go_sem])
            have z5 : w1.heap.size < w5.heap.size := P5.size
            have q5 : wr.heap.size < w5.heap.size := by have := hg5.size; (try simp at this); omega
            clear hn5 hb5 hl5 hg5 ho5
            refine hK.out _ _ (fun _ _ => ?_) ?_
            · exact ⟨by simp [*, go_sem], by simp [*, go_sem], by simp [*, go_sem]⟩
            clear hK K
            try simp only [Act.put, List.setIfInBounds_toArray, List.set_cons_zero, List.set_cons_succ]
            refine wpAnyN_one (i := 12) (by kernel_rfl) rfl (fun K hK => ?_)
            go_simp
            refine hK.out _ _ (fun h _ => absurd (by decide) h) ?_
            clear hK K
            try simp only [Act.put, List.setIfInBounds_toArray, List.set_cons_zero, List.set_cons_succ]
            refine wpAnyN_pure (i := 13) (v := .pointer (some ⟨w1.heap.size, 1, none⟩)) rfl (by kernel_rfl) (by kernel_rfl) (by kernel_rfl) (fun _ _ _ h => h) (Or.inl ⟨by rfl, fun W _ => by go_simp⟩) ?_
            try simp only [Act.put, List.setIfInBounds_toArray, List.set_cons_zero, List.set_cons_succ]
            refine wpAnyN_one (i := 14) (by kernel_rfl) rfl (fun K hK => ?_)
            go_simp
            refine hK.out _ _ (fun h _ => absurd (by decide) h) ?_
            clear hK K
            try simp only [Act.put, List.setIfInBounds_toArray, List.set_cons_zero, List.set_cons_succ]
            refine wpAnyN_done (by kernel_rfl) ?_ _
            have E4 := P5.own1.len_le
            have E5 := P5.own2.len_le
            simp only [List.length_append, List.length_map, List.length_cons, List.length_nil] at E4 E5
            have F4 := Lib.hid E4.1
            have F5 := Lib.hid E5.1
            have PF := Lib.hid P5.st
            clear E4 E5 P4 P5 G4 G5 x4 x5 f4 f5 y4 y5 z4 z5 q4 q5 r4 r5 c20 z20 cs2 cf2
            refine NoPanic.normal ?_
            go_wp2_with fail
            go_roundw
            case rel => exact ⟨q + 1, m4, m5, t ++ [(y.1, n + y.2)], A4, A5, k4, k5, by omega, by go_num, by rw [HE1.out], by have := F4.out; simp; omega, by have := F5.out; simp; omega, by simpa using PF.out, by rw [HTS.out]; have := KT.out.more HLE.out HNE.out; rwa [← HN.out] at this, by simp; omega⟩
            case measure => simp [intOf]; omega
    · obtain rfl : q = l'.length := by omega
      rw [List.take_length] at KT
      have ct := blk_cell hst.zero
      have cft := blk_frozen hst.zero
      have zt := lt_of_block hst.zero
      clear hst htab
      subst hk1
      subst hk2
      go_wp2_with fail
      refine bodyPost_ret (v := .agg #[.slice A1 t.length c1, .slice A2 t.length c2]) (by simp only [results, Tryz.results144]; go_simp) rfl ⟨t, A1, c1, A2, c2, rfl, KT.out.perm HP.out, by have := HLen.out; omega, ?_, ?_, ?_⟩
      · exact ((KST.out.own1.setCellB (by simp only; omega)).setCellB (by simp only; omega)).base_le (by omega)
      · exact ((KST.out.own2.setCellB (by simp only; omega)).setCellB (by simp only; omega)).base_le (by omega)
      · have hB := (KST.out.blw.setCell (p := ⟨w.heap.size, 0, none⟩) (Nat.le_refl _) (.slice A1 t.length c1)).setCell (p := ⟨w.heap.size, 1, none⟩) (Nat.le_refl _) (.slice A2 t.length c2)
        have hA : Below w.heap.size w (w.alloc (.cells #[.slice none 0 0, .slice none 0 0] 193)) := (Below.refl _ _).alloc (Nat.le_refl _) _
        exact turn_then hA HTu.out hB
end Go.Proofs.YtilkfolhglpaoaaGreat
/- The reference of layer 2 (twig). -/
namespace Go.Proofs.YtilkfolhglpaoaaGreat
open Go.ChangeShapes Go.WideShapes Go.ChangeAt Go.RowKit
set_option linter.unusedVariables false

theorem ref2_Is (w : World) (l : Int) : Calls Tryz.prog 141 #[.int .i64 l] w fun e w' => e = .returned (.bool (decide (1 ≤ l ∧ l ≤ 48))) ∧ Below w.heap.size w w' := by
  by_cases h1 : 1 ≤ l
  · go_enter Tryz.func141, Tryz.ntmps141
    go_wp2_with fail
    go_ret
    exact ⟨ret_bool (by simp [h1]), (by repeat (first | with_reducible exact Below.refl _ _ | with_reducible assumption | ((with_reducible refine Below.setCell ?_ ?_ _); rotate_left; · (first | omega | exact Nat.le_refl _ | (simp <;> omega))) | (with_reducible refine Below.allocW ?_ _) | (with_reducible refine Below.drew ?_) | (with_reducible refine Below.extW ?_ _)))⟩
  · go_enter Tryz.func141, Tryz.ntmps141
    go_wp2_with fail
    go_ret
    exact ⟨ret_bool (by simp; omega), (by repeat (first | with_reducible exact Below.refl _ _ | with_reducible assumption | ((with_reducible refine Below.setCell ?_ ?_ _); rotate_left; · (first | omega | exact Nat.le_refl _ | (simp <;> omega))) | (with_reducible refine Below.allocW ?_ _) | (with_reducible refine Below.drew ?_) | (with_reducible refine Below.extW ?_ _)))⟩
theorem log2_half {x : Nat} (h : 2 ≤ x) : x.log2 = (x / 2).log2 + 1 := by
  conv => lhs; rw [Nat.log2_def]
  rw [if_pos h]
theorem depth_V (x : Nat) (hx : 1 ≤ x) : (if 1 ≤ (x : Int) then Value.tuple #[.int .i64 (x : Int).toNat.log2, .bool true] else Value.tuple #[.int .i64 0, .bool false]) = .tuple #[.int .i64 x.log2, .bool true] := by
  rw [if_pos (by omega), Int.toNat_natCast]
theorem ref2_Depth (w : World) (n : Int) (hn : n ≤ 9223372036854775807) : Calls Tryz.prog 160 #[.int .i64 n] w fun e w' =>
    e = .returned (if 1 ≤ n then .tuple #[.int .i64 n.toNat.log2, .bool true] else .tuple #[.int .i64 0, .bool false]) ∧ Below w.heap.size w w' := by
  by_cases h1 : 1 ≤ n
  · obtain ⟨x, rfl⟩ := Int.eq_ofNat_of_zero_le (show 0 ≤ n by omega)
    rw [depth_V x (by omega)]
    have hl : x.log2 < 64 := (Nat.log2_lt (by omega)).2 (by omega)
    go_enter Tryz.func160, Tryz.ntmps160
    go_wp2_with fail
    go_loop [0, 4] (fun a d => ∃ y j : Nat, 1 ≤ y ∧ y ≤ x ∧ a = .int .i64 y ∧ d = .int .i64 j ∧ j + y.log2 = x.log2) (fun a _ => (intOf a).toNat)
    case atStart => exact ⟨x, 0, by omega, Nat.le_refl _, rfl, rfl, by omega⟩
    case round =>
      obtain ⟨y, j, hy, hyx, rfl, rfl, hj⟩ := hrel
      by_cases h2 : 2 ≤ y
      · have HL := Lib.hid (log2_half h2)
        have h3 : (1 : Int) < (y : Int) := by omega
        have hj2 : j < 64 := by omega
        go_wp2_with fail
        go_round
        case rel => exact ⟨y / 2, j + 1, by omega, by omega, by go_num, by go_num, by have := HL.out; omega⟩
        case measure => simp [intOf]; omega
      · obtain rfl : y = 1 := by omega
        have e0 : (1 : Nat).log2 = 0 := by decide
        obtain rfl : j = x.log2 := by omega
        clear e0 hj
        go_wp2_with fail
        go_ret2
        exact ⟨rfl, (by repeat (first | with_reducible exact Below.refl _ _ | with_reducible assumption | ((with_reducible refine Below.setCell ?_ ?_ _); rotate_left; · (first | omega | exact Nat.le_refl _ | (simp <;> omega))) | (with_reducible refine Below.allocW ?_ _) | (with_reducible refine Below.drew ?_) | (with_reducible refine Below.extW ?_ _)))⟩
  · rw [if_neg h1]
    go_enter Tryz.func160, Tryz.ntmps160
    go_wp2_with fail
    go_ret2
    exact ⟨rfl, (by repeat (first | with_reducible exact Below.refl _ _ | with_reducible assumption | ((with_reducible refine Below.setCell ?_ ?_ _); rotate_left; · (first | omega | exact Nat.le_refl _ | (simp <;> omega))) | (with_reducible refine Below.allocW ?_ _) | (with_reducible refine Below.drew ?_) | (with_reducible refine Below.extW ?_ _)))⟩
theorem isNode_log {l : Int} {x : Nat} (hx : 1 ≤ x) : isNode l x = (decide (1 ≤ l ∧ l ≤ 48) && decide ((x.log2 : Int) ≤ l)) := by
  simp only [isNode]
  rw [Bool.eq_iff_iff]
  simp only [decide_eq_true_eq, Bool.and_eq_true]
  constructor
  · rintro ⟨h1, h2, h3⟩
    refine ⟨h1, ?_⟩
    obtain ⟨n, rfl⟩ := Int.eq_ofNat_of_zero_le (show 0 ≤ l by omega)
    have h4 : x < 2 ^ (n + 1) := by
      have : ((2 ^ (n + 1) : Nat) : Int) = 2 * 2 ^ n := by rw [Nat.pow_succ]; simp; omega
      simp only [Int.toNat_natCast] at h3
      omega
    have := (Nat.log2_lt (by omega)).2 h4
    omega
  · rintro ⟨h1, h2⟩
    obtain ⟨n, rfl⟩ := Int.eq_ofNat_of_zero_le (show 0 ≤ l by omega)
    have h4 : x < 2 ^ (n + 1) := (Nat.log2_lt (by omega)).1 (by omega)
    have : ((2 ^ (n + 1) : Nat) : Int) = 2 * 2 ^ n := by rw [Nat.pow_succ]; simp; omega
    refine ⟨h1, by omega, ?_⟩
    simp only [Int.toNat_natCast]
    omega
theorem ref2_Right (w : World) (l id : Int) (hid : id ≤ 9223372036854775807) : Calls Tryz.prog 159 #[.int .i64 l, .int .i64 id] w fun e w' => e = .returned (.bool (isNode l id)) ∧ Below w.heap.size w w' := by
  by_cases h1 : 1 ≤ id
  · obtain ⟨x, rfl⟩ := Int.eq_ofNat_of_zero_le (show 0 ≤ id by omega)
    have HN := Lib.hid (isNode_log (l := l) (x := x) (by omega))
    cases h2 : decide (1 ≤ l ∧ l ≤ 48)
    · rw [h2] at HN
      have H2 := Lib.hid h2
      clear h2
      go_enter Tryz.func159, Tryz.ntmps159
      go_wp2_with fail
      refine (ref2_Depth _ x hid).mono ?_
      rintro e w1 ⟨rfl, hb1⟩
      have B1 : Below w.heap.size w w1 := Below.then_ (by repeat (first | with_reducible exact Below.refl _ _ | with_reducible assumption | ((with_reducible refine Below.setCell ?_ ?_ _); rotate_left; · (first | omega | exact Nat.le_refl _ | (simp <;> omega))) | (with_reducible refine Below.allocW ?_ _) | (with_reducible refine Below.drew ?_) | (with_reducible refine Below.extW ?_ _))) hb1
      have s1 : w.heap.size ≤ w1.heap.size := B1.size
      rw [depth_V x (by omega)]
      go_wp2_with fail
      refine (ref2_Is _ l).mono ?_
      rintro e w2 ⟨rfl, hb2⟩
      have B2 : Below w.heap.size w w2 := Below.then_ (by repeat (first | with_reducible exact Below.refl _ _ | with_reducible assumption | ((with_reducible refine Below.setCell ?_ ?_ _); rotate_left; · (first | omega | exact Nat.le_refl _ | (simp <;> omega))) | (with_reducible refine Below.allocW ?_ _) | (with_reducible refine Below.drew ?_) | (with_reducible refine Below.extW ?_ _))) hb2
      have s2 : w.heap.size ≤ w2.heap.size := B2.size
      rw [H2.out]
      go_wp2_with fail
      go_ret
      exact ⟨ret_bool (by rw [HN.out]; rfl), (by repeat (first | with_reducible exact Below.refl _ _ | with_reducible assumption | ((with_reducible refine Below.setCell ?_ ?_ _); rotate_left; · (first | omega | exact Nat.le_refl _ | (simp <;> omega))) | (with_reducible refine Below.allocW ?_ _) | (with_reducible refine Below.drew ?_) | (with_reducible refine Below.extW ?_ _)))⟩
    · rw [h2] at HN
      have H2 := Lib.hid h2
      clear h2
      go_enter Tryz.func159, Tryz.ntmps159
      go_wp2_with fail
      refine (ref2_Depth _ x hid).mono ?_
      rintro e w1 ⟨rfl, hb1⟩
      have B1 : Below w.heap.size w w1 := Below.then_ (by repeat (first | with_reducible exact Below.refl _ _ | with_reducible assumption | ((with_reducible refine Below.setCell ?_ ?_ _); rotate_left; · (first | omega | exact Nat.le_refl _ | (simp <;> omega))) | (with_reducible refine Below.allocW ?_ _) | (with_reducible refine Below.drew ?_) | (with_reducible refine Below.extW ?_ _))) hb1
      have s1 : w.heap.size ≤ w1.heap.size := B1.size
      rw [depth_V x (by omega)]
      go_wp2_with fail
      refine (ref2_Is _ l).mono ?_
      rintro e w2 ⟨rfl, hb2⟩
      have B2 : Below w.heap.size w w2 := Below.then_ (by repeat (first | with_reducible exact Below.refl _ _ | with_reducible assumption | ((with_reducible refine Below.setCell ?_ ?_ _); rotate_left; · (first | omega | exact Nat.le_refl _ | (simp <;> omega))) | (with_reducible refine Below.allocW ?_ _) | (with_reducible refine Below.drew ?_) | (with_reducible refine Below.extW ?_ _))) hb2
      have s2 : w.heap.size ≤ w2.heap.size := B2.size
      rw [H2.out]
      go_wp2_with fail
      go_ret
      exact ⟨ret_bool (by rw [HN.out]; rfl), (by repeat (first | with_reducible exact Below.refl _ _ | with_reducible assumption | ((with_reducible refine Below.setCell ?_ ?_ _); rotate_left; · (first | omega | exact Nat.le_refl _ | (simp <;> omega))) | (with_reducible refine Below.allocW ?_ _) | (with_reducible refine Below.drew ?_) | (with_reducible refine Below.extW ?_ _)))⟩
  · have e0 : isNode l id = false := by simp [isNode, h1]
    rw [e0]
    have e1 : (if 1 ≤ id then Value.tuple #[.int .i64 id.toNat.log2, .bool true] else Value.tuple #[.int .i64 0, .bool false]) = .tuple #[.int .i64 0, .bool false] := if_neg h1
    have E1 := Lib.hid e1
    clear e0 e1
    cases h2 : decide (1 ≤ l ∧ l ≤ 48)
    all_goals
      have H2 := Lib.hid h2
      clear h2
      go_enter Tryz.func159, Tryz.ntmps159
      go_wp2_with fail
      refine (ref2_Depth _ id hid).mono ?_
      rintro e w1 ⟨rfl, hb1⟩
      have B1 : Below w.heap.size w w1 := Below.then_ (by repeat (first | with_reducible exact Below.refl _ _ | with_reducible assumption | ((with_reducible refine Below.setCell ?_ ?_ _); rotate_left; · (first | omega | exact Nat.le_refl _ | (simp <;> omega))) | (with_reducible refine Below.allocW ?_ _) | (with_reducible refine Below.drew ?_) | (with_reducible refine Below.extW ?_ _))) hb1
      have s1 : w.heap.size ≤ w1.heap.size := B1.size
      rw [E1.out]
      go_wp2_with fail
      refine (ref2_Is _ l).mono ?_
      rintro e w2 ⟨rfl, hb2⟩
      have B2 : Below w.heap.size w w2 := Below.then_ (by repeat (first | with_reducible exact Below.refl _ _ | with_reducible assumption | ((with_reducible refine Below.setCell ?_ ?_ _); rotate_left; · (first | omega | exact Nat.le_refl _ | (simp <;> omega))) | (with_reducible refine Below.allocW ?_ _) | (with_reducible refine Below.drew ?_) | (with_reducible refine Below.extW ?_ _))) hb2
      have s2 : w.heap.size ≤ w2.heap.size := B2.size
      rw [H2.out]
      go_wp2_with fail
      go_ret
      exact ⟨rfl, (by repeat (first | with_reducible exact Below.refl _ _ | with_reducible assumption | ((with_reducible refine Below.setCell ?_ ?_ _); rotate_left; · (first | omega | exact Nat.le_refl _ | (simp <;> omega))) | (with_reducible refine Below.allocW ?_ _) | (with_reducible refine Below.drew ?_) | (with_reducible refine Below.extW ?_ _)))⟩
theorem kidsOf_log {l x : Nat} (hN : isNode l x = true) : kidsOf l x = if x.log2 = l then (0, 0, false) else (2 * (x : Int), 2 * (x : Int) + 1, true) := by
  have h1 := hN
  rw [isNode_log (by simp only [isNode, decide_eq_true_eq] at hN; omega)] at h1
  simp only [Bool.and_eq_true, decide_eq_true_eq] at h1
  have hx : 1 ≤ x := by simp only [isNode, decide_eq_true_eq] at hN; omega
  simp only [kidsOf, hN, true_and, Int.toNat_natCast]
  by_cases h2 : x.log2 = l
  · rw [if_pos h2, if_neg]
    have := Nat.log2_self_le (show x ≠ 0 by omega)
    rw [h2] at this
    intro h3
    have h4 : ((2 ^ l : Nat) : Int) = 2 ^ l := by simp
    omega
  · rw [if_neg h2, if_pos]
    have := (Nat.log2_lt (n := x) (k := l) (by omega)).1 (by omega)
    have h4 : ((2 ^ l : Nat) : Int) = 2 ^ l := by simp
    omega
theorem ref2_Kids (w : World) (l id : Int) (hid : id ≤ 9223372036854775807) : Calls Tryz.prog 202 #[.int .i64 l, .int .i64 id] w fun e w' => e = .returned (endsV (kidsOf l id)) ∧ Below w.heap.size w w' := by
  cases hN : isNode l id
  · have e1 : kidsOf l id = (0, 0, false) := by simp [kidsOf, hN]
    rw [e1]
    have HN := Lib.hid hN
    clear hN e1
    by_cases h1 : 1 ≤ id
    · obtain ⟨x, rfl⟩ := Int.eq_ofNat_of_zero_le (show 0 ≤ id by omega)
      go_enter Tryz.func202, Tryz.ntmps202
      go_wp2_with fail
      refine (ref2_Depth _ x hid).mono ?_
      rintro e w1 ⟨rfl, hb1⟩
      have B1 : Below w.heap.size w w1 := Below.then_ (by repeat (first | with_reducible exact Below.refl _ _ | with_reducible assumption | ((with_reducible refine Below.setCell ?_ ?_ _); rotate_left; · (first | omega | exact Nat.le_refl _ | (simp <;> omega))) | (with_reducible refine Below.allocW ?_ _) | (with_reducible refine Below.drew ?_) | (with_reducible refine Below.extW ?_ _))) hb1
      have s1 : w.heap.size ≤ w1.heap.size := B1.size
      rw [depth_V x (by omega)]
      go_wp2_with fail
      refine (ref2_Right _ l x hid).mono ?_
      rintro e w2 ⟨rfl, hb2⟩
      have B2 : Below w.heap.size w w2 := Below.then_ (by repeat (first | with_reducible exact Below.refl _ _ | with_reducible assumption | ((with_reducible refine Below.setCell ?_ ?_ _); rotate_left; · (first | omega | exact Nat.le_refl _ | (simp <;> omega))) | (with_reducible refine Below.allocW ?_ _) | (with_reducible refine Below.drew ?_) | (with_reducible refine Below.extW ?_ _))) hb2
      have s2 : w.heap.size ≤ w2.heap.size := B2.size
      rw [HN.out]
      go_wp2_with fail
      go_ret3
      exact ⟨rfl, (by repeat (first | with_reducible exact Below.refl _ _ | with_reducible assumption | ((with_reducible refine Below.setCell ?_ ?_ _); rotate_left; · (first | omega | exact Nat.le_refl _ | (simp <;> omega))) | (with_reducible refine Below.allocW ?_ _) | (with_reducible refine Below.drew ?_) | (with_reducible refine Below.extW ?_ _)))⟩
    · have E1 := Lib.hid (show (if 1 ≤ id then Value.tuple #[.int .i64 id.toNat.log2, .bool true] else Value.tuple #[.int .i64 0, .bool false]) = .tuple #[.int .i64 0, .bool false] from if_neg h1)
      go_enter Tryz.func202, Tryz.ntmps202
      go_wp2_with fail
      refine (ref2_Depth _ id hid).mono ?_
      rintro e w1 ⟨rfl, hb1⟩
      have B1 : Below w.heap.size w w1 := Below.then_ (by repeat (first | with_reducible exact Below.refl _ _ | with_reducible assumption | ((with_reducible refine Below.setCell ?_ ?_ _); rotate_left; · (first | omega | exact Nat.le_refl _ | (simp <;> omega))) | (with_reducible refine Below.allocW ?_ _) | (with_reducible refine Below.drew ?_) | (with_reducible refine Below.extW ?_ _))) hb1
      have s1 : w.heap.size ≤ w1.heap.size := B1.size
      rw [E1.out]
      go_wp2_with fail
      refine (ref2_Right _ l id hid).mono ?_
      rintro e w2 ⟨rfl, hb2⟩
      have B2 : Below w.heap.size w w2 := Below.then_ (by repeat (first | with_reducible exact Below.refl _ _ | with_reducible assumption | ((with_reducible refine Below.setCell ?_ ?_ _); rotate_left; · (first | omega | exact Nat.le_refl _ | (simp <;> omega))) | (with_reducible refine Below.allocW ?_ _) | (with_reducible refine Below.drew ?_) | (with_reducible refine Below.extW ?_ _))) hb2
      have s2 : w.heap.size ≤ w2.heap.size := B2.size
      rw [HN.out]
      go_wp2_with fail
      go_ret3
      exact ⟨rfl, (by repeat (first | with_reducible exact Below.refl _ _ | with_reducible assumption | ((with_reducible refine Below.setCell ?_ ?_ _); rotate_left; · (first | omega | exact Nat.le_refl _ | (simp <;> omega))) | (with_reducible refine Below.allocW ?_ _) | (with_reducible refine Below.drew ?_) | (with_reducible refine Below.extW ?_ _)))⟩
  · obtain ⟨n, x, rfl, rfl, hn1, hn2, hx1, hx2⟩ := isNode_nat hN
    have HK := Lib.hid (kidsOf_log hN)
    have HN := Lib.hid hN
    have q5 := pow_48 (n := n) hn2
    have q7 : (x : Int) ≤ 562949953421312 := by omega
    clear hN hx2
    by_cases h2 : x.log2 = n
    · have h3 : ((x.log2 : Int) == (n : Int)) = true := by simp [h2]
      have HK2 := Lib.hid (show kidsOf n x = (0, 0, false) by rw [HK.out, if_pos h2])
      clear h2
      go_enter Tryz.func202, Tryz.ntmps202
      go_wp2_with fail
      refine (ref2_Depth _ x hid).mono ?_
      rintro e w1 ⟨rfl, hb1⟩
      have B1 : Below w.heap.size w w1 := Below.then_ (by repeat (first | with_reducible exact Below.refl _ _ | with_reducible assumption | ((with_reducible refine Below.setCell ?_ ?_ _); rotate_left; · (first | omega | exact Nat.le_refl _ | (simp <;> omega))) | (with_reducible refine Below.allocW ?_ _) | (with_reducible refine Below.drew ?_) | (with_reducible refine Below.extW ?_ _))) hb1
      have s1 : w.heap.size ≤ w1.heap.size := B1.size
      rw [depth_V x (by omega)]
      go_wp2_with fail
      refine (ref2_Right _ n x hid).mono ?_
      rintro e w2 ⟨rfl, hb2⟩
      have B2 : Below w.heap.size w w2 := Below.then_ (by repeat (first | with_reducible exact Below.refl _ _ | with_reducible assumption | ((with_reducible refine Below.setCell ?_ ?_ _); rotate_left; · (first | omega | exact Nat.le_refl _ | (simp <;> omega))) | (with_reducible refine Below.allocW ?_ _) | (with_reducible refine Below.drew ?_) | (with_reducible refine Below.extW ?_ _))) hb2
      have s2 : w.heap.size ≤ w2.heap.size := B2.size
      rw [HN.out]
      go_wp2_with fail
      go_ret3
      exact ⟨by rw [HK2.out]; rfl, (by repeat (first | with_reducible exact Below.refl _ _ | with_reducible assumption | ((with_reducible refine Below.setCell ?_ ?_ _); rotate_left; · (first | omega | exact Nat.le_refl _ | (simp <;> omega))) | (with_reducible refine Below.allocW ?_ _) | (with_reducible refine Below.drew ?_) | (with_reducible refine Below.extW ?_ _)))⟩
    · have h3 : ((x.log2 : Int) == (n : Int)) = false := by simp; omega
      have HK2 := Lib.hid (show kidsOf n x = (2 * (x : Int), 2 * (x : Int) + 1, true) by rw [HK.out, if_neg h2])
      clear h2
      go_enter Tryz.func202, Tryz.ntmps202
      go_wp2_with fail
      refine (ref2_Depth _ x hid).mono ?_
      rintro e w1 ⟨rfl, hb1⟩
      have B1 : Below w.heap.size w w1 := Below.then_ (by repeat (first | with_reducible exact Below.refl _ _ | with_reducible assumption | ((with_reducible refine Below.setCell ?_ ?_ _); rotate_left; · (first | omega | exact Nat.le_refl _ | (simp <;> omega))) | (with_reducible refine Below.allocW ?_ _) | (with_reducible refine Below.drew ?_) | (with_reducible refine Below.extW ?_ _))) hb1
      have s1 : w.heap.size ≤ w1.heap.size := B1.size
      rw [depth_V x (by omega)]
      go_wp2_with fail
      refine (ref2_Right _ n x hid).mono ?_
      rintro e w2 ⟨rfl, hb2⟩
      have B2 : Below w.heap.size w w2 := Below.then_ (by repeat (first | with_reducible exact Below.refl _ _ | with_reducible assumption | ((with_reducible refine Below.setCell ?_ ?_ _); rotate_left; · (first | omega | exact Nat.le_refl _ | (simp <;> omega))) | (with_reducible refine Below.allocW ?_ _) | (with_reducible refine Below.drew ?_) | (with_reducible refine Below.extW ?_ _))) hb2
      have s2 : w.heap.size ≤ w2.heap.size := B2.size
      rw [HN.out]
      go_wp2_with fail
      go_ret3
      exact ⟨by rw [HK2.out]; rfl, (by repeat (first | with_reducible exact Below.refl _ _ | with_reducible assumption | ((with_reducible refine Below.setCell ?_ ?_ _); rotate_left; · (first | omega | exact Nat.le_refl _ | (simp <;> omega))) | (with_reducible refine Below.allocW ?_ _) | (with_reducible refine Below.drew ?_) | (with_reducible refine Below.extW ?_ _)))⟩
theorem ref2_Power (w : World) (n : Nat) (hn : n ≤ 62) : Calls Tryz.prog 142 #[.int .i64 n] w fun e w' => e = .returned (.int .i64 (2 ^ n)) ∧ Below w.heap.size w w' := by
  go_enter Tryz.func142, Tryz.ntmps142
  go_wp2_with fail
  go_loop [3, 4] (fun p i => ∃ j q : Nat, j ≤ n ∧ i = .int .i64 j ∧ p = .int .i64 q ∧ q = 2 ^ j) (fun _ i => n - (intOf i).toNat)
  case atStart => exact ⟨0, 1, by omega, rfl, rfl, rfl⟩
  case round =>
    obtain ⟨j, q, hj, rfl, rfl, hq⟩ := hrel
    by_cases hlt : j < n
    · have h1 : 2 ^ j ≤ 2 ^ 61 := Nat.pow_le_pow_right (by decide) (by omega)
      have h2 : q ≤ 2305843009213693952 := by rw [hq]; simpa using h1
      have HQ := Lib.hid hq
      clear hq h1
      go_wp2_with fail
      go_round
      case rel => exact ⟨j + 1, 2 * q, by omega, by go_num, by go_num, by rw [HQ.out, Nat.pow_succ, Nat.mul_comm]⟩
      case measure => simp [intOf]; omega
    · obtain rfl : j = n := by omega
      have HQ := Lib.hid hq
      clear hq
      go_wp2_with fail
      go_ret
      exact ⟨ret_int (by rw [HQ.out]; simp), (by repeat (first | with_reducible exact Below.refl _ _ | with_reducible assumption | ((with_reducible refine Below.setCell ?_ ?_ _); rotate_left; · (first | omega | exact Nat.le_refl _ | (simp <;> omega))) | (with_reducible refine Below.allocW ?_ _) | (with_reducible refine Below.drew ?_) | (with_reducible refine Below.extW ?_ _)))⟩

/-- The end of the way down. -/
theorem ends_way {n x d b t j lo hi : Nat} (hn : n ≤ 48) (hdb : d + b = n) (hxt : x = 2 ^ d + t) (htd : t < 2 ^ d) (hj : d + j ≤ n) (hlo : lo = x * 2 ^ j) (hhi : hi + 1 = (x + 1) * 2 ^ j) : hi + 1 ≤ 562949953421312 ∧ lo ≤ hi := by
  have h1 : (x + 1) ≤ 2 * 2 ^ d := by omega
  have h2 : (x + 1) * 2 ^ j ≤ 2 * 2 ^ d * 2 ^ j := Nat.mul_le_mul_right _ h1
  have h3 : 2 ^ d * 2 ^ j = 2 ^ (d + j) := (Nat.pow_add 2 d j).symm
  have h4 : 2 ^ (d + j) ≤ 2 ^ 48 := Nat.pow_le_pow_right (by decide) (by omega)
  rw [Nat.mul_assoc, h3] at h2
  have h5 : x * 2 ^ j + 1 ≤ (x + 1) * 2 ^ j := by rw [Nat.add_mul]; have := Nat.two_pow_pos j; omega
  omega
theorem ends_fin {n x d b t j lo hi : Nat} (hdb : d + b = n) (hxt : x = 2 ^ d + t) (hj : d + j = n) (hlo : lo = x * 2 ^ j) (hhi : hi + 1 = (x + 1) * 2 ^ j) :
    (lo : Int) - 2 ^ n = (t : Int) * 2 ^ b ∧ (hi : Int) - 2 ^ n = (t : Int) * 2 ^ b + 2 ^ b - 1 := by
  obtain rfl : j = b := by omega
  have h3 : 2 ^ d * 2 ^ j = 2 ^ n := by rw [← Nat.pow_add, hdb]
  have e1 : lo = 2 ^ n + t * 2 ^ j := by rw [hlo, hxt, Nat.add_mul, h3]
  have e2 : hi + 1 = 2 ^ n + t * 2 ^ j + 2 ^ j := by rw [hhi, hxt, Nat.add_mul, Nat.add_mul, h3]; omega
  have p1 : ((2 ^ n : Nat) : Int) = 2 ^ n := by simp
  have p2 : ((2 ^ j : Nat) : Int) = 2 ^ j := by simp
  have p3 : ((t * 2 ^ j : Nat) : Int) = (t : Int) * 2 ^ j := by simp
  omega
theorem ret_ends {a b c d : Int} {t : Bool} (h1 : a = c) (h2 : b = d) : Ending.returned (.tuple #[.int .i64 a, .int .i64 b, .bool t]) = .returned (endsV (c, d, t)) := by rw [h1, h2]; rfl
set_option maxRecDepth 100000 in
theorem ref2_Ends (w : World) (l id : Int) (hid : id ≤ 9223372036854775807) : Calls Tryz.prog 83 #[.int .i64 l, .int .i64 id] w fun e w' => e = .returned (endsV (endsOf l id)) ∧ Below w.heap.size w w' := by
  cases hN : isNode l id
  · have e1 : endsOf l id = (0, 0, false) := by simp [endsOf, hN]
    rw [e1]
    have HN := Lib.hid hN
    clear hN e1
    go_enter Tryz.func83, Tryz.ntmps83
    go_wp2_with fail
    refine (ref2_Right _ l id hid).mono ?_
    rintro e w1 ⟨rfl, hb1⟩
    have B1 : Below w.heap.size w w1 := Below.then_ (by repeat (first | with_reducible exact Below.refl _ _ | with_reducible assumption | ((with_reducible refine Below.setCell ?_ ?_ _); rotate_left; · (first | omega | exact Nat.le_refl _ | (simp <;> omega))) | (with_reducible refine Below.allocW ?_ _) | (with_reducible refine Below.drew ?_) | (with_reducible refine Below.extW ?_ _))) hb1
    have s1 : w.heap.size ≤ w1.heap.size := B1.size
    rw [HN.out]
    go_wp2_with fail
    go_ret3
    exact ⟨rfl, (by repeat (first | with_reducible exact Below.refl _ _ | with_reducible assumption | ((with_reducible refine Below.setCell ?_ ?_ _); rotate_left; · (first | omega | exact Nat.le_refl _ | (simp <;> omega))) | (with_reducible refine Below.allocW ?_ _) | (with_reducible refine Below.drew ?_) | (with_reducible refine Below.extW ?_ _)))⟩
  · obtain ⟨n, x, rfl, rfl, hn1, hn2, hx1, hx2⟩ := isNode_nat hN
    obtain ⟨d, b, t, hd, hb, hdb, hxt, htd, hprod⟩ := node_facts hn2 hx1 hx2
    have e1 : endsOf n x = ((t : Int) * 2 ^ b, (t : Int) * 2 ^ b + 2 ^ b - 1, true) := by
      simp only [endsOf, hN, if_true, Int.toNat_natCast, hd, hb]
      have : (x : Int) - 2 ^ d = t := by rw [hxt]; push_cast; omega
      rw [this]
    rw [e1]
    have HN := Lib.hid hN
    have HD := Lib.hid hd
    have HW := Lib.hid (And.intro hdb (And.intro hxt htd))
    have hdn : d ≤ n := by omega
    have q5 := pow_48 (n := n) hn2
    have q6 := pow_pos' n
    clear e1 hN hd hb hdb hxt htd hprod hx2
    go_enter Tryz.func83, Tryz.ntmps83
    go_wp2_with fail
    refine (ref2_Right _ n x hid).mono ?_
    rintro e w1 ⟨rfl, hb1⟩
    have B1 : Below w.heap.size w w1 := Below.then_ (by repeat (first | with_reducible exact Below.refl _ _ | with_reducible assumption | ((with_reducible refine Below.setCell ?_ ?_ _); rotate_left; · (first | omega | exact Nat.le_refl _ | (simp <;> omega))) | (with_reducible refine Below.allocW ?_ _) | (with_reducible refine Below.drew ?_) | (with_reducible refine Below.extW ?_ _))) hb1
    have s1 : w.heap.size ≤ w1.heap.size := B1.size
    rw [HN.out]
    go_wp2_with fail
    refine (ref2_Depth _ x hid).mono ?_
    rintro e w2 ⟨rfl, hb2⟩
    have B2 : Below w.heap.size w w2 := Below.then_ (by repeat (first | with_reducible exact Below.refl _ _ | with_reducible assumption | ((with_reducible refine Below.setCell ?_ ?_ _); rotate_left; · (first | omega | exact Nat.le_refl _ | (simp <;> omega))) | (with_reducible refine Below.allocW ?_ _) | (with_reducible refine Below.drew ?_) | (with_reducible refine Below.extW ?_ _))) hb2
    have s2 : w.heap.size ≤ w2.heap.size := B2.size
    rw [depth_V x hx1, HD.out]
    go_wp2_with fail
    go_loop [7, 8, 9] (fun p q e => ∃ j lo hi : Nat, d + j ≤ n ∧ e = .int .i64 (d + j : Nat) ∧ p = .int .i64 lo ∧ q = .int .i64 hi ∧ lo = x * 2 ^ j ∧ hi + 1 = (x + 1) * 2 ^ j) (fun _ _ e => n - (intOf e).toNat)
    case atStart => exact ⟨0, x, x, by omega, rfl, rfl, rfl, by simp, by simp⟩
    case round =>
      obtain ⟨j, lo, hi, hj, rfl, rfl, rfl, hlo, hhi⟩ := hrel
      have hb := ends_way hn2 HW.out.1 HW.out.2.1 HW.out.2.2 hj hlo hhi
      have HLo := Lib.hid hlo
      have HHi := Lib.hid hhi
      have hb1 := hb.1
      have hb2 := hb.2
      clear hlo hhi hb
      obtain ⟨e, he⟩ : ∃ e, e = d + j := ⟨_, rfl⟩
      rw [← he] at hj ⊢
      have HE := Lib.hid he
      clear he
      by_cases hlt : e < n
      · go_wp2_with fail
        go_round
        case rel => exact ⟨j + 1, 2 * lo, 2 * hi + 1, by have := HE.out; omega, by rw [HE.out]; go_num, by go_num, by go_num, by rw [HLo.out, Nat.pow_succ, Nat.mul_comm 2, Nat.mul_assoc], by have := HHi.out; rw [Nat.pow_succ, ← Nat.mul_assoc, ← this]; omega⟩
        case measure => simp [intOf]; omega
      · obtain rfl : e = n := by omega
        have HF := Lib.hid (ends_fin (t := t) HW.out.1 HW.out.2.1 HE.out.symm HLo.out HHi.out)
        go_wp2_with fail
        refine (ref2_Power _ e (by omega)).mono ?_
        rintro e w3 ⟨rfl, hb3⟩
        have B3 : Below w.heap.size w w3 := Below.then_ (by repeat (first | with_reducible exact Below.refl _ _ | with_reducible assumption | ((with_reducible refine Below.setCell ?_ ?_ _); rotate_left; · (first | omega | exact Nat.le_refl _ | (simp <;> omega))) | (with_reducible refine Below.allocW ?_ _) | (with_reducible refine Below.drew ?_) | (with_reducible refine Below.extW ?_ _))) hb3
        have s3 : w.heap.size ≤ w3.heap.size := B3.size
        go_wp2_with fail
        refine (ref2_Power _ e (by omega)).mono ?_
        rintro e w4 ⟨rfl, hb4⟩
        have B4 : Below w.heap.size w w4 := Below.then_ (by repeat (first | with_reducible exact Below.refl _ _ | with_reducible assumption | ((with_reducible refine Below.setCell ?_ ?_ _); rotate_left; · (first | omega | exact Nat.le_refl _ | (simp <;> omega))) | (with_reducible refine Below.allocW ?_ _) | (with_reducible refine Below.drew ?_) | (with_reducible refine Below.extW ?_ _))) hb4
        have s4 : w.heap.size ≤ w4.heap.size := B4.size
        go_wp2_with fail
        go_ret3
        exact ⟨ret_ends HF.out.1 HF.out.2, (by repeat (first | with_reducible exact Below.refl _ _ | with_reducible assumption | ((with_reducible refine Below.setCell ?_ ?_ _); rotate_left; · (first | omega | exact Nat.le_refl _ | (simp <;> omega))) | (with_reducible refine Below.allocW ?_ _) | (with_reducible refine Below.drew ?_) | (with_reducible refine Below.extW ?_ _)))⟩
end Go.Proofs.YtilkfolhglpaoaaGreat
/- The references of layers 6, 7, 9, 11, 12 and 13, as far as Load goes. -/
namespace Go.Proofs.YtilkfolhglpaoaaGreat
open Go.ChangeShapes Go.WideShapes Go.ChangeAt Go.RowKit
set_option linter.unusedVariables false

theorem totalFrom_bad {m : Int} {x : Nd} {l : List Nd} (hm : 0 ≤ m) (h : x.2 < 0 ∨ most - m < x.2) : totalFrom m (x :: l) = (0, false) := by
  simp only [totalFrom]
  rw [if_neg]
  rintro ⟨h1, h2⟩
  unfold addOf at h1 h2
  unfold most at *
  split at h1
  · rename_i hc
    rw [if_pos hc] at h2
    simp only at h2
    omega
  · cases h1
theorem totalFrom_good {m : Int} {x : Nd} {l : List Nd} (hm : 0 ≤ m) (h1 : 0 ≤ x.2) (h2 : x.2 ≤ most - m) : totalFrom m (x :: l) = totalFrom (m + x.2) l := by
  simp only [totalFrom]
  unfold most at h2
  have e : addOf m x.2 = (m + x.2, true) := by unfold addOf; rw [if_pos (by omega)]
  rw [e, if_pos ⟨rfl, by unfold most; simp only; omega⟩]
theorem ref6_Total (w : World) (A : Option Addr) (cap : Nat) (l : List Nd) (hS : Sl w w.heap.size encN A l) (hI : ints l) (hm : l.length ≤ maxLen) :
    Calls Tryz.prog 201 #[.slice A l.length cap] w fun e w' => e = .returned (okV (totalOf l)) ∧ Below w.heap.size w w' := by
  have HS := Lib.hid hS
  have HI := Lib.hid hI
  unfold maxLen at hm
  clear hS hI
  go_enter Tryz.func201, Tryz.ntmps201
  go_wp2_with fail
  go_loop [4, 5] (fun n i => ∃ (k : Nat) (m : Int), k ≤ l.length ∧ i = .int .i64 k ∧ n = .int .i64 m ∧ 0 ≤ m ∧ m ≤ 72057594037927935 ∧ totalOf l = totalFrom m (l.drop k)) (fun _ i => l.length - (intOf i).toNat)
  case atStart => exact ⟨0, 0, by omega, rfl, rfl, by omega, by omega, rfl⟩
  case round =>
    obtain ⟨k, m, hk, rfl, rfl, hm0, hm1, hT⟩ := hrel
    have HT := Lib.hid hT
    clear hT
    by_cases hlt : k < l.length
    · obtain ⟨b, off, rfl, hb, hc⟩ := HS.out.at_ hlt
      have d0 := hc 0 (.int .i64 l[k].1) rfl
      have d1 := hc 1 (.int .i64 l[k].2) rfl
      simp only [Nat.add_zero] at d0
      have hx := (HI.out _ (List.getElem_mem hlt)).2
      have hN := HT.out
      rw [drop_cons hlt] at hN
      obtain ⟨x, hxe⟩ : ∃ x, x = l[k] := ⟨_, rfl⟩
      rw [← hxe] at d0 d1 hx hN
      unfold i64 at hx
      have hx1 := hx.1
      have hx2 := hx.2
      have HN := Lib.hid hN
      clear hc hN hxe hx
      by_cases h1 : x.2 < 0
      · have HF := Lib.hid (HN.out.trans (totalFrom_bad hm0 (.inl h1)))
        go_wp2_with fail
        go_ret2
        exact ⟨by rw [HF.out]; rfl, (by repeat (first | with_reducible exact Below.refl _ _ | with_reducible assumption | ((with_reducible refine Below.setCell ?_ ?_ _); rotate_left; · (first | omega | exact Nat.le_refl _ | (simp <;> omega))) | (with_reducible refine Below.allocW ?_ _) | (with_reducible refine Below.drew ?_) | (with_reducible refine Below.extW ?_ _)))⟩
      · by_cases h2 : 72057594037927935 - m < x.2
        · have HF := Lib.hid (HN.out.trans (totalFrom_bad hm0 (.inr h2)))
          go_wp2_with fail
          go_ret2
          exact ⟨by rw [HF.out]; rfl, (by repeat (first | with_reducible exact Below.refl _ _ | with_reducible assumption | ((with_reducible refine Below.setCell ?_ ?_ _); rotate_left; · (first | omega | exact Nat.le_refl _ | (simp <;> omega))) | (with_reducible refine Below.allocW ?_ _) | (with_reducible refine Below.drew ?_) | (with_reducible refine Below.extW ?_ _)))⟩
        · have HF := Lib.hid (HN.out.trans (totalFrom_good hm0 (by omega) (by unfold most; omega)))
          go_wp2_with fail
          go_round
          case rel => exact ⟨k + 1, m + x.2, by omega, by go_num, rfl, by omega, by omega, HF.out⟩
          case measure => simp [intOf]; omega
    · obtain rfl : k = l.length := by omega
      have HE := Lib.hid (show totalOf l = (m, true) by rw [HT.out, List.drop_length]; rfl)
      go_wp2_with fail
      go_ret2
      exact ⟨by rw [HE.out]; rfl, (by repeat (first | with_reducible exact Below.refl _ _ | with_reducible assumption | ((with_reducible refine Below.setCell ?_ ?_ _); rotate_left; · (first | omega | exact Nat.le_refl _ | (simp <;> omega))) | (with_reducible refine Below.allocW ?_ _) | (with_reducible refine Below.drew ?_) | (with_reducible refine Below.extW ?_ _)))⟩
/-- The number ahead of place k. -/
def lastR (l : List Nd) (k : Nat) : Int := if k = 0 then 0 else (l[k - 1]?.getD (0, 0)).1
theorem rises_step {u : Int} {l : List Nd} {k : Nat} (hk : k < l.length) (hN : isNode u l[k].1 = true) (h1 : 1 ≤ l[k].2) (hl : lastR l k < l[k].1) (hR : risesFrom u 0 l = risesFrom u (lastR l k) (l.drop k)) :
    risesFrom u 0 l = risesFrom u (lastR l (k + 1)) (l.drop (k + 1)) := by
  rw [hR, drop_cons hk]
  simp only [risesFrom, hN, hl, h1, decide_true, Bool.true_and]
  congr 1
  simp [lastR, hk]
theorem rises_bad {u : Int} {l : List Nd} {k : Nat} (hk : k < l.length) (hR : risesFrom u 0 l = risesFrom u (lastR l k) (l.drop k)) (h : isNode u l[k].1 = false ∨ l[k].2 < 1 ∨ l[k].1 ≤ lastR l k) : rightOf u l = false := by
  unfold rightOf
  rw [hR, drop_cons hk]
  simp only [risesFrom]
  rcases h with h | h | h
  · rw [h]; simp
  · have : decide (1 ≤ l[k].2) = false := by simpa using h
    rw [this]; simp
  · have : decide (lastR l k < l[k].1) = false := by simpa using h
    rw [this]; simp
set_option maxRecDepth 100000 in
set_option maxHeartbeats 1000000 in
theorem ref6_Right (w : World) (u : Int) (A : Option Addr) (cap : Nat) (l : List Nd) (hS : Sl w w.heap.size encN A l) (hI : ints l) (hm : l.length ≤ maxLen) :
    Calls Tryz.prog 137 #[.int .i64 u, .slice A l.length cap] w fun e w' => e = .returned (.bool (rightOf u l)) ∧ Below w.heap.size w w' := by
  have HS := Lib.hid hS
  have HI := Lib.hid hI
  have HM := Lib.hid hm
  unfold maxLen at hm
  clear hS hI
  go_enter Tryz.func137, Tryz.ntmps137
  go_wp2_with fail
  go_loopw [5] (fun i wr => ∃ k : Nat, k ≤ l.length ∧ i = .int .i64 k ∧ risesFrom u 0 l = risesFrom u (lastR l k) (l.drop k) ∧ Below w.heap.size w wr) (fun i _ => l.length - (intOf i).toNat)
  case atStart => exact ⟨0, by omega, rfl, rfl, Below.refl _ _⟩
  case round =>
    obtain ⟨k, hk, rfl, hR, hB⟩ := hrel
    have HR := Lib.hid hR
    clear hR
    have hs := hB.size
    by_cases hlt : k < l.length
    · obtain ⟨b, off, rfl, hb, hc⟩ := (HS.out.below hB).at_ hlt
      have d0 := hc 0 (.int .i64 l[k].1) rfl
      have d1 := hc 1 (.int .i64 l[k].2) rfl
      simp only [Nat.add_zero] at d0
      have hx := (HI.out _ (List.getElem_mem hlt)).1
      have HBad := Lib.hid (rises_bad hlt HR.out)
      have HGood := Lib.hid (fun h1 h2 h3 => rises_step hlt h1 h2 h3 HR.out)
      have hzb : b < wr.heap.size := by omega
      have i1 : (k : Int) < (l.length : Int) := by omega
      have hprev : ∀ j, k = j + 1 → ∃ y : Nd, lastR l k = y.1 ∧ wr.cell? ⟨b, off + j * 2, none⟩ = some (.int .i64 y.1) := by
        intro j hj
        subst hj
        have hlj : j < l.length := by omega
        obtain ⟨b', off', hA, _, hc'⟩ := (HS.out.below hB).at_ hlj
        cases hA
        refine ⟨l[j], by simp [lastR, hlj], ?_⟩
        have := hc' 0 (.int .i64 l[j].1) rfl
        simpa using this
      have HP := Lib.hid hprev
      obtain ⟨x, hxe⟩ : ∃ x, x = l[k] := ⟨_, rfl⟩
      rw [← hxe] at d0 d1 hx HBad HGood
      unfold i64 at hx
      have hx2 := hx.2
      clear hc hxe hx hprev
      cases h2 : isNode u x.1
      · have HF := Lib.hid (HBad.out (.inl h2))
        go_wp2_with fail
        refine wp_region_ext (by kernel_rfl) (by kernel_rfl) ?_
        repeat (go_big_quiet_step ((go_at_call 159; exact quiet_ext (ref2_Right _ u x.1 hx2))))
        refine wpQuiet_nil ?_
        intro w1 hb1
        replace hb1 := below_of_ext hb1
        have B1 : Below w.heap.size w w1 := Below.then_ (by repeat (first | with_reducible exact Below.refl _ _ | with_reducible assumption | ((with_reducible refine Below.setCell ?_ ?_ _); rotate_left; · (first | omega | exact Nat.le_refl _ | (simp <;> omega))) | (with_reducible refine Below.allocW ?_ _) | (with_reducible refine Below.drew ?_) | (with_reducible refine Below.extW ?_ _))) hb1
        have s1 : w.heap.size ≤ w1.heap.size := B1.size
        go_wp2_with fail
        go_ret
        exact ⟨ret_bool HF.out.symm, (by repeat (first | with_reducible exact Below.refl _ _ | with_reducible assumption | ((with_reducible refine Below.setCell ?_ ?_ _); rotate_left; · (first | omega | exact Nat.le_refl _ | (simp <;> omega))) | (with_reducible refine Below.allocW ?_ _) | (with_reducible refine Below.drew ?_) | (with_reducible refine Below.extW ?_ _)))⟩
      · by_cases h3 : x.2 < 1
        · have HF := Lib.hid (HBad.out (.inr (.inl h3)))
          go_wp2_with fail
          refine wp_region_ext (by kernel_rfl) (by kernel_rfl) ?_
          repeat (go_big_quiet_step ((go_at_call 159; exact quiet_ext (ref2_Right _ u x.1 hx2))))
          refine wpQuiet_nil ?_
          intro w1 hb1
          replace hb1 := below_of_ext hb1
          have B1 : Below w.heap.size w w1 := Below.then_ (by repeat (first | with_reducible exact Below.refl _ _ | with_reducible assumption | ((with_reducible refine Below.setCell ?_ ?_ _); rotate_left; · (first | omega | exact Nat.le_refl _ | (simp <;> omega))) | (with_reducible refine Below.allocW ?_ _) | (with_reducible refine Below.drew ?_) | (with_reducible refine Below.extW ?_ _))) hb1
          have s1 : w.heap.size ≤ w1.heap.size := B1.size
          go_wp2_with fail
          go_ret
          exact ⟨ret_bool HF.out.symm, (by repeat (first | with_reducible exact Below.refl _ _ | with_reducible assumption | ((with_reducible refine Below.setCell ?_ ?_ _); rotate_left; · (first | omega | exact Nat.le_refl _ | (simp <;> omega))) | (with_reducible refine Below.allocW ?_ _) | (with_reducible refine Below.drew ?_) | (with_reducible refine Below.extW ?_ _)))⟩
        · have h3' : decide (x.2 < 1) = false := by simpa using h3
          rcases k with _ | j
          · have h1' : 1 ≤ x.1 := (isNode_nat h2).elim fun n ⟨m, h⟩ => by omega
            have HF := Lib.hid (HGood.out h2 (by omega) (by simp only [lastR]; simp; omega))
            simp only [Nat.zero_mul, Nat.add_zero, Int.natCast_zero] at d0 d1 i1 ⊢
            go_wp2_with fail
            refine wp_region_ext (by kernel_rfl) (by kernel_rfl) ?_
            repeat (go_big_quiet_step ((go_at_call 159; exact quiet_ext (ref2_Right _ u x.1 hx2))))
            refine wpQuiet_nil ?_
            intro w1 hb1
            replace hb1 := below_of_ext hb1
            have B1 : Below w.heap.size w w1 := Below.then_ (by repeat (first | with_reducible exact Below.refl _ _ | with_reducible assumption | ((with_reducible refine Below.setCell ?_ ?_ _); rotate_left; · (first | omega | exact Nat.le_refl _ | (simp <;> omega))) | (with_reducible refine Below.allocW ?_ _) | (with_reducible refine Below.drew ?_) | (with_reducible refine Below.extW ?_ _))) hb1
            have s1 : w.heap.size ≤ w1.heap.size := B1.size
            go_wp2_with fail
            go_roundw
            case rel => exact ⟨1, by omega, by go_num, HF.out, (by repeat (first | with_reducible exact Below.refl _ _ | with_reducible assumption | ((with_reducible refine Below.setCell ?_ ?_ _); rotate_left; · (first | omega | exact Nat.le_refl _ | (simp <;> omega))) | (with_reducible refine Below.allocW ?_ _) | (with_reducible refine Below.drew ?_) | (with_reducible refine Below.extW ?_ _)))⟩
            case measure => simp [intOf]; omega
          · obtain ⟨y, hy1, hy2⟩ := HP.out j rfl
            have j0 : (0 : Int) ≤ (j : Int) := by omega
            have j1 : (j : Int) < (l.length : Int) := by omega
            by_cases h4 : x.1 ≤ y.1
            · have HF := Lib.hid (HBad.out (.inr (.inr (by omega))))
              have HY := Lib.hid hy1
              clear hy1
              go_wp2_with fail
              refine wp_region_ext (by kernel_rfl) (by kernel_rfl) ?_
              repeat (go_big_quiet_step ((go_at_call 159; exact quiet_ext (ref2_Right _ u x.1 hx2))))
              refine wpQuiet_nil ?_
              intro w1 hb1
              replace hb1 := below_of_ext hb1
              have B1 : Below w.heap.size w w1 := Below.then_ (by repeat (first | with_reducible exact Below.refl _ _ | with_reducible assumption | ((with_reducible refine Below.setCell ?_ ?_ _); rotate_left; · (first | omega | exact Nat.le_refl _ | (simp <;> omega))) | (with_reducible refine Below.allocW ?_ _) | (with_reducible refine Below.drew ?_) | (with_reducible refine Below.extW ?_ _))) hb1
              have s1 : w.heap.size ≤ w1.heap.size := B1.size
              go_wp2_with fail
              go_ret
              exact ⟨ret_bool HF.out.symm, (by repeat (first | with_reducible exact Below.refl _ _ | with_reducible assumption | ((with_reducible refine Below.setCell ?_ ?_ _); rotate_left; · (first | omega | exact Nat.le_refl _ | (simp <;> omega))) | (with_reducible refine Below.allocW ?_ _) | (with_reducible refine Below.drew ?_) | (with_reducible refine Below.extW ?_ _)))⟩
            · have HF := Lib.hid (HGood.out h2 (by omega) (by omega))
              have h4' : decide (x.1 ≤ y.1) = false := by simpa using h4
              have HY := Lib.hid hy1
              clear hy1
              go_wp2_with fail
              refine wp_region_ext (by kernel_rfl) (by kernel_rfl) ?_
              repeat (go_big_quiet_step ((go_at_call 159; exact quiet_ext (ref2_Right _ u x.1 hx2))))
              refine wpQuiet_nil ?_
              intro w1 hb1
              replace hb1 := below_of_ext hb1
              have B1 : Below w.heap.size w w1 := Below.then_ (by repeat (first | with_reducible exact Below.refl _ _ | with_reducible assumption | ((with_reducible refine Below.setCell ?_ ?_ _); rotate_left; · (first | omega | exact Nat.le_refl _ | (simp <;> omega))) | (with_reducible refine Below.allocW ?_ _) | (with_reducible refine Below.drew ?_) | (with_reducible refine Below.extW ?_ _))) hb1
              have s1 : w.heap.size ≤ w1.heap.size := B1.size
              go_wp2_with fail
              go_roundw
              case rel => exact ⟨j + 1 + 1, by omega, by go_num, HF.out, (by repeat (first | with_reducible exact Below.refl _ _ | with_reducible assumption | ((with_reducible refine Below.setCell ?_ ?_ _); rotate_left; · (first | omega | exact Nat.le_refl _ | (simp <;> omega))) | (with_reducible refine Below.allocW ?_ _) | (with_reducible refine Below.drew ?_) | (with_reducible refine Below.extW ?_ _)))⟩
              case measure => simp [intOf]; omega
    · obtain rfl : k = l.length := by omega
      have HE := Lib.hid (show rightOf u l = ((totalOf l).2 && isNode u 1) by unfold rightOf; rw [HR.out, List.drop_length]; simp [risesFrom])
      have HU := Lib.hid (show isNode u 1 = decide (1 ≤ u ∧ u ≤ 48) by
        simp only [isNode]
        rw [Bool.eq_iff_iff]
        simp only [decide_eq_true_eq]
        have := pow_pos' u.toNat
        omega)
      have HC := Lib.hid (ref6_Total · A cap l · HI.out HM.out)
      generalize totalOf l = r at HE HC
      obtain ⟨r1, r2⟩ := r
      go_wp2_with fail
      refine (HC.out _ (HS.out.keep hs fun p hp => hB.cell hp)).mono ?_
      rintro e w1 ⟨rfl, hb1⟩
      have B1 : Below w.heap.size w w1 := Below.then_ (by repeat (first | with_reducible exact Below.refl _ _ | with_reducible assumption | ((with_reducible refine Below.setCell ?_ ?_ _); rotate_left; · (first | omega | exact Nat.le_refl _ | (simp <;> omega))) | (with_reducible refine Below.allocW ?_ _) | (with_reducible refine Below.drew ?_) | (with_reducible refine Below.extW ?_ _))) hb1
      have s1 : w.heap.size ≤ w1.heap.size := B1.size
      unfold okV
      cases r2
      · go_wp2_with fail
        go_ret
        exact ⟨ret_bool HE.out.symm, (by repeat (first | with_reducible exact Below.refl _ _ | with_reducible assumption | ((with_reducible refine Below.setCell ?_ ?_ _); rotate_left; · (first | omega | exact Nat.le_refl _ | (simp <;> omega))) | (with_reducible refine Below.allocW ?_ _) | (with_reducible refine Below.drew ?_) | (with_reducible refine Below.extW ?_ _)))⟩
      · go_wp2_with fail
        refine (ref2_Is _ u).mono ?_
        rintro e w2 ⟨rfl, hb2⟩
        have B2 : Below w.heap.size w w2 := Below.then_ (by repeat (first | with_reducible exact Below.refl _ _ | with_reducible assumption | ((with_reducible refine Below.setCell ?_ ?_ _); rotate_left; · (first | omega | exact Nat.le_refl _ | (simp <;> omega))) | (with_reducible refine Below.allocW ?_ _) | (with_reducible refine Below.drew ?_) | (with_reducible refine Below.extW ?_ _))) hb2
        have s2 : w.heap.size ≤ w2.heap.size := B2.size
        go_wp2_with fail
        go_ret
        exact ⟨ret_bool (by rw [HE.out, HU.out]; simp [Bool.decide_and]), (by repeat (first | with_reducible exact Below.refl _ _ | with_reducible assumption | ((with_reducible refine Below.setCell ?_ ?_ _); rotate_left; · (first | omega | exact Nat.le_refl _ | (simp <;> omega))) | (with_reducible refine Below.allocW ?_ _) | (with_reducible refine Below.drew ?_) | (with_reducible refine Below.extW ?_ _)))⟩

theorem ref7_Total (w : World) (u : Int) (A : Option Addr) (cap : Nat) (l : List Nd) (hS : Sl w w.heap.size encN A l) (hI : ints l) (hm : l.length ≤ maxLen) :
    Calls Tryz.prog 147 #[.agg #[.int .i64 u, .slice A l.length cap]] w fun e w' => e = .returned (.int .i64 (totalOf l).1) ∧ Below w.heap.size w w' := by
  have HC := Lib.hid (ref6_Total · A cap l · hI hm)
  have HS := Lib.hid hS
  clear hS hI hm
  go_enter Tryz.func147, Tryz.ntmps147
  go_wp2_with fail
  refine (HC.out _ (HS.out.keep (by simp) fun p hp => ((Below.refl w.heap.size w).alloc (Nat.le_refl _) _).cell hp)).mono ?_
  rintro e w1 ⟨rfl, hb1⟩
  have B1 : Below w.heap.size w w1 := Below.then_ (by repeat (first | with_reducible exact Below.refl _ _ | with_reducible assumption | ((with_reducible refine Below.setCell ?_ ?_ _); rotate_left; · (first | omega | exact Nat.le_refl _ | (simp <;> omega))) | (with_reducible refine Below.allocW ?_ _) | (with_reducible refine Below.drew ?_) | (with_reducible refine Below.extW ?_ _))) hb1
  have s1 : w.heap.size ≤ w1.heap.size := B1.size
  have z1_0 : w.heap.size < w1.heap.size := by have := hb1.size; (try simp at this); omega
  have y1_0 : w.heap.size ≤ w1.heap.size := Nat.le_of_lt z1_0
  have c1_0 := fun o => hb1.cell (p := ⟨w.heap.size, o, none⟩) (by first | omega | (simp <;> omega))
  have f1_0 := fun o => hb1.frozen (p := ⟨w.heap.size, o, none⟩) (by first | omega | (simp <;> omega))
  unfold okV
  go_wp2_with fail
  go_ret
  exact ⟨rfl, (by repeat (first | with_reducible exact Below.refl _ _ | with_reducible assumption | ((with_reducible refine Below.setCell ?_ ?_ _); rotate_left; · (first | omega | exact Nat.le_refl _ | (simp <;> omega))) | (with_reducible refine Below.allocW ?_ _) | (with_reducible refine Below.drew ?_) | (with_reducible refine Below.extW ?_ _)))⟩
theorem ref9_Is (w : World) (K l : Int) : Calls Tryz.prog 200 #[.int .i64 K, .int .i64 l] w fun e w' => e = .returned (.bool (isPool K l)) ∧ Below w.heap.size w w' := by
  by_cases h1 : K = 1
  · subst h1
    by_cases h2 : 1 ≤ l
    · by_cases h3 : l ≤ 16
      · go_enter Tryz.func200, Tryz.ntmps200
        go_wp2_with fail
        go_ret
        exact ⟨ret_bool (by simp [isPool, h2, h3]), (by repeat (first | with_reducible exact Below.refl _ _ | with_reducible assumption | ((with_reducible refine Below.setCell ?_ ?_ _); rotate_left; · (first | omega | exact Nat.le_refl _ | (simp <;> omega))) | (with_reducible refine Below.allocW ?_ _) | (with_reducible refine Below.drew ?_) | (with_reducible refine Below.extW ?_ _)))⟩
      · have h3' : 16 < l := by omega
        go_enter Tryz.func200, Tryz.ntmps200
        go_wp2_with fail
        go_ret
        exact ⟨ret_bool (by simp [isPool]; omega), (by repeat (first | with_reducible exact Below.refl _ _ | with_reducible assumption | ((with_reducible refine Below.setCell ?_ ?_ _); rotate_left; · (first | omega | exact Nat.le_refl _ | (simp <;> omega))) | (with_reducible refine Below.allocW ?_ _) | (with_reducible refine Below.drew ?_) | (with_reducible refine Below.extW ?_ _)))⟩
    · go_enter Tryz.func200, Tryz.ntmps200
      go_wp2_with fail
      go_ret
      exact ⟨ret_bool (by simp [isPool]; omega), (by repeat (first | with_reducible exact Below.refl _ _ | with_reducible assumption | ((with_reducible refine Below.setCell ?_ ?_ _); rotate_left; · (first | omega | exact Nat.le_refl _ | (simp <;> omega))) | (with_reducible refine Below.allocW ?_ _) | (with_reducible refine Below.drew ?_) | (with_reducible refine Below.extW ?_ _)))⟩
  · have e1 : (K == 1) = false := by simpa using h1
    by_cases h2 : K = 2
    · subst h2
      by_cases h3 : 1 ≤ l
      · go_enter Tryz.func200, Tryz.ntmps200
        go_wp2_with fail
        go_ret
        exact ⟨ret_bool (by simp [isPool, h3]), (by repeat (first | with_reducible exact Below.refl _ _ | with_reducible assumption | ((with_reducible refine Below.setCell ?_ ?_ _); rotate_left; · (first | omega | exact Nat.le_refl _ | (simp <;> omega))) | (with_reducible refine Below.allocW ?_ _) | (with_reducible refine Below.drew ?_) | (with_reducible refine Below.extW ?_ _)))⟩
      · go_enter Tryz.func200, Tryz.ntmps200
        go_wp2_with fail
        go_ret
        exact ⟨ret_bool (by simp [isPool]; omega), (by repeat (first | with_reducible exact Below.refl _ _ | with_reducible assumption | ((with_reducible refine Below.setCell ?_ ?_ _); rotate_left; · (first | omega | exact Nat.le_refl _ | (simp <;> omega))) | (with_reducible refine Below.allocW ?_ _) | (with_reducible refine Below.drew ?_) | (with_reducible refine Below.extW ?_ _)))⟩
    · have e2 : (K == 2) = false := by simpa using h2
      go_enter Tryz.func200, Tryz.ntmps200
      go_wp2_with fail
      go_ret
      exact ⟨ret_bool (by simp [isPool, h1, h2]), (by repeat (first | with_reducible exact Below.refl _ _ | with_reducible assumption | ((with_reducible refine Below.setCell ?_ ?_ _); rotate_left; · (first | omega | exact Nat.le_refl _ | (simp <;> omega))) | (with_reducible refine Below.allocW ?_ _) | (with_reducible refine Below.drew ?_) | (with_reducible refine Below.extW ?_ _)))⟩
theorem ref11_Cap (w : World) (n k : Int) (hn0 : 0 ≤ n) (hn : n ≤ 9223372036854775807) (hk : 1 ≤ k) (hk2 : k ≤ 9223372036854775807) : Calls Tryz.prog 233 #[.int .i64 n, .int .i64 k] w fun e w' => e = .returned (.int .i64 (n / k)) ∧ Below w.heap.size w w' := by
  have q1 : 0 ≤ n / k := Int.ediv_nonneg (by omega) (by omega)
  have q2 : n / k ≤ n := Int.ediv_le_self _ (by omega)
  go_enter Tryz.func233, Tryz.ntmps233
  go_wp2_with fail
  go_ret
  exact ⟨rfl, (by repeat (first | with_reducible exact Below.refl _ _ | with_reducible assumption | ((with_reducible refine Below.setCell ?_ ?_ _); rotate_left; · (first | omega | exact Nat.le_refl _ | (simp <;> omega))) | (with_reducible refine Below.allocW ?_ _) | (with_reducible refine Below.drew ?_) | (with_reducible refine Below.extW ?_ _)))⟩
theorem ref12_Is (w : World) (k : Int) : Calls Tryz.prog 199 #[.int .i64 k] w fun e w' => e = .returned (.bool (decide (1 ≤ k ∧ k ≤ 1048576))) ∧ Below w.heap.size w w' := by
  by_cases h1 : 1 ≤ k
  · go_enter Tryz.func199, Tryz.ntmps199
    go_wp2_with fail
    go_ret
    exact ⟨ret_bool (by simp [h1]), (by repeat (first | with_reducible exact Below.refl _ _ | with_reducible assumption | ((with_reducible refine Below.setCell ?_ ?_ _); rotate_left; · (first | omega | exact Nat.le_refl _ | (simp <;> omega))) | (with_reducible refine Below.allocW ?_ _) | (with_reducible refine Below.drew ?_) | (with_reducible refine Below.extW ?_ _)))⟩
  · go_enter Tryz.func199, Tryz.ntmps199
    go_wp2_with fail
    go_ret
    exact ⟨ret_bool (by simp; omega), (by repeat (first | with_reducible exact Below.refl _ _ | with_reducible assumption | ((with_reducible refine Below.setCell ?_ ?_ _); rotate_left; · (first | omega | exact Nat.le_refl _ | (simp <;> omega))) | (with_reducible refine Below.allocW ?_ _) | (with_reducible refine Below.drew ?_) | (with_reducible refine Below.extW ?_ _)))⟩
theorem ref12_Cap (w : World) (u k : Int) (A : Option Addr) (cap : Nat) (l : List Nd) (hS : Sl w w.heap.size encN A l) (hI : ints l) (hm : l.length ≤ maxLen) (h0 : 0 ≤ (totalOf l).1) (h1 : (totalOf l).1 ≤ 72057594037927935) (hk : 1 ≤ k) (hk2 : k ≤ 1048576) :
    Calls Tryz.prog 203 #[.agg #[.int .i64 u, .slice A l.length cap], .int .i64 k] w fun e w' => e = .returned (.int .i64 ((totalOf l).1 / k)) ∧ Below w.heap.size w w' := by
  have HC := Lib.hid (ref7_Total · u A cap l · hI hm)
  have HS := Lib.hid hS
  clear hS hI hm
  generalize (totalOf l).1 = t at HC h0 h1 ⊢
  go_enter Tryz.func203, Tryz.ntmps203
  go_wp2_with fail
  refine (HC.out _ (HS.out.keep (by simp) fun p hp => ((Below.refl w.heap.size w).alloc (Nat.le_refl _) _).cell hp)).mono ?_
  rintro e w1 ⟨rfl, hb1⟩
  have B1 : Below w.heap.size w w1 := Below.then_ (by repeat (first | with_reducible exact Below.refl _ _ | with_reducible assumption | ((with_reducible refine Below.setCell ?_ ?_ _); rotate_left; · (first | omega | exact Nat.le_refl _ | (simp <;> omega))) | (with_reducible refine Below.allocW ?_ _) | (with_reducible refine Below.drew ?_) | (with_reducible refine Below.extW ?_ _))) hb1
  have s1 : w.heap.size ≤ w1.heap.size := B1.size
  have z1_0 : w.heap.size < w1.heap.size := by have := hb1.size; (try simp at this); omega
  have y1_0 : w.heap.size ≤ w1.heap.size := Nat.le_of_lt z1_0
  have c1_0 := fun o => hb1.cell (p := ⟨w.heap.size, o, none⟩) (by first | omega | (simp <;> omega))
  have f1_0 := fun o => hb1.frozen (p := ⟨w.heap.size, o, none⟩) (by first | omega | (simp <;> omega))
  go_wp2_with fail
  refine (ref11_Cap _ t k h0 (by omega) hk (by omega)).mono ?_
  rintro e w2 ⟨rfl, hb2⟩
  have B2 : Below w.heap.size w w2 := Below.then_ (by repeat (first | with_reducible exact Below.refl _ _ | with_reducible assumption | ((with_reducible refine Below.setCell ?_ ?_ _); rotate_left; · (first | omega | exact Nat.le_refl _ | (simp <;> omega))) | (with_reducible refine Below.allocW ?_ _) | (with_reducible refine Below.drew ?_) | (with_reducible refine Below.extW ?_ _))) hb2
  have s2 : w.heap.size ≤ w2.heap.size := B2.size
  go_wp2_with fail
  go_ret
  exact ⟨rfl, (by repeat (first | with_reducible exact Below.refl _ _ | with_reducible assumption | ((with_reducible refine Below.setCell ?_ ?_ _); rotate_left; · (first | omega | exact Nat.le_refl _ | (simp <;> omega))) | (with_reducible refine Below.allocW ?_ _) | (with_reducible refine Below.drew ?_) | (with_reducible refine Below.extW ?_ _)))⟩
theorem light_step {u m : Int} {l : List Nd} {k : Nat} (hk : k < l.length) (h : (l.take k).any (heavy u m) = false) (hx : heavy u m l[k] = false) : (l.take (k + 1)).any (heavy u m) = false := by
  rw [List.take_succ_eq_append_getElem hk, List.any_append, h]; simp [hx]
theorem light_bad {u m : Int} {l : List Nd} {k : Nat} (hk : k < l.length) (hx : heavy u m l[k] = true) : l.any (heavy u m) = true := List.any_eq_true.2 ⟨_, List.getElem_mem hk, hx⟩
set_option maxRecDepth 100000 in
theorem ref12_Light (w : World) (u k : Int) (A : Option Addr) (cap : Nat) (l : List Nd) (hS : Sl w w.heap.size encN A l) (hI : ints l) (hm : l.length ≤ maxLen) (ht : (totalOf l).1 = sumR l) (h0 : 0 ≤ sumR l) (h1 : sumR l ≤ 72057594037927935) (hk : 1 ≤ k) (hk2 : k ≤ 1048576) :
    Calls Tryz.prog 139 #[.agg #[.int .i64 u, .slice A l.length cap], .int .i64 k] w fun e w' => e = .returned (.bool (lightOf u l k)) ∧ Below w.heap.size w w' := by
  have HC : Hid (∀ W, Sl W W.heap.size encN A l → Calls Tryz.prog 203 #[.agg #[.int .i64 u, .slice A l.length cap], .int .i64 k] W fun e w' => e = .returned (.int .i64 (sumR l / k)) ∧ Below W.heap.size W w') := Lib.hid fun W hW => by
    have := ref12_Cap W u k A cap l hW hI hm (by omega) (by omega) hk hk2
    rwa [ht] at this
  have HS := Lib.hid (hS.keep (B' := w.heap.size) (Nat.le_refl _) fun p hp => ((Below.refl w.heap.size w).alloc (Nat.le_refl _) (.cells #[.int .i64 u, .slice A l.length cap] 41)).cell hp)
  have HI := Lib.hid hI
  have HM : Hid (lightOf u l k = !l.any (heavy u (sumR l / k))) := Lib.hid rfl
  unfold maxLen at hm
  clear hS hI ht
  generalize sumR l / k = m at HC HM
  go_enter Tryz.func139, Tryz.ntmps139
  go_wp2_with fail
  go_loopw [5] (fun i wr => ∃ q : Nat, q ≤ l.length ∧ i = .int .i64 q ∧ (l.take q).any (heavy u m) = false ∧ Below w.heap.size w wr ∧ Below (w.heap.size + 1) (w.alloc (.cells #[.int .i64 u, .slice A l.length cap] 41)) wr) (fun i _ => l.length - (intOf i).toNat)
  case atStart => exact ⟨0, by omega, rfl, rfl, (by repeat (first | with_reducible exact Below.refl _ _ | with_reducible assumption | ((with_reducible refine Below.setCell ?_ ?_ _); rotate_left; · (first | omega | exact Nat.le_refl _ | (simp <;> omega))) | (with_reducible refine Below.allocW ?_ _) | (with_reducible refine Below.drew ?_) | (with_reducible refine Below.extW ?_ _))), Below.refl _ _⟩
  case round =>
    obtain ⟨q, hq, rfl, hR, hBw, hB⟩ := hrel
    have HR := Lib.hid hR
    clear hR
    have hs := hB.size
    simp only [World.size_alloc] at hs
    have cb := blk_cell ((hB.block w.heap.size (by omega)).trans (heap_alloc_new w _))
    have zb : w.heap.size < wr.heap.size := by omega
    by_cases hlt : q < l.length
    · obtain ⟨b, off, rfl, hb, hc⟩ := (HS.out.below (hB.mono (by omega))).at_ hlt
      have HSr := Lib.hid ((HS.out.below (hB.mono (by omega))).keep (B' := wr.heap.size) (by omega) fun p hp => rfl)
      have d0 := hc 0 (.int .i64 l[q].1) rfl
      have d1 := hc 1 (.int .i64 l[q].2) rfl
      simp only [Nat.add_zero] at d0
      have hx := (HI.out _ (List.getElem_mem hlt)).1
      have HStep := Lib.hid (light_step hlt HR.out)
      have HBad := Lib.hid (light_bad (u := u) (m := m) hlt)
      have hzb : b < wr.heap.size := by omega
      have i1 : (q : Int) < (l.length : Int) := by omega
      obtain ⟨x, hxe⟩ : ∃ x, x = l[q] := ⟨_, rfl⟩
      rw [← hxe] at d0 d1 hx HStep HBad
      have HK := Lib.hid (ref2_Kids · u x.1 hx.2)
      have HH : Hid (heavy u m x = ((kidsOf u x.1).2.2 && decide (m < x.2))) := Lib.hid rfl
      generalize kidsOf u x.1 = t at HK HH
      obtain ⟨t1, t2, t3⟩ := t
      unfold endsV at HK
      clear hc hxe hx
      cases t3
      · have HF := Lib.hid (HStep.out (by rw [HH.out]; rfl))
        go_wp2_with fail
        refine wp_region_ext (by kernel_rfl) (by kernel_rfl) ?_
        repeat (go_big_quiet_step ((go_at_call 202; exact quiet_ext (HK.out _))))
        refine wpQuiet_nil ?_
        intro w1 hb1
        replace hb1 := below_of_ext hb1
        have B1 : Below w.heap.size w w1 := Below.then_ (by repeat (first | with_reducible exact Below.refl _ _ | with_reducible assumption | ((with_reducible refine Below.setCell ?_ ?_ _); rotate_left; · (first | omega | exact Nat.le_refl _ | (simp <;> omega))) | (with_reducible refine Below.allocW ?_ _) | (with_reducible refine Below.drew ?_) | (with_reducible refine Below.extW ?_ _))) hb1
        have s1 : w.heap.size ≤ w1.heap.size := B1.size
        have z1_0 : w.heap.size < w1.heap.size := by have := hb1.size; (try simp at this); omega
        have y1_0 : w.heap.size ≤ w1.heap.size := Nat.le_of_lt z1_0
        have c1_0 := fun o => hb1.cell (p := ⟨w.heap.size, o, none⟩) (by first | omega | (simp <;> omega))
        have f1_0 := fun o => hb1.frozen (p := ⟨w.heap.size, o, none⟩) (by first | omega | (simp <;> omega))
        have z1_1 : b < w1.heap.size := by have := hb1.size; (try simp at this); omega
        have y1_1 : b ≤ w1.heap.size := Nat.le_of_lt z1_1
        have c1_1 := fun o => hb1.cell (p := ⟨b, o, none⟩) (by first | omega | (simp <;> omega))
        have f1_1 := fun o => hb1.frozen (p := ⟨b, o, none⟩) (by first | omega | (simp <;> omega))
        go_wp2_with fail
        refine wp_region_ext (by kernel_rfl) (by kernel_rfl) ?_
        repeat (go_big_quiet_step (fail))
        refine wpQuiet_nil ?_
        intro w2 hb2
        replace hb2 := below_of_ext hb2
        have B2 : Below w.heap.size w w2 := Below.then_ (by repeat (first | with_reducible exact Below.refl _ _ | with_reducible assumption | ((with_reducible refine Below.setCell ?_ ?_ _); rotate_left; · (first | omega | exact Nat.le_refl _ | (simp <;> omega))) | (with_reducible refine Below.allocW ?_ _) | (with_reducible refine Below.drew ?_) | (with_reducible refine Below.extW ?_ _))) hb2
        have s2 : w.heap.size ≤ w2.heap.size := B2.size
        have z2_0 : w.heap.size < w2.heap.size := by have := hb2.size; (try simp at this); omega
        have y2_0 : w.heap.size ≤ w2.heap.size := Nat.le_of_lt z2_0
        have c2_0 := fun o => hb2.cell (p := ⟨w.heap.size, o, none⟩) (by first | omega | (simp <;> omega))
        have f2_0 := fun o => hb2.frozen (p := ⟨w.heap.size, o, none⟩) (by first | omega | (simp <;> omega))
        have z2_1 : b < w2.heap.size := by have := hb2.size; (try simp at this); omega
        have y2_1 : b ≤ w2.heap.size := Nat.le_of_lt z2_1
        have c2_1 := fun o => hb2.cell (p := ⟨b, o, none⟩) (by first | omega | (simp <;> omega))
        have f2_1 := fun o => hb2.frozen (p := ⟨b, o, none⟩) (by first | omega | (simp <;> omega))
        have hB2 : Below (w.heap.size + 1) (w.alloc (.cells #[.int .i64 u, .slice (some ⟨b, off, none⟩) l.length cap] 41)) w2 := hB.trans ((hb1.mono (by omega)).trans (hb2.mono (by omega)))
        go_wp2_with fail
        go_roundw
        case rel => exact ⟨q + 1, by omega, by go_num, HF.out, B2, hB2⟩
        case measure => simp [intOf]; omega
      · by_cases hmx : m < x.2
        · have HF := Lib.hid (HBad.out (by rw [HH.out]; simpa using hmx))
          go_wp2_with fail
          refine wp_region_ext (by kernel_rfl) (by kernel_rfl) ?_
          repeat (go_big_quiet_step ((go_at_call 202; exact quiet_ext (HK.out _))))
          refine wpQuiet_nil ?_
          intro w1 hb1
          replace hb1 := below_of_ext hb1
          have B1 : Below w.heap.size w w1 := Below.then_ (by repeat (first | with_reducible exact Below.refl _ _ | with_reducible assumption | ((with_reducible refine Below.setCell ?_ ?_ _); rotate_left; · (first | omega | exact Nat.le_refl _ | (simp <;> omega))) | (with_reducible refine Below.allocW ?_ _) | (with_reducible refine Below.drew ?_) | (with_reducible refine Below.extW ?_ _))) hb1
          have s1 : w.heap.size ≤ w1.heap.size := B1.size
          have z1_0 : w.heap.size < w1.heap.size := by have := hb1.size; (try simp at this); omega
          have y1_0 : w.heap.size ≤ w1.heap.size := Nat.le_of_lt z1_0
          have c1_0 := fun o => hb1.cell (p := ⟨w.heap.size, o, none⟩) (by first | omega | (simp <;> omega))
          have f1_0 := fun o => hb1.frozen (p := ⟨w.heap.size, o, none⟩) (by first | omega | (simp <;> omega))
          have z1_1 : b < w1.heap.size := by have := hb1.size; (try simp at this); omega
          have y1_1 : b ≤ w1.heap.size := Nat.le_of_lt z1_1
          have c1_1 := fun o => hb1.cell (p := ⟨b, o, none⟩) (by first | omega | (simp <;> omega))
          have f1_1 := fun o => hb1.frozen (p := ⟨b, o, none⟩) (by first | omega | (simp <;> omega))
          have HS1 := Lib.hid (HSr.out.keep hb1.size fun p hp => hb1.cell hp)
          go_wp2_with fail
          refine wp_region_ext (by kernel_rfl) (by kernel_rfl) ?_
          repeat (go_big_quiet_step ((go_at_call 203; exact quiet_ext (HC.out _ (HS1.out.keep (ext_below _ _).size fun p hp => (ext_below _ _).cell hp)))))
          refine wpQuiet_nil ?_
          intro w2 hb2
          replace hb2 := below_of_ext hb2
          have B2 : Below w.heap.size w w2 := Below.then_ (by repeat (first | with_reducible exact Below.refl _ _ | with_reducible assumption | ((with_reducible refine Below.setCell ?_ ?_ _); rotate_left; · (first | omega | exact Nat.le_refl _ | (simp <;> omega))) | (with_reducible refine Below.allocW ?_ _) | (with_reducible refine Below.drew ?_) | (with_reducible refine Below.extW ?_ _))) hb2
          have s2 : w.heap.size ≤ w2.heap.size := B2.size
          have z2_0 : w.heap.size < w2.heap.size := by have := hb2.size; (try simp at this); omega
          have y2_0 : w.heap.size ≤ w2.heap.size := Nat.le_of_lt z2_0
          have c2_0 := fun o => hb2.cell (p := ⟨w.heap.size, o, none⟩) (by first | omega | (simp <;> omega))
          have f2_0 := fun o => hb2.frozen (p := ⟨w.heap.size, o, none⟩) (by first | omega | (simp <;> omega))
          have z2_1 : b < w2.heap.size := by have := hb2.size; (try simp at this); omega
          have y2_1 : b ≤ w2.heap.size := Nat.le_of_lt z2_1
          have c2_1 := fun o => hb2.cell (p := ⟨b, o, none⟩) (by first | omega | (simp <;> omega))
          have f2_1 := fun o => hb2.frozen (p := ⟨b, o, none⟩) (by first | omega | (simp <;> omega))
          go_wp2_with fail
          go_ret
          exact ⟨ret_bool (by rw [HM.out, HF.out]; rfl), (by repeat (first | with_reducible exact Below.refl _ _ | with_reducible assumption | ((with_reducible refine Below.setCell ?_ ?_ _); rotate_left; · (first | omega | exact Nat.le_refl _ | (simp <;> omega))) | (with_reducible refine Below.allocW ?_ _) | (with_reducible refine Below.drew ?_) | (with_reducible refine Below.extW ?_ _)))⟩
        · have hmx' : decide (m < x.2) = false := by simpa using hmx
          have HF := Lib.hid (HStep.out (by rw [HH.out, hmx']; rfl))
          go_wp2_with fail
          refine wp_region_ext (by kernel_rfl) (by kernel_rfl) ?_
          repeat (go_big_quiet_step ((go_at_call 202; exact quiet_ext (HK.out _))))
          refine wpQuiet_nil ?_
          intro w1 hb1
          replace hb1 := below_of_ext hb1
          have B1 : Below w.heap.size w w1 := Below.then_ (by repeat (first | with_reducible exact Below.refl _ _ | with_reducible assumption | ((with_reducible refine Below.setCell ?_ ?_ _); rotate_left; · (first | omega | exact Nat.le_refl _ | (simp <;> omega))) | (with_reducible refine Below.allocW ?_ _) | (with_reducible refine Below.drew ?_) | (with_reducible refine Below.extW ?_ _))) hb1
          have s1 : w.heap.size ≤ w1.heap.size := B1.size
          have z1_0 : w.heap.size < w1.heap.size := by have := hb1.size; (try simp at this); omega
          have y1_0 : w.heap.size ≤ w1.heap.size := Nat.le_of_lt z1_0
          have c1_0 := fun o => hb1.cell (p := ⟨w.heap.size, o, none⟩) (by first | omega | (simp <;> omega))
          have f1_0 := fun o => hb1.frozen (p := ⟨w.heap.size, o, none⟩) (by first | omega | (simp <;> omega))
          have z1_1 : b < w1.heap.size := by have := hb1.size; (try simp at this); omega
          have y1_1 : b ≤ w1.heap.size := Nat.le_of_lt z1_1
          have c1_1 := fun o => hb1.cell (p := ⟨b, o, none⟩) (by first | omega | (simp <;> omega))
          have f1_1 := fun o => hb1.frozen (p := ⟨b, o, none⟩) (by first | omega | (simp <;> omega))
          have HS1 := Lib.hid (HSr.out.keep hb1.size fun p hp => hb1.cell hp)
          go_wp2_with fail
          refine wp_region_ext (by kernel_rfl) (by kernel_rfl) ?_
          repeat (go_big_quiet_step ((go_at_call 203; exact quiet_ext (HC.out _ (HS1.out.keep (ext_below _ _).size fun p hp => (ext_below _ _).cell hp)))))
          refine wpQuiet_nil ?_
          intro w2 hb2
          replace hb2 := below_of_ext hb2
          have B2 : Below w.heap.size w w2 := Below.then_ (by repeat (first | with_reducible exact Below.refl _ _ | with_reducible assumption | ((with_reducible refine Below.setCell ?_ ?_ _); rotate_left; · (first | omega | exact Nat.le_refl _ | (simp <;> omega))) | (with_reducible refine Below.allocW ?_ _) | (with_reducible refine Below.drew ?_) | (with_reducible refine Below.extW ?_ _))) hb2
          have s2 : w.heap.size ≤ w2.heap.size := B2.size
          have z2_0 : w.heap.size < w2.heap.size := by have := hb2.size; (try simp at this); omega
          have y2_0 : w.heap.size ≤ w2.heap.size := Nat.le_of_lt z2_0
          have c2_0 := fun o => hb2.cell (p := ⟨w.heap.size, o, none⟩) (by first | omega | (simp <;> omega))
          have f2_0 := fun o => hb2.frozen (p := ⟨w.heap.size, o, none⟩) (by first | omega | (simp <;> omega))
          have z2_1 : b < w2.heap.size := by have := hb2.size; (try simp at this); omega
          have y2_1 : b ≤ w2.heap.size := Nat.le_of_lt z2_1
          have c2_1 := fun o => hb2.cell (p := ⟨b, o, none⟩) (by first | omega | (simp <;> omega))
          have f2_1 := fun o => hb2.frozen (p := ⟨b, o, none⟩) (by first | omega | (simp <;> omega))
          have hB2 : Below (w.heap.size + 1) (w.alloc (.cells #[.int .i64 u, .slice (some ⟨b, off, none⟩) l.length cap] 41)) w2 := hB.trans ((hb1.mono (by omega)).trans (hb2.mono (by omega)))
          go_wp2_with fail
          go_roundw
          case rel => exact ⟨q + 1, by omega, by go_num, HF.out, B2, hB2⟩
          case measure => simp [intOf]; omega
    · obtain rfl : q = l.length := by omega
      rw [List.take_length] at HR
      have hkk : decide (1 ≤ k ∧ k ≤ 1048576) = true := by simp [hk, hk2]
      have HK2 := Lib.hid hkk
      clear hkk
      go_wp2_with fail
      refine (ref12_Is _ k).mono ?_
      rintro e w1 ⟨rfl, hb1⟩
      have B1 : Below w.heap.size w w1 := Below.then_ (by repeat (first | with_reducible exact Below.refl _ _ | with_reducible assumption | ((with_reducible refine Below.setCell ?_ ?_ _); rotate_left; · (first | omega | exact Nat.le_refl _ | (simp <;> omega))) | (with_reducible refine Below.allocW ?_ _) | (with_reducible refine Below.drew ?_) | (with_reducible refine Below.extW ?_ _))) hb1
      have s1 : w.heap.size ≤ w1.heap.size := B1.size
      rw [HK2.out]
      go_wp2_with fail
      go_ret
      exact ⟨ret_bool (by rw [HM.out, HR.out]; rfl), (by repeat (first | with_reducible exact Below.refl _ _ | with_reducible assumption | ((with_reducible refine Below.setCell ?_ ?_ _); rotate_left; · (first | omega | exact Nat.le_refl _ | (simp <;> omega))) | (with_reducible refine Below.allocW ?_ _) | (with_reducible refine Below.drew ?_) | (with_reducible refine Below.extW ?_ _)))⟩

theorem ref13_Is (w : World) (l k K : Int) : Calls Tryz.prog 136 #[.agg #[.int .i64 l, .int .i64 k, .int .i64 K]] w fun e w' => e = .returned (.bool (isDig l k K)) ∧ Below w.heap.size w w' := by
  have HE : Hid (isDig l k K = (isPool K l && decide (1 ≤ k ∧ k ≤ 1048576))) := Lib.hid rfl
  have HC := Lib.hid (ref12_Is · k)
  cases hk : decide (1 ≤ k ∧ k ≤ 1048576)
  · rw [hk] at HE HC
    clear hk
    go_enter Tryz.func136, Tryz.ntmps136
    go_wp2_with fail
    refine (HC.out _).mono ?_
    rintro e w1 ⟨rfl, hb1⟩
    have B1 : Below w.heap.size w w1 := Below.then_ (by repeat (first | with_reducible exact Below.refl _ _ | with_reducible assumption | ((with_reducible refine Below.setCell ?_ ?_ _); rotate_left; · (first | omega | exact Nat.le_refl _ | (simp <;> omega))) | (with_reducible refine Below.allocW ?_ _) | (with_reducible refine Below.drew ?_) | (with_reducible refine Below.extW ?_ _))) hb1
    have s1 : w.heap.size ≤ w1.heap.size := B1.size
    have z1_0 : w.heap.size < w1.heap.size := by have := hb1.size; (try simp at this); omega
    have y1_0 : w.heap.size ≤ w1.heap.size := Nat.le_of_lt z1_0
    have c1_0 := fun o => hb1.cell (p := ⟨w.heap.size, o, none⟩) (by first | omega | (simp <;> omega))
    have f1_0 := fun o => hb1.frozen (p := ⟨w.heap.size, o, none⟩) (by first | omega | (simp <;> omega))
    go_wp2_with fail
    go_ret
    exact ⟨ret_bool (by rw [HE.out]; simp), (by repeat (first | with_reducible exact Below.refl _ _ | with_reducible assumption | ((with_reducible refine Below.setCell ?_ ?_ _); rotate_left; · (first | omega | exact Nat.le_refl _ | (simp <;> omega))) | (with_reducible refine Below.allocW ?_ _) | (with_reducible refine Below.drew ?_) | (with_reducible refine Below.extW ?_ _)))⟩
  · rw [hk] at HE HC
    clear hk
    go_enter Tryz.func136, Tryz.ntmps136
    go_wp2_with fail
    refine (HC.out _).mono ?_
    rintro e w1 ⟨rfl, hb1⟩
    have B1 : Below w.heap.size w w1 := Below.then_ (by repeat (first | with_reducible exact Below.refl _ _ | with_reducible assumption | ((with_reducible refine Below.setCell ?_ ?_ _); rotate_left; · (first | omega | exact Nat.le_refl _ | (simp <;> omega))) | (with_reducible refine Below.allocW ?_ _) | (with_reducible refine Below.drew ?_) | (with_reducible refine Below.extW ?_ _))) hb1
    have s1 : w.heap.size ≤ w1.heap.size := B1.size
    have z1_0 : w.heap.size < w1.heap.size := by have := hb1.size; (try simp at this); omega
    have y1_0 : w.heap.size ≤ w1.heap.size := Nat.le_of_lt z1_0
    have c1_0 := fun o => hb1.cell (p := ⟨w.heap.size, o, none⟩) (by first | omega | (simp <;> omega))
    have f1_0 := fun o => hb1.frozen (p := ⟨w.heap.size, o, none⟩) (by first | omega | (simp <;> omega))
    go_wp2_with fail
    refine (ref9_Is _ K l).mono ?_
    rintro e w2 ⟨rfl, hb2⟩
    have B2 : Below w.heap.size w w2 := Below.then_ (by repeat (first | with_reducible exact Below.refl _ _ | with_reducible assumption | ((with_reducible refine Below.setCell ?_ ?_ _); rotate_left; · (first | omega | exact Nat.le_refl _ | (simp <;> omega))) | (with_reducible refine Below.allocW ?_ _) | (with_reducible refine Below.drew ?_) | (with_reducible refine Below.extW ?_ _))) hb2
    have s2 : w.heap.size ≤ w2.heap.size := B2.size
    have z2_0 : w.heap.size < w2.heap.size := by have := hb2.size; (try simp at this); omega
    have y2_0 : w.heap.size ≤ w2.heap.size := Nat.le_of_lt z2_0
    have c2_0 := fun o => hb2.cell (p := ⟨w.heap.size, o, none⟩) (by first | omega | (simp <;> omega))
    have f2_0 := fun o => hb2.frozen (p := ⟨w.heap.size, o, none⟩) (by first | omega | (simp <;> omega))
    go_wp2_with fail
    go_ret
    exact ⟨ret_bool (by rw [HE.out]; simp), (by repeat (first | with_reducible exact Below.refl _ _ | with_reducible assumption | ((with_reducible refine Below.setCell ?_ ?_ _); rotate_left; · (first | omega | exact Nat.le_refl _ | (simp <;> omega))) | (with_reducible refine Below.allocW ?_ _) | (with_reducible refine Below.drew ?_) | (with_reducible refine Below.extW ?_ _)))⟩
theorem ref13_New (w : World) (l k K : Int) : Calls Tryz.prog 138 #[.agg #[.int .i64 l, .int .i64 k, .int .i64 K]] w fun e w' => e = .returned (.agg #[.int .i64 k, .int .i64 l, .slice none 0 0]) ∧ Below w.heap.size w w' := by
  go_enter Tryz.func138, Tryz.ntmps138
  go_wp2_with fail
  exact bodyPost_ret (v := .agg #[.int .i64 k, .int .i64 l, .slice none 0 0]) (by simp only [results, Tryz.results138]; go_simp) rfl ⟨rfl, (by repeat (first | with_reducible exact Below.refl _ _ | with_reducible assumption | ((with_reducible refine Below.setCell ?_ ?_ _); rotate_left; · (first | omega | exact Nat.le_refl _ | (simp <;> omega))) | (with_reducible refine Below.allocW ?_ _) | (with_reducible refine Below.drew ?_) | (with_reducible refine Below.extW ?_ _)))⟩
/-- The document's digest. -/
def refDig (k l : Int) (A : Option Addr) (n cap : Nat) : Value := .agg #[.int .i64 k, .int .i64 l, .slice A n cap]
def refLoadV (l k K : Int) (A : Option Addr) (r : List Nd) (cap : Nat) : Value := if loadErr l k K r = 0 then .tuple #[refDig k l A r.length cap, .int .i64 0] else .tuple #[refDig 0 0 none 0 0, .int .i64 (loadErr l k K r)]

theorem ref13_Load_2 (w : World) (l k K : Int) (A : Option Addr) (cap : Nat) (r : List Nd) (hd : isDig l k K = false) : Calls Tryz.prog 61 #[.agg #[.int .i64 l, .int .i64 k, .int .i64 K], .slice A r.length cap] w fun e w' => e = .returned (.tuple #[refDig 0 0 none 0 0, .int .i64 2]) ∧ Below w.heap.size w w' := by
  have HD := Lib.hid hd
  clear hd
  unfold refDig
  go_enter Tryz.func61, Tryz.ntmps61
  go_wp2_with fail
  refine (ref13_Is _ l k K).mono ?_
  rintro e w1 ⟨rfl, hb1⟩
  have B1 : Below w.heap.size w w1 := Below.then_ (by repeat (first | with_reducible exact Below.refl _ _ | with_reducible assumption | ((with_reducible refine Below.setCell ?_ ?_ _); rotate_left; · (first | omega | exact Nat.le_refl _ | (simp <;> omega))) | (with_reducible refine Below.allocW ?_ _) | (with_reducible refine Below.drew ?_) | (with_reducible refine Below.extW ?_ _))) hb1
  have s1 : w.heap.size ≤ w1.heap.size := B1.size
  have z1_0 : w.heap.size < w1.heap.size := by have := hb1.size; (try simp at this); omega
  have y1_0 : w.heap.size ≤ w1.heap.size := Nat.le_of_lt z1_0
  have c1_0 := fun o => hb1.cell (p := ⟨w.heap.size, o, none⟩) (by first | omega | (simp <;> omega))
  have f1_0 := fun o => hb1.frozen (p := ⟨w.heap.size, o, none⟩) (by first | omega | (simp <;> omega))
  have z1_1 : w.heap.size + 1 < w1.heap.size := by have := hb1.size; (try simp at this); omega
  have y1_1 : w.heap.size + 1 ≤ w1.heap.size := Nat.le_of_lt z1_1
  have c1_1 := fun o => hb1.cell (p := ⟨w.heap.size + 1, o, none⟩) (by first | omega | (simp <;> omega))
  have f1_1 := fun o => hb1.frozen (p := ⟨w.heap.size + 1, o, none⟩) (by first | omega | (simp <;> omega))
  rw [HD.out]
  go_wp2_with fail
  exact bodyPost_ret (v := .tuple #[.agg #[.int .i64 0, .int .i64 0, .slice none 0 0], .int .i64 2]) (by simp only [results, Tryz.results61]; go_simp) rfl ⟨rfl, (by repeat (first | with_reducible exact Below.refl _ _ | with_reducible assumption | ((with_reducible refine Below.setCell ?_ ?_ _); rotate_left; · (first | omega | exact Nat.le_refl _ | (simp <;> omega))) | (with_reducible refine Below.allocW ?_ _) | (with_reducible refine Below.drew ?_) | (with_reducible refine Below.extW ?_ _)))⟩
theorem ref13_Load_10 (w : World) (l k K : Int) (A : Option Addr) (cap : Nat) (r : List Nd) (hd : isDig l k K = true) (hr : rightOf l r = false) (hS : Sl w w.heap.size encN A r) (hI : ints r) (hn : r.length < 67108864) : Calls Tryz.prog 61 #[.agg #[.int .i64 l, .int .i64 k, .int .i64 K], .slice A r.length cap] w fun e w' => e = .returned (.tuple #[refDig 0 0 none 0 0, .int .i64 10]) ∧ Below w.heap.size w w' := by
  have HD := Lib.hid hd
  have HR := Lib.hid (ref6_Right · l A cap r · hI (by unfold maxLen; omega))
  have HF := Lib.hid hr
  have HS := Lib.hid hS
  clear hd hr hS
  unfold refDig
  go_enter Tryz.func61, Tryz.ntmps61
  go_wp2_with fail
  refine (ref13_Is _ l k K).mono ?_
  rintro e w1 ⟨rfl, hb1⟩
  have B1 : Below w.heap.size w w1 := Below.then_ (by repeat (first | with_reducible exact Below.refl _ _ | with_reducible assumption | ((with_reducible refine Below.setCell ?_ ?_ _); rotate_left; · (first | omega | exact Nat.le_refl _ | (simp <;> omega))) | (with_reducible refine Below.allocW ?_ _) | (with_reducible refine Below.drew ?_) | (with_reducible refine Below.extW ?_ _))) hb1
  have s1 : w.heap.size ≤ w1.heap.size := B1.size
  have z1_0 : w.heap.size < w1.heap.size := by have := hb1.size; (try simp at this); omega
  have y1_0 : w.heap.size ≤ w1.heap.size := Nat.le_of_lt z1_0
  have c1_0 := fun o => hb1.cell (p := ⟨w.heap.size, o, none⟩) (by first | omega | (simp <;> omega))
  have f1_0 := fun o => hb1.frozen (p := ⟨w.heap.size, o, none⟩) (by first | omega | (simp <;> omega))
  have z1_1 : w.heap.size + 1 < w1.heap.size := by have := hb1.size; (try simp at this); omega
  have y1_1 : w.heap.size + 1 ≤ w1.heap.size := Nat.le_of_lt z1_1
  have c1_1 := fun o => hb1.cell (p := ⟨w.heap.size + 1, o, none⟩) (by first | omega | (simp <;> omega))
  have f1_1 := fun o => hb1.frozen (p := ⟨w.heap.size + 1, o, none⟩) (by first | omega | (simp <;> omega))
  rw [HD.out]
  go_wp2_with fail
  refine (HR.out _ (HS.out.keep s1 fun p hp => B1.cell hp)).mono ?_
  rintro e w2 ⟨rfl, hb2⟩
  have B2 : Below w.heap.size w w2 := Below.then_ (by repeat (first | with_reducible exact Below.refl _ _ | with_reducible assumption | ((with_reducible refine Below.setCell ?_ ?_ _); rotate_left; · (first | omega | exact Nat.le_refl _ | (simp <;> omega))) | (with_reducible refine Below.allocW ?_ _) | (with_reducible refine Below.drew ?_) | (with_reducible refine Below.extW ?_ _))) hb2
  have s2 : w.heap.size ≤ w2.heap.size := B2.size
  have z2_0 : w.heap.size < w2.heap.size := by have := hb2.size; (try simp at this); omega
  have y2_0 : w.heap.size ≤ w2.heap.size := Nat.le_of_lt z2_0
  have c2_0 := fun o => hb2.cell (p := ⟨w.heap.size, o, none⟩) (by first | omega | (simp <;> omega))
  have f2_0 := fun o => hb2.frozen (p := ⟨w.heap.size, o, none⟩) (by first | omega | (simp <;> omega))
  have z2_1 : w.heap.size + 1 < w2.heap.size := by have := hb2.size; (try simp at this); omega
  have y2_1 : w.heap.size + 1 ≤ w2.heap.size := Nat.le_of_lt z2_1
  have c2_1 := fun o => hb2.cell (p := ⟨w.heap.size + 1, o, none⟩) (by first | omega | (simp <;> omega))
  have f2_1 := fun o => hb2.frozen (p := ⟨w.heap.size + 1, o, none⟩) (by first | omega | (simp <;> omega))
  rw [HF.out]
  go_wp2_with fail
  exact bodyPost_ret (v := .tuple #[.agg #[.int .i64 0, .int .i64 0, .slice none 0 0], .int .i64 10]) (by simp only [results, Tryz.results61]; go_simp) rfl ⟨rfl, (by repeat (first | with_reducible exact Below.refl _ _ | with_reducible assumption | ((with_reducible refine Below.setCell ?_ ?_ _); rotate_left; · (first | omega | exact Nat.le_refl _ | (simp <;> omega))) | (with_reducible refine Below.allocW ?_ _) | (with_reducible refine Below.drew ?_) | (with_reducible refine Below.extW ?_ _)))⟩
theorem ref13_Load_13 (w : World) (l k K : Int) (A : Option Addr) (cap : Nat) (r : List Nd) (hd : isDig l k K = true) (hr : rightOf l r = true) (h8 : 8 * k < r.length) (hS : Sl w w.heap.size encN A r) (hI : ints r) (hn : r.length < 67108864) : Calls Tryz.prog 61 #[.agg #[.int .i64 l, .int .i64 k, .int .i64 K], .slice A r.length cap] w fun e w' => e = .returned (.tuple #[refDig 0 0 none 0 0, .int .i64 13]) ∧ Below w.heap.size w w' := by
  have HD := Lib.hid hd
  have HR := Lib.hid (ref6_Right · l A cap r · hI (by unfold maxLen; omega))
  have HF := Lib.hid hr
  have HS := Lib.hid hS
  simp only [isDig, Bool.and_eq_true, decide_eq_true_eq] at hd
  obtain ⟨_, hk1, hk2⟩ := hd
  clear hr hS
  unfold refDig
  go_enter Tryz.func61, Tryz.ntmps61
  go_wp2_with fail
  refine (ref13_Is _ l k K).mono ?_
  rintro e w1 ⟨rfl, hb1⟩
  have B1 : Below w.heap.size w w1 := Below.then_ (by repeat (first | with_reducible exact Below.refl _ _ | with_reducible assumption | ((with_reducible refine Below.setCell ?_ ?_ _); rotate_left; · (first | omega | exact Nat.le_refl _ | (simp <;> omega))) | (with_reducible refine Below.allocW ?_ _) | (with_reducible refine Below.drew ?_) | (with_reducible refine Below.extW ?_ _))) hb1
  have s1 : w.heap.size ≤ w1.heap.size := B1.size
  have z1_0 : w.heap.size < w1.heap.size := by have := hb1.size; (try simp at this); omega
  have y1_0 : w.heap.size ≤ w1.heap.size := Nat.le_of_lt z1_0
  have c1_0 := fun o => hb1.cell (p := ⟨w.heap.size, o, none⟩) (by first | omega | (simp <;> omega))
  have f1_0 := fun o => hb1.frozen (p := ⟨w.heap.size, o, none⟩) (by first | omega | (simp <;> omega))
  have z1_1 : w.heap.size + 1 < w1.heap.size := by have := hb1.size; (try simp at this); omega
  have y1_1 : w.heap.size + 1 ≤ w1.heap.size := Nat.le_of_lt z1_1
  have c1_1 := fun o => hb1.cell (p := ⟨w.heap.size + 1, o, none⟩) (by first | omega | (simp <;> omega))
  have f1_1 := fun o => hb1.frozen (p := ⟨w.heap.size + 1, o, none⟩) (by first | omega | (simp <;> omega))
  rw [HD.out]
  go_wp2_with fail
  refine (HR.out _ (HS.out.keep s1 fun p hp => B1.cell hp)).mono ?_
  rintro e w2 ⟨rfl, hb2⟩
  have B2 : Below w.heap.size w w2 := Below.then_ (by repeat (first | with_reducible exact Below.refl _ _ | with_reducible assumption | ((with_reducible refine Below.setCell ?_ ?_ _); rotate_left; · (first | omega | exact Nat.le_refl _ | (simp <;> omega))) | (with_reducible refine Below.allocW ?_ _) | (with_reducible refine Below.drew ?_) | (with_reducible refine Below.extW ?_ _))) hb2
  have s2 : w.heap.size ≤ w2.heap.size := B2.size
  have z2_0 : w.heap.size < w2.heap.size := by have := hb2.size; (try simp at this); omega
  have y2_0 : w.heap.size ≤ w2.heap.size := Nat.le_of_lt z2_0
  have c2_0 := fun o => hb2.cell (p := ⟨w.heap.size, o, none⟩) (by first | omega | (simp <;> omega))
  have f2_0 := fun o => hb2.frozen (p := ⟨w.heap.size, o, none⟩) (by first | omega | (simp <;> omega))
  have z2_1 : w.heap.size + 1 < w2.heap.size := by have := hb2.size; (try simp at this); omega
  have y2_1 : w.heap.size + 1 ≤ w2.heap.size := Nat.le_of_lt z2_1
  have c2_1 := fun o => hb2.cell (p := ⟨w.heap.size + 1, o, none⟩) (by first | omega | (simp <;> omega))
  have f2_1 := fun o => hb2.frozen (p := ⟨w.heap.size + 1, o, none⟩) (by first | omega | (simp <;> omega))
  rw [HF.out]
  go_wp2_with fail
  refine (ref13_New _ l k K).mono ?_
  rintro e w3 ⟨rfl, hb3⟩
  have B3 : Below w.heap.size w w3 := Below.then_ (by repeat (first | with_reducible exact Below.refl _ _ | with_reducible assumption | ((with_reducible refine Below.setCell ?_ ?_ _); rotate_left; · (first | omega | exact Nat.le_refl _ | (simp <;> omega))) | (with_reducible refine Below.allocW ?_ _) | (with_reducible refine Below.drew ?_) | (with_reducible refine Below.extW ?_ _))) hb3
  have s3 : w.heap.size ≤ w3.heap.size := B3.size
  have z3_0 : w.heap.size < w3.heap.size := by have := hb3.size; (try simp at this); omega
  have y3_0 : w.heap.size ≤ w3.heap.size := Nat.le_of_lt z3_0
  have c3_0 := fun o => hb3.cell (p := ⟨w.heap.size, o, none⟩) (by first | omega | (simp <;> omega))
  have f3_0 := fun o => hb3.frozen (p := ⟨w.heap.size, o, none⟩) (by first | omega | (simp <;> omega))
  have z3_1 : w.heap.size + 1 < w3.heap.size := by have := hb3.size; (try simp at this); omega
  have y3_1 : w.heap.size + 1 ≤ w3.heap.size := Nat.le_of_lt z3_1
  have c3_1 := fun o => hb3.cell (p := ⟨w.heap.size + 1, o, none⟩) (by first | omega | (simp <;> omega))
  have f3_1 := fun o => hb3.frozen (p := ⟨w.heap.size + 1, o, none⟩) (by first | omega | (simp <;> omega))
  go_wp2_with fail
  exact bodyPost_ret (v := .tuple #[.agg #[.int .i64 0, .int .i64 0, .slice none 0 0], .int .i64 13]) (by simp only [results, Tryz.results61]; go_simp) rfl ⟨rfl, (by repeat (first | with_reducible exact Below.refl _ _ | with_reducible assumption | ((with_reducible refine Below.setCell ?_ ?_ _); rotate_left; · (first | omega | exact Nat.le_refl _ | (simp <;> omega))) | (with_reducible refine Below.allocW ?_ _) | (with_reducible refine Below.drew ?_) | (with_reducible refine Below.extW ?_ _)))⟩
theorem ref13_Load_l (w : World) (l : Nat) (k K : Int) (A : Option Addr) (cap : Nat) (r : List Nd) (hd : isDig l k K = true) (hr : rightOf l r = true) (h8 : ¬ 8 * k < r.length) (hS : Sl w w.heap.size encN A r) (hI : ints r) (hn : r.length < 67108864) : Calls Tryz.prog 61 #[.agg #[.int .i64 l, .int .i64 k, .int .i64 K], .slice A r.length cap] w fun e w' => e = .returned (.tuple #[if lightOf l r k = true then refDig k l A r.length cap else refDig 0 0 none 0 0, .int .i64 (if lightOf l r k = true then 0 else 13)]) ∧ Below w.heap.size w w' := by
  have hf := right_fits hr
  have hs0 := sumR_nonneg hf.1.roll
  have hs1 := hf.1.sum
  have HD := Lib.hid hd
  have HR := Lib.hid (ref6_Right · l A cap r · hI (by unfold maxLen; omega))
  have HF := Lib.hid hr
  have HS := Lib.hid hS
  simp only [isDig, Bool.and_eq_true, decide_eq_true_eq] at hd
  obtain ⟨_, hk1, hk2⟩ := hd
  have HL := Lib.hid (ref12_Light · l k A cap r · hI (by unfold maxLen; omega) hf.2 hs0 hs1 hk1 hk2)
  clear hr hS hf hs0 hs1
  unfold refDig
  cases hl : lightOf l r k
  · rw [hl] at HL
    rw [if_neg (by simp), if_neg (by simp)]
    clear hl
    go_enter Tryz.func61, Tryz.ntmps61
    go_wp2_with fail
    refine (ref13_Is _ l k K).mono ?_
    rintro e w1 ⟨rfl, hb1⟩
    have B1 : Below w.heap.size w w1 := Below.then_ (by repeat (first | with_reducible exact Below.refl _ _ | with_reducible assumption | ((with_reducible refine Below.setCell ?_ ?_ _); rotate_left; · (first | omega | exact Nat.le_refl _ | (simp <;> omega))) | (with_reducible refine Below.allocW ?_ _) | (with_reducible refine Below.drew ?_) | (with_reducible refine Below.extW ?_ _))) hb1
    have s1 : w.heap.size ≤ w1.heap.size := B1.size
    have z1_0 : w.heap.size < w1.heap.size := by have := hb1.size; (try simp at this); omega
    have y1_0 : w.heap.size ≤ w1.heap.size := Nat.le_of_lt z1_0
    have c1_0 := fun o => hb1.cell (p := ⟨w.heap.size, o, none⟩) (by first | omega | (simp <;> omega))
    have f1_0 := fun o => hb1.frozen (p := ⟨w.heap.size, o, none⟩) (by first | omega | (simp <;> omega))
    have z1_1 : w.heap.size + 1 < w1.heap.size := by have := hb1.size; (try simp at this); omega
    have y1_1 : w.heap.size + 1 ≤ w1.heap.size := Nat.le_of_lt z1_1
    have c1_1 := fun o => hb1.cell (p := ⟨w.heap.size + 1, o, none⟩) (by first | omega | (simp <;> omega))
    have f1_1 := fun o => hb1.frozen (p := ⟨w.heap.size + 1, o, none⟩) (by first | omega | (simp <;> omega))
    rw [HD.out]
    go_wp2_with fail
    refine (HR.out _ (HS.out.keep s1 fun p hp => B1.cell hp)).mono ?_
    rintro e w2 ⟨rfl, hb2⟩
    have B2 : Below w.heap.size w w2 := Below.then_ (by repeat (first | with_reducible exact Below.refl _ _ | with_reducible assumption | ((with_reducible refine Below.setCell ?_ ?_ _); rotate_left; · (first | omega | exact Nat.le_refl _ | (simp <;> omega))) | (with_reducible refine Below.allocW ?_ _) | (with_reducible refine Below.drew ?_) | (with_reducible refine Below.extW ?_ _))) hb2
    have s2 : w.heap.size ≤ w2.heap.size := B2.size
    have z2_0 : w.heap.size < w2.heap.size := by have := hb2.size; (try simp at this); omega
    have y2_0 : w.heap.size ≤ w2.heap.size := Nat.le_of_lt z2_0
    have c2_0 := fun o => hb2.cell (p := ⟨w.heap.size, o, none⟩) (by first | omega | (simp <;> omega))
    have f2_0 := fun o => hb2.frozen (p := ⟨w.heap.size, o, none⟩) (by first | omega | (simp <;> omega))
    have z2_1 : w.heap.size + 1 < w2.heap.size := by have := hb2.size; (try simp at this); omega
    have y2_1 : w.heap.size + 1 ≤ w2.heap.size := Nat.le_of_lt z2_1
    have c2_1 := fun o => hb2.cell (p := ⟨w.heap.size + 1, o, none⟩) (by first | omega | (simp <;> omega))
    have f2_1 := fun o => hb2.frozen (p := ⟨w.heap.size + 1, o, none⟩) (by first | omega | (simp <;> omega))
    rw [HF.out]
    go_wp2_with fail
    refine (ref13_New _ l k K).mono ?_
    rintro e w3 ⟨rfl, hb3⟩
    have B3 : Below w.heap.size w w3 := Below.then_ (by repeat (first | with_reducible exact Below.refl _ _ | with_reducible assumption | ((with_reducible refine Below.setCell ?_ ?_ _); rotate_left; · (first | omega | exact Nat.le_refl _ | (simp <;> omega))) | (with_reducible refine Below.allocW ?_ _) | (with_reducible refine Below.drew ?_) | (with_reducible refine Below.extW ?_ _))) hb3
    have s3 : w.heap.size ≤ w3.heap.size := B3.size
    have z3_0 : w.heap.size < w3.heap.size := by have := hb3.size; (try simp at this); omega
    have y3_0 : w.heap.size ≤ w3.heap.size := Nat.le_of_lt z3_0
    have c3_0 := fun o => hb3.cell (p := ⟨w.heap.size, o, none⟩) (by first | omega | (simp <;> omega))
    have f3_0 := fun o => hb3.frozen (p := ⟨w.heap.size, o, none⟩) (by first | omega | (simp <;> omega))
    have z3_1 : w.heap.size + 1 < w3.heap.size := by have := hb3.size; (try simp at this); omega
    have y3_1 : w.heap.size + 1 ≤ w3.heap.size := Nat.le_of_lt z3_1
    have c3_1 := fun o => hb3.cell (p := ⟨w.heap.size + 1, o, none⟩) (by first | omega | (simp <;> omega))
    have f3_1 := fun o => hb3.frozen (p := ⟨w.heap.size + 1, o, none⟩) (by first | omega | (simp <;> omega))
    go_wp2_with fail
    refine (HL.out _ (HS.out.keep (by simp; omega) fun p hp => Go.RowKit.Below.cell (B := w.heap.size) (w := w) (by repeat (first | with_reducible exact Below.refl _ _ | with_reducible assumption | ((with_reducible refine Below.setCell ?_ ?_ _); rotate_left; · (first | omega | exact Nat.le_refl _ | (simp <;> omega))) | (with_reducible refine Below.allocW ?_ _) | (with_reducible refine Below.drew ?_) | (with_reducible refine Below.extW ?_ _))) hp)).mono ?_
    rintro e w4 ⟨rfl, hb4⟩
    have B4 : Below w.heap.size w w4 := Below.then_ (by repeat (first | with_reducible exact Below.refl _ _ | with_reducible assumption | ((with_reducible refine Below.setCell ?_ ?_ _); rotate_left; · (first | omega | exact Nat.le_refl _ | (simp <;> omega))) | (with_reducible refine Below.allocW ?_ _) | (with_reducible refine Below.drew ?_) | (with_reducible refine Below.extW ?_ _))) hb4
    have s4 : w.heap.size ≤ w4.heap.size := B4.size
    have z4_0 : w.heap.size < w4.heap.size := by have := hb4.size; (try simp at this); omega
    have y4_0 : w.heap.size ≤ w4.heap.size := Nat.le_of_lt z4_0
    have c4_0 := fun o => hb4.cell (p := ⟨w.heap.size, o, none⟩) (by first | omega | (simp <;> omega))
    have f4_0 := fun o => hb4.frozen (p := ⟨w.heap.size, o, none⟩) (by first | omega | (simp <;> omega))
    have z4_1 : w.heap.size + 1 < w4.heap.size := by have := hb4.size; (try simp at this); omega
    have y4_1 : w.heap.size + 1 ≤ w4.heap.size := Nat.le_of_lt z4_1
    have c4_1 := fun o => hb4.cell (p := ⟨w.heap.size + 1, o, none⟩) (by first | omega | (simp <;> omega))
    have f4_1 := fun o => hb4.frozen (p := ⟨w.heap.size + 1, o, none⟩) (by first | omega | (simp <;> omega))
    go_wp2_with fail
    exact bodyPost_ret (v := .tuple #[.agg #[.int .i64 0, .int .i64 0, .slice none 0 0], .int .i64 13]) (by simp only [results, Tryz.results61]; go_simp) rfl ⟨rfl, (by repeat (first | with_reducible exact Below.refl _ _ | with_reducible assumption | ((with_reducible refine Below.setCell ?_ ?_ _); rotate_left; · (first | omega | exact Nat.le_refl _ | (simp <;> omega))) | (with_reducible refine Below.allocW ?_ _) | (with_reducible refine Below.drew ?_) | (with_reducible refine Below.extW ?_ _)))⟩
  · rw [hl] at HL
    rw [if_pos rfl, if_pos rfl]
    clear hl
    go_enter Tryz.func61, Tryz.ntmps61
    go_wp2_with fail
    refine (ref13_Is _ l k K).mono ?_
    rintro e w1 ⟨rfl, hb1⟩
    have B1 : Below w.heap.size w w1 := Below.then_ (by repeat (first | with_reducible exact Below.refl _ _ | with_reducible assumption | ((with_reducible refine Below.setCell ?_ ?_ _); rotate_left; · (first | omega | exact Nat.le_refl _ | (simp <;> omega))) | (with_reducible refine Below.allocW ?_ _) | (with_reducible refine Below.drew ?_) | (with_reducible refine Below.extW ?_ _))) hb1
    have s1 : w.heap.size ≤ w1.heap.size := B1.size
    have z1_0 : w.heap.size < w1.heap.size := by have := hb1.size; (try simp at this); omega
    have y1_0 : w.heap.size ≤ w1.heap.size := Nat.le_of_lt z1_0
    have c1_0 := fun o => hb1.cell (p := ⟨w.heap.size, o, none⟩) (by first | omega | (simp <;> omega))
    have f1_0 := fun o => hb1.frozen (p := ⟨w.heap.size, o, none⟩) (by first | omega | (simp <;> omega))
    have z1_1 : w.heap.size + 1 < w1.heap.size := by have := hb1.size; (try simp at this); omega
    have y1_1 : w.heap.size + 1 ≤ w1.heap.size := Nat.le_of_lt z1_1
    have c1_1 := fun o => hb1.cell (p := ⟨w.heap.size + 1, o, none⟩) (by first | omega | (simp <;> omega))
    have f1_1 := fun o => hb1.frozen (p := ⟨w.heap.size + 1, o, none⟩) (by first | omega | (simp <;> omega))
    rw [HD.out]
    go_wp2_with fail
    refine (HR.out _ (HS.out.keep s1 fun p hp => B1.cell hp)).mono ?_
    rintro e w2 ⟨rfl, hb2⟩
    have B2 : Below w.heap.size w w2 := Below.then_ (by repeat (first | with_reducible exact Below.refl _ _ | with_reducible assumption | ((with_reducible refine Below.setCell ?_ ?_ _); rotate_left; · (first | omega | exact Nat.le_refl _ | (simp <;> omega))) | (with_reducible refine Below.allocW ?_ _) | (with_reducible refine Below.drew ?_) | (with_reducible refine Below.extW ?_ _))) hb2
    have s2 : w.heap.size ≤ w2.heap.size := B2.size
    have z2_0 : w.heap.size < w2.heap.size := by have := hb2.size; (try simp at this); omega
    have y2_0 : w.heap.size ≤ w2.heap.size := Nat.le_of_lt z2_0
    have c2_0 := fun o => hb2.cell (p := ⟨w.heap.size, o, none⟩) (by first | omega | (simp <;> omega))
    have f2_0 := fun o => hb2.frozen (p := ⟨w.heap.size, o, none⟩) (by first | omega | (simp <;> omega))
    have z2_1 : w.heap.size + 1 < w2.heap.size := by have := hb2.size; (try simp at this); omega
    have y2_1 : w.heap.size + 1 ≤ w2.heap.size := Nat.le_of_lt z2_1
    have c2_1 := fun o => hb2.cell (p := ⟨w.heap.size + 1, o, none⟩) (by first | omega | (simp <;> omega))
    have f2_1 := fun o => hb2.frozen (p := ⟨w.heap.size + 1, o, none⟩) (by first | omega | (simp <;> omega))
    rw [HF.out]
    go_wp2_with fail
    refine (ref13_New _ l k K).mono ?_
    rintro e w3 ⟨rfl, hb3⟩
    have B3 : Below w.heap.size w w3 := Below.then_ (by repeat (first | with_reducible exact Below.refl _ _ | with_reducible assumption | ((with_reducible refine Below.setCell ?_ ?_ _); rotate_left; · (first | omega | exact Nat.le_refl _ | (simp <;> omega))) | (with_reducible refine Below.allocW ?_ _) | (with_reducible refine Below.drew ?_) | (with_reducible refine Below.extW ?_ _))) hb3
    have s3 : w.heap.size ≤ w3.heap.size := B3.size
    have z3_0 : w.heap.size < w3.heap.size := by have := hb3.size; (try simp at this); omega
    have y3_0 : w.heap.size ≤ w3.heap.size := Nat.le_of_lt z3_0
    have c3_0 := fun o => hb3.cell (p := ⟨w.heap.size, o, none⟩) (by first | omega | (simp <;> omega))
    have f3_0 := fun o => hb3.frozen (p := ⟨w.heap.size, o, none⟩) (by first | omega | (simp <;> omega))
    have z3_1 : w.heap.size + 1 < w3.heap.size := by have := hb3.size; (try simp at this); omega
    have y3_1 : w.heap.size + 1 ≤ w3.heap.size := Nat.le_of_lt z3_1
    have c3_1 := fun o => hb3.cell (p := ⟨w.heap.size + 1, o, none⟩) (by first | omega | (simp <;> omega))
    have f3_1 := fun o => hb3.frozen (p := ⟨w.heap.size + 1, o, none⟩) (by first | omega | (simp <;> omega))
    go_wp2_with fail
    refine (HL.out _ (HS.out.keep (by simp; omega) fun p hp => Go.RowKit.Below.cell (B := w.heap.size) (w := w) (by repeat (first | with_reducible exact Below.refl _ _ | with_reducible assumption | ((with_reducible refine Below.setCell ?_ ?_ _); rotate_left; · (first | omega | exact Nat.le_refl _ | (simp <;> omega))) | (with_reducible refine Below.allocW ?_ _) | (with_reducible refine Below.drew ?_) | (with_reducible refine Below.extW ?_ _))) hp)).mono ?_
    rintro e w4 ⟨rfl, hb4⟩
    have B4 : Below w.heap.size w w4 := Below.then_ (by repeat (first | with_reducible exact Below.refl _ _ | with_reducible assumption | ((with_reducible refine Below.setCell ?_ ?_ _); rotate_left; · (first | omega | exact Nat.le_refl _ | (simp <;> omega))) | (with_reducible refine Below.allocW ?_ _) | (with_reducible refine Below.drew ?_) | (with_reducible refine Below.extW ?_ _))) hb4
    have s4 : w.heap.size ≤ w4.heap.size := B4.size
    have z4_0 : w.heap.size < w4.heap.size := by have := hb4.size; (try simp at this); omega
    have y4_0 : w.heap.size ≤ w4.heap.size := Nat.le_of_lt z4_0
    have c4_0 := fun o => hb4.cell (p := ⟨w.heap.size, o, none⟩) (by first | omega | (simp <;> omega))
    have f4_0 := fun o => hb4.frozen (p := ⟨w.heap.size, o, none⟩) (by first | omega | (simp <;> omega))
    have z4_1 : w.heap.size + 1 < w4.heap.size := by have := hb4.size; (try simp at this); omega
    have y4_1 : w.heap.size + 1 ≤ w4.heap.size := Nat.le_of_lt z4_1
    have c4_1 := fun o => hb4.cell (p := ⟨w.heap.size + 1, o, none⟩) (by first | omega | (simp <;> omega))
    have f4_1 := fun o => hb4.frozen (p := ⟨w.heap.size + 1, o, none⟩) (by first | omega | (simp <;> omega))
    have z4_2 : w3.heap.size < w4.heap.size := by have := hb4.size; (try simp at this); omega
    have y4_2 : w3.heap.size ≤ w4.heap.size := Nat.le_of_lt z4_2
    have c4_2 := fun o => hb4.cell (p := ⟨w3.heap.size, o, none⟩) (by first | omega | (simp <;> omega))
    have f4_2 := fun o => hb4.frozen (p := ⟨w3.heap.size, o, none⟩) (by first | omega | (simp <;> omega))
    go_wp2_with fail
    exact bodyPost_ret (v := .tuple #[.agg #[.int .i64 k, .int .i64 l, .slice A r.length cap], .int .i64 0]) (by simp only [results, Tryz.results61]; go_simp) rfl ⟨rfl, (by repeat (first | with_reducible exact Below.refl _ _ | with_reducible assumption | ((with_reducible refine Below.setCell ?_ ?_ _); rotate_left; · (first | omega | exact Nat.le_refl _ | (simp <;> omega))) | (with_reducible refine Below.allocW ?_ _) | (with_reducible refine Below.drew ?_) | (with_reducible refine Below.extW ?_ _)))⟩
end Go.Proofs.YtilkfolhglpaoaaGreat
/- What the laws are given: a conf, a list of nodes, and both. -/
namespace Go.Proofs.YtilkfolhglpaoaaGreat
open Go.ChangeShapes Go.WideShapes Go.ChangeAt Go.RowKit
set_option linter.unusedVariables false
set_option maxRecDepth 100000

/-- A list of elements that comes in. -/
theorem slice_of_trod {α : Type} [Inhabited α] {size : Nat} (E : Enc α size) (ok : α → Prop) {t e : TypeId} (ht : (Tryz.prog).underlying t = some (.slice e)) (hC : (Tryz.prog).cellsOf e = size) (hs : 0 < size)
    {H : Type} {enc : TypeId × Value → H} {w : World} {base : Nat} {spare : Nat → Bool} {held : Bool} {fuel : Nat} {cs : List Value} {x : DataW H × List MemPlace}
    (el : ∀ (fuel : Nat) (cs : List Value) (x : DataW H × List MemPlace), DataW.trod enc Tryz.prog w base spare held fuel e cs = some x → ∃ o : α, cs = E.enc o ∧ ok o) (h : DataW.trod enc Tryz.prog w base spare held fuel t cs = some x) :
    ∃ (l : List α) (A : Option Addr) (cap : Nat), cs = [.slice A l.length cap] ∧ Sl w w.heap.size E A l ∧ (∀ o ∈ l, ok o) ∧ l.length ≤ maxLen := by
  rcases Deep.open_slice ht h with ⟨hcs, _⟩ | ⟨a, len, cap, m, n, D, Pl, hcs, _, hl, hm, hmm, _, hx⟩
  · exact ⟨[], none, 0, hcs, .nil, by simp, by simp⟩
  · subst hcs
    have hle : len ≤ m := by rw [hmm]; split <;> omega
    have each : ∀ i, i < len → ∃ o : α, ok o ∧ ∀ j u, (E.enc o)[j]? = some u → w.cell? (a.add (i * size + j)) = some u := by
      intro i hi
      obtain ⟨cs', hc, ht'⟩ := hx i (by omega)
      rw [hC] at hc
      obtain ⟨o, rfl, hk⟩ := el _ _ _ ht'
      obtain ⟨_, hcl, hat⟩ := World.cells?_some hc
      refine ⟨o, hk, fun j u hj => ?_⟩
      have hj6 : j < size := by have := (List.getElem?_eq_some_iff.1 hj).1; rwa [E.len] at this
      rw [← Go.Deep.add_add, hat j hj6, hj]
    obtain ⟨f, hF⟩ := Deep.choose_lt each
    refine ⟨(List.range len).map f, some a, cap, by simp, ?_, ?_, by simp; omega⟩
    · by_cases h0 : len = 0
      · subst h0; exact .inl rfl
      · obtain ⟨b, off, spot⟩ := a
        obtain ⟨u0, hu0⟩ : ∃ u, (E.enc (f 0))[0]? = some u := ⟨_, List.getElem?_eq_getElem (by rw [E.len]; exact hs)⟩
        have hc0 := (hF 0 (by omega)).2 0 _ hu0
        have hspot : spot = none := by simpa [Addr.add] using World.cell?_spot hc0
        subst hspot
        have hb : b < w.heap.size := by
          simp only [add_plain, Nat.zero_mul, Nat.add_zero] at hc0
          exact lt_of_cell hc0
        refine .inr ⟨b, off, rfl, hb, fun i x hi j u hj => ?_⟩
        have hlt : i < len := by
          have := (List.getElem?_eq_some_iff.1 hi).1
          simpa using this
        simp [hlt] at hi
        subst hi
        have := (hF i hlt).2 j u hj
        rw [add_plain, ← Nat.add_assoc] at this
        exact this
    · intro o ho
      obtain ⟨i, hi, rfl⟩ := List.mem_map.1 ho
      exact (hF i (List.mem_range.1 hi)).1
theorem i64_of_wf {n : Int} (h : (Lit.int .i64 n).wf = true) : i64 n := by
  simp only [Lit.wf, Bool.and_eq_true, decide_eq_true_eq] at h
  have hmn : IntKind.i64.min = -9223372036854775808 := by decide
  have hmx : IntKind.i64.max = 9223372036854775807 := by decide
  rw [hmn, hmx] at h
  exact h
section
variable {H : Type} {enc : TypeId × Value → H} {w : World} {base : Nat} {spare : Nat → Bool} {held : Bool} {fuel : Nat} {cs : List Value} {x : DataW H × List MemPlace}
theorem node_of_trod (h : DataW.trod enc Tryz.prog w base spare held fuel 102 cs = some x) : ∃ o : Nd, cs = encN.enc o ∧ i64 o.1 ∧ i64 o.2 := by
  obtain ⟨xs, n, _, _, hlen, hxl, hf⟩ := DataW.trod_struct Tryz.underlying102 h
  have hC : (Tryz.prog).cellsOf 102 = 2 := by kernel_rfl
  have hCi : (Tryz.prog).cellsOf 3 = 1 := by kernel_rfl
  rw [hC] at hlen
  match cs, hlen with
  | [c0, c1], _ =>
    match xs, hxl with
    | [y0, y1], _ =>
      have g0 : DataW.trod enc Tryz.prog w base spare held n 3 (([c0, c1].drop 0).take ((Tryz.prog).cellsOf 3)) = some y0 := hf 0 _ rfl
      have g1 : DataW.trod enc Tryz.prog w base spare held n 3 (([c0, c1].drop 1).take ((Tryz.prog).cellsOf 3)) = some y1 := hf 1 _ rfl
      simp only [hCi] at g0 g1
      obtain ⟨k, e0, _, k0⟩ := DataW.trod_int Tryz.underlying3 g0
      obtain ⟨i, e1, _, k1⟩ := DataW.trod_int Tryz.underlying3 g1
      simp at e0 e1
      subst e0 e1
      exact ⟨(k, i), rfl, i64_of_wf k0, i64_of_wf k1⟩
theorem conf_of_trod (h : DataW.trod enc Tryz.prog w base spare held fuel 31 cs = some x) : ∃ l k K : Int, cs = [.int .i64 l, .int .i64 k, .int .i64 K] ∧ i64 l ∧ i64 k ∧ i64 K := by
  obtain ⟨xs, n, _, _, hlen, hxl, hf⟩ := DataW.trod_struct Tryz.underlying31 h
  have hC : (Tryz.prog).cellsOf 31 = 3 := by kernel_rfl
  have hCi : (Tryz.prog).cellsOf 3 = 1 := by kernel_rfl
  rw [hC] at hlen
  match cs, hlen with
  | [c0, c1, c2], _ =>
    match xs, hxl with
    | [y0, y1, y2], _ =>
      have g0 : DataW.trod enc Tryz.prog w base spare held n 3 (([c0, c1, c2].drop 0).take ((Tryz.prog).cellsOf 3)) = some y0 := hf 0 _ rfl
      have g1 : DataW.trod enc Tryz.prog w base spare held n 3 (([c0, c1, c2].drop 1).take ((Tryz.prog).cellsOf 3)) = some y1 := hf 1 _ rfl
      have g2 : DataW.trod enc Tryz.prog w base spare held n 3 (([c0, c1, c2].drop 2).take ((Tryz.prog).cellsOf 3)) = some y2 := hf 2 _ rfl
      simp only [hCi] at g0 g1 g2
      obtain ⟨k, e0, _, k0⟩ := DataW.trod_int Tryz.underlying3 g0
      obtain ⟨i, e1, _, k1⟩ := DataW.trod_int Tryz.underlying3 g1
      obtain ⟨j, e2, _, k2⟩ := DataW.trod_int Tryz.underlying3 g2
      simp at e0 e1 e2
      subst e0 e1 e2
      exact ⟨k, i, j, rfl, i64_of_wf k0, i64_of_wf k1, i64_of_wf k2⟩
theorem nodes_of_trod (h : DataW.trod enc Tryz.prog w base spare held fuel 32 cs = some x) : ∃ (l : List Nd) (A : Option Addr) (cap : Nat), cs = [.slice A l.length cap] ∧ Sl w w.heap.size encN A l ∧ ints l ∧ l.length ≤ maxLen := by
  obtain ⟨l, A, cap, h1, h2, h3, h4⟩ := slice_of_trod encN (fun o => i64 o.1 ∧ i64 o.2) Tryz.underlying32 (by kernel_rfl) (by decide) (fun _ _ _ h => node_of_trod h) h
  exact ⟨l, A, cap, h1, h2, h3, h4⟩
theorem loaded_of_trod (h : DataW.trod enc Tryz.prog w base spare held fuel 34 cs = some x) :
    ∃ (l k K : Int) (r : List Nd) (A : Option Addr) (cap : Nat), cs = [.int .i64 l, .int .i64 k, .int .i64 K, .slice A r.length cap] ∧ Sl w w.heap.size encN A r ∧ ints r ∧ i64 l ∧ i64 k ∧ i64 K ∧ r.length ≤ maxLen := by
  obtain ⟨xs, n, _, _, hlen, hxl, hf⟩ := DataW.trod_struct Tryz.underlying34 h
  have hC : (Tryz.prog).cellsOf 34 = 4 := by kernel_rfl
  have hCi : (Tryz.prog).cellsOf 31 = 3 := by kernel_rfl
  have hCs : (Tryz.prog).cellsOf 32 = 1 := by kernel_rfl
  rw [hC] at hlen
  match cs, hlen with
  | [c0, c1, c2, c3], _ =>
    match xs, hxl with
    | [y0, y1], _ =>
      have g0 : DataW.trod enc Tryz.prog w base spare held n 31 (([c0, c1, c2, c3].drop 0).take ((Tryz.prog).cellsOf 31)) = some y0 := hf 0 _ rfl
      have g1 : DataW.trod enc Tryz.prog w base spare held n 32 (([c0, c1, c2, c3].drop 3).take ((Tryz.prog).cellsOf 32)) = some y1 := hf 1 _ rfl
      rw [hCi] at g0
      rw [hCs] at g1
      obtain ⟨l, k, K, e0, w0, w1, w2⟩ := conf_of_trod g0
      obtain ⟨r, A, cap, e1, hS, hI, hm⟩ := nodes_of_trod g1
      simp at e0 e1
      obtain ⟨rfl, rfl, rfl⟩ := e0
      subst e1
      exact ⟨l, k, K, r, A, cap, rfl, hS, hI, w0, w1, w2, hm⟩
end
/-- A conf and nodes, by value. -/
def loadedV (l k K : Int) (A : Option Addr) (n cap : Nat) : Value := .agg #[.int .i64 l, .int .i64 k, .int .i64 K, .slice A n cap]
theorem open_Loaded {H : Type} {enc : TypeId × Value → H} {w : World} {base : Nat} {spare : Nat → Bool} {held : Bool} {r : Reach} {b0 : Nat} {v : Value} {d : DataW H} {p : List MemPlace}
    (hv : Value.okWide Tryz.prog w r b0 34 v) (h : DataW.Trod enc Tryz.prog w base spare held 34 v d p) :
    ∃ (l k K : Int) (r : List Nd) (A : Option Addr) (cap : Nat), v = loadedV l k K A r.length cap ∧ Sl w w.heap.size encN A r ∧ ints r ∧ i64 l ∧ i64 k ∧ i64 K ∧ r.length ≤ maxLen := by
  obtain ⟨cs, rfl, hsz⟩ := okWide_struct Tryz.underlying34 hv
  obtain ⟨fuel, hf⟩ := h
  obtain ⟨l, k, K, r, A, cap, hc, rest⟩ := loaded_of_trod hf
  refine ⟨l, k, K, r, A, cap, ?_, rest⟩
  obtain ⟨c⟩ := cs
  have : c = [.int .i64 l, .int .i64 k, .int .i64 K, .slice A r.length cap] := by simpa [Value.cells] using hc
  subst this
  rfl
end Go.Proofs.YtilkfolhglpaoaaGreat
/- Chapter 16: a digest out of a conf and nodes; the chapter's example. -/
namespace Go.Proofs.YtilkfolhglpaoaaGreat
open Go.ChangeShapes Go.WideShapes Go.ChangeAt Go.RowKit
set_option linter.unusedVariables false
set_option maxRecDepth 100000

theorem DigAt.set {w : World} {g K l : Nat} {k : Int} {r : List Nd} {F : Nat → Prop} {q o : Nat} {u : Value} (h : DigAt w g K l k r F) (hp : ∀ b, F b → b ≠ q) : DigAt (w.setCell ⟨q, o, none⟩ u) g K l k r F := h.keep fun b hb => Below.heap_setCell _ _ _ _ (hp b hb)
theorem DigAt.alloc {w : World} {g K l : Nat} {k : Int} {r : List Nd} {F : Nat → Prop} (h : DigAt w g K l k r F) (o : Obj) : DigAt (w.alloc o) g K l k r F := h.below ((Below.refl _ _).alloc (Nat.le_refl _) o)
theorem DigAt.drew {w : World} {g K l : Nat} {k : Int} {r : List Nd} {F : Nat → Prop} (h : DigAt w g K l k r F) : DigAt w.drew g K l k r F := h.keep fun b hb => rfl
/-- There is such a digest, and it isn't too big. -/
def goodL (l k K : Int) (r : List Nd) : Prop := r.length ≤ 150 ∧ ¬ (K = 1 ∧ 10 < l) ∧ loadErr l k K r = 0
theorem goodL_dig {l k K : Int} {r : List Nd} (h : loadErr l k K r = 0) : isDig l k K = true := by
  cases hd : isDig l k K
  · simp only [loadErr] at h; rw [if_pos hd] at h; cases h
  · rfl
theorem goodL_nat {l k K : Int} {r : List Nd} (h : loadErr l k K r = 0) : ∃ n m : Nat, l = n ∧ K = m := by
  have hd := goodL_dig h
  simp only [isDig, isPool, Bool.and_eq_true, decide_eq_true_eq] at hd
  obtain ⟨n, rfl⟩ := Int.eq_ofNat_of_zero_le (show 0 ≤ l by omega)
  obtain ⟨m, rfl⟩ := Int.eq_ofNat_of_zero_le (show 0 ≤ K by omega)
  exact ⟨n, m, rfl, rfl⟩
theorem goodL_parts {l k K : Int} {r : List Nd} (h : loadErr l k K r = 0) : rightOf l r = true ∧ ¬ 8 * k < r.length ∧ lightOf l r k = true := by
  have hd := goodL_dig h
  have hr : rightOf l r = true := by
    cases hr : rightOf l r
    · simp only [loadErr] at h; rw [if_neg (by simp [hd]), if_pos hr] at h; cases h
    · rfl
  have h8 : ¬ 8 * k < r.length := by
    intro h8
    simp only [loadErr] at h
    rw [if_neg (by simp [hd]), if_neg (by simp [hr]), if_pos h8] at h
    cases h
  refine ⟨hr, h8, ?_⟩
  cases hl : lightOf l r k
  · simp only [loadErr] at h; rw [if_neg (by simp [hd]), if_neg (by simp [hr]), if_neg h8, if_pos hl] at h; cases h
  · rfl
theorem law16_Load_no (w : World) (l k K : Int) (A : Option Addr) (cap : Nat) (r : List Nd) (h : ¬ goodL l k K r) (hS : Sl w w.heap.size encN A r) (hI : ints r) (hm : r.length ≤ maxLen) :
    Calls Tryz.prog 22 #[loadedV l k K A r.length cap] w fun e w' => e = .returned (.tuple #[.pointer none, refDig 0 0 none 0 0]) ∧ Below w.heap.size w w' := by
  unfold loadedV refDig
  unfold maxLen at hm
  by_cases h1 : 150 < r.length
  · have h1' : (150 : Int) < (r.length : Int) := by omega
    clear h hS
    go_enter Tryz.func22, Tryz.ntmps22
    go_wp2_with fail
    exact bodyPost_ret (v := .tuple #[.pointer none, .agg #[.int .i64 0, .int .i64 0, .slice none 0 0]]) (by simp only [results, Tryz.results22]; go_simp) rfl ⟨rfl, (by repeat (first | with_reducible exact Below.refl _ _ | with_reducible assumption | ((with_reducible refine Below.setCell ?_ ?_ _); rotate_left; · (first | omega | exact Nat.le_refl _ | (simp <;> omega))) | (with_reducible refine Below.allocW ?_ _) | (with_reducible refine Below.drew ?_) | (with_reducible refine Below.extW ?_ _)))⟩
  · have h1' : ¬ (150 : Int) < (r.length : Int) := by omega
    by_cases h2 : K = 1 ∧ 10 < l
    · obtain ⟨rfl, h2⟩ := h2
      clear h hS
      go_enter Tryz.func22, Tryz.ntmps22
      go_wp2_with fail
      exact bodyPost_ret (v := .tuple #[.pointer none, .agg #[.int .i64 0, .int .i64 0, .slice none 0 0]]) (by simp only [results, Tryz.results22]; go_simp) rfl ⟨rfl, (by repeat (first | with_reducible exact Below.refl _ _ | with_reducible assumption | ((with_reducible refine Below.setCell ?_ ?_ _); rotate_left; · (first | omega | exact Nat.le_refl _ | (simp <;> omega))) | (with_reducible refine Below.allocW ?_ _) | (with_reducible refine Below.drew ?_) | (with_reducible refine Below.extW ?_ _)))⟩
    · have he : loadErr l k K r ≠ 0 := fun he => h ⟨by omega, h2, he⟩
      have HC := Lib.hid (digest_Load_no · l k K A cap r he · hI (by omega))
      have HS := Lib.hid hS
      have he' : (loadErr l k K r == 0) = false := by simpa using he
      generalize loadErr l k K r = er at HC he he'
      clear h hS hI
      by_cases h3 : K = 1
      · subst h3
        have h4 : ¬ 10 < l := fun h4 => h2 ⟨rfl, h4⟩
        clear h2
        go_enter Tryz.func22, Tryz.ntmps22
        go_wp2_with fail
        refine (HC.out _ (HS.out.keep (by simp; omega) fun p hp => Go.RowKit.Below.cell (B := w.heap.size) (w := w) (by repeat (first | with_reducible exact Below.refl _ _ | with_reducible assumption | ((with_reducible refine Below.setCell ?_ ?_ _); rotate_left; · (first | omega | exact Nat.le_refl _ | (simp <;> omega))) | (with_reducible refine Below.allocW ?_ _) | (with_reducible refine Below.drew ?_) | (with_reducible refine Below.extW ?_ _))) hp)).mono ?_
        rintro e w1 ⟨rfl, hb1⟩
        have B1 : Below w.heap.size w w1 := Below.then_ (by repeat (first | with_reducible exact Below.refl _ _ | with_reducible assumption | ((with_reducible refine Below.setCell ?_ ?_ _); rotate_left; · (first | omega | exact Nat.le_refl _ | (simp <;> omega))) | (with_reducible refine Below.allocW ?_ _) | (with_reducible refine Below.drew ?_) | (with_reducible refine Below.extW ?_ _))) hb1
        have s1 : w.heap.size ≤ w1.heap.size := B1.size
        have z1_0 : w.heap.size < w1.heap.size := by have := hb1.size; (try simp at this); omega
        have y1_0 : w.heap.size ≤ w1.heap.size := Nat.le_of_lt z1_0
        have c1_0 := fun o => hb1.cell (p := ⟨w.heap.size, o, none⟩) (by first | omega | (simp <;> omega))
        have f1_0 := fun o => hb1.frozen (p := ⟨w.heap.size, o, none⟩) (by first | omega | (simp <;> omega))
        have z1_1 : w.heap.size + 1 < w1.heap.size := by have := hb1.size; (try simp at this); omega
        have y1_1 : w.heap.size + 1 ≤ w1.heap.size := Nat.le_of_lt z1_1
        have c1_1 := fun o => hb1.cell (p := ⟨w.heap.size + 1, o, none⟩) (by first | omega | (simp <;> omega))
        have f1_1 := fun o => hb1.frozen (p := ⟨w.heap.size + 1, o, none⟩) (by first | omega | (simp <;> omega))
        go_wp2_with fail
        exact bodyPost_ret (v := .tuple #[.pointer none, .agg #[.int .i64 0, .int .i64 0, .slice none 0 0]]) (by simp only [results, Tryz.results22]; go_simp) rfl ⟨rfl, (by repeat (first | with_reducible exact Below.refl _ _ | with_reducible assumption | ((with_reducible refine Below.setCell ?_ ?_ _); rotate_left; · (first | omega | exact Nat.le_refl _ | (simp <;> omega))) | (with_reducible refine Below.allocW ?_ _) | (with_reducible refine Below.drew ?_) | (with_reducible refine Below.extW ?_ _)))⟩
      · have h4 : (K == 1) = false := by simpa using h3
        clear h2
        go_enter Tryz.func22, Tryz.ntmps22
        go_wp2_with fail
        refine (HC.out _ (HS.out.keep (by simp; omega) fun p hp => Go.RowKit.Below.cell (B := w.heap.size) (w := w) (by repeat (first | with_reducible exact Below.refl _ _ | with_reducible assumption | ((with_reducible refine Below.setCell ?_ ?_ _); rotate_left; · (first | omega | exact Nat.le_refl _ | (simp <;> omega))) | (with_reducible refine Below.allocW ?_ _) | (with_reducible refine Below.drew ?_) | (with_reducible refine Below.extW ?_ _))) hp)).mono ?_
        rintro e w1 ⟨rfl, hb1⟩
        have B1 : Below w.heap.size w w1 := Below.then_ (by repeat (first | with_reducible exact Below.refl _ _ | with_reducible assumption | ((with_reducible refine Below.setCell ?_ ?_ _); rotate_left; · (first | omega | exact Nat.le_refl _ | (simp <;> omega))) | (with_reducible refine Below.allocW ?_ _) | (with_reducible refine Below.drew ?_) | (with_reducible refine Below.extW ?_ _))) hb1
        have s1 : w.heap.size ≤ w1.heap.size := B1.size
        have z1_0 : w.heap.size < w1.heap.size := by have := hb1.size; (try simp at this); omega
        have y1_0 : w.heap.size ≤ w1.heap.size := Nat.le_of_lt z1_0
        have c1_0 := fun o => hb1.cell (p := ⟨w.heap.size, o, none⟩) (by first | omega | (simp <;> omega))
        have f1_0 := fun o => hb1.frozen (p := ⟨w.heap.size, o, none⟩) (by first | omega | (simp <;> omega))
        have z1_1 : w.heap.size + 1 < w1.heap.size := by have := hb1.size; (try simp at this); omega
        have y1_1 : w.heap.size + 1 ≤ w1.heap.size := Nat.le_of_lt z1_1
        have c1_1 := fun o => hb1.cell (p := ⟨w.heap.size + 1, o, none⟩) (by first | omega | (simp <;> omega))
        have f1_1 := fun o => hb1.frozen (p := ⟨w.heap.size + 1, o, none⟩) (by first | omega | (simp <;> omega))
        go_wp2_with fail
        exact bodyPost_ret (v := .tuple #[.pointer none, .agg #[.int .i64 0, .int .i64 0, .slice none 0 0]]) (by simp only [results, Tryz.results22]; go_simp) rfl ⟨rfl, (by repeat (first | with_reducible exact Below.refl _ _ | with_reducible assumption | ((with_reducible refine Below.setCell ?_ ?_ _); rotate_left; · (first | omega | exact Nat.le_refl _ | (simp <;> omega))) | (with_reducible refine Below.allocW ?_ _) | (with_reducible refine Below.drew ?_) | (with_reducible refine Below.extW ?_ _)))⟩
/-- What Load hands back. -/
def LPost (K l : Nat) (k : Int) (r : List Nd) (d : Value) (w : World) (e : Ending) (w' : World) : Prop := ∃ g F, e = .returned (.tuple #[.pointer (some ⟨g, 0, none⟩), d]) ∧ DigAt w' g K l k r F ∧ (∀ b, F b → w.heap.size ≤ b) ∧ Below w.heap.size w w'
set_option maxHeartbeats 2000000 in
theorem law16_Load (w : World) (l K : Nat) (k : Int) (A : Option Addr) (cap : Nat) (r : List Nd) (h : goodL l k K r) (hS : Sl w w.heap.size encN A r) (hI : ints r) :
    Calls Tryz.prog 22 #[loadedV l k K A r.length cap] w (LPost K l k r (refDig k l A r.length cap) w) := by
  unfold loadedV refDig
  obtain ⟨h1, h2, h3⟩ := h
  have h1' : ¬ (150 : Int) < (r.length : Int) := by omega
  have HC := Lib.hid (digest_Load · l K k A cap r h3 · hI (by omega))
  have HS := Lib.hid hS
  have hp := goodL_parts h3
  have HR : Hid (∀ W, Sl W W.heap.size encN A r → Calls Tryz.prog 61 #[.agg #[.int .i64 l, .int .i64 k, .int .i64 K], .slice A r.length cap] W fun e w' => e = .returned (.tuple #[.agg #[.int .i64 k, .int .i64 l, .slice A r.length cap], .int .i64 0]) ∧ Below W.heap.size W w') := Lib.hid fun W hW => by
    have := ref13_Load_l W l k K A cap r (goodL_dig h3) hp.1 hp.2.1 hW hI (by omega)
    rw [hp.2.2] at this
    exact this
  clear hS hI h3 hp
  by_cases h3 : K = 1
  · subst h3
    have h4 : ¬ (10 : Int) < (l : Int) := fun h4 => h2 ⟨rfl, h4⟩
    clear h2
    go_enter Tryz.func22, Tryz.ntmps22
    go_wp2_with fail
    refine (HC.out _ (HS.out.keep (by simp; omega) fun p hp => Go.RowKit.Below.cell (B := w.heap.size) (w := w) (by repeat (first | with_reducible exact Below.refl _ _ | with_reducible assumption | ((with_reducible refine Below.setCell ?_ ?_ _); rotate_left; · (first | omega | exact Nat.le_refl _ | (simp <;> omega))) | (with_reducible refine Below.allocW ?_ _) | (with_reducible refine Below.drew ?_) | (with_reducible refine Below.extW ?_ _))) hp)).mono ?_
    rintro e w1 ⟨g, F, rfl, hD, hF, hb1⟩
    have B1 : Below w.heap.size w w1 := Below.then_ (by repeat (first | with_reducible exact Below.refl _ _ | with_reducible assumption | ((with_reducible refine Below.setCell ?_ ?_ _); rotate_left; · (first | omega | exact Nat.le_refl _ | (simp <;> omega))) | (with_reducible refine Below.allocW ?_ _) | (with_reducible refine Below.drew ?_) | (with_reducible refine Below.extW ?_ _))) hb1
    have s1 : w.heap.size ≤ w1.heap.size := B1.size
    have z1_0 : w.heap.size < w1.heap.size := by have := hb1.size; (try simp at this); omega
    have y1_0 : w.heap.size ≤ w1.heap.size := Nat.le_of_lt z1_0
    have c1_0 := fun o => hb1.cell (p := ⟨w.heap.size, o, none⟩) (by first | omega | (simp <;> omega))
    have f1_0 := fun o => hb1.frozen (p := ⟨w.heap.size, o, none⟩) (by first | omega | (simp <;> omega))
    have z1_1 : w.heap.size + 1 < w1.heap.size := by have := hb1.size; (try simp at this); omega
    have y1_1 : w.heap.size + 1 ≤ w1.heap.size := Nat.le_of_lt z1_1
    have c1_1 := fun o => hb1.cell (p := ⟨w.heap.size + 1, o, none⟩) (by first | omega | (simp <;> omega))
    have f1_1 := fun o => hb1.frozen (p := ⟨w.heap.size + 1, o, none⟩) (by first | omega | (simp <;> omega))
    have KD := Lib.hid hD
    simp only [World.size_alloc] at hF
    have KF := Lib.hid hF
    clear hD hF
    go_wp2_with fail
    refine (HR.out _ (HS.out.keep s1 fun p hp => B1.cell hp)).mono ?_
    rintro e w2 ⟨rfl, hb2⟩
    have B2 : Below w.heap.size w w2 := Below.then_ (by repeat (first | with_reducible exact Below.refl _ _ | with_reducible assumption | ((with_reducible refine Below.setCell ?_ ?_ _); rotate_left; · (first | omega | exact Nat.le_refl _ | (simp <;> omega))) | (with_reducible refine Below.allocW ?_ _) | (with_reducible refine Below.drew ?_) | (with_reducible refine Below.extW ?_ _))) hb2
    have s2 : w.heap.size ≤ w2.heap.size := B2.size
    have z2_0 : w.heap.size < w2.heap.size := by have := hb2.size; (try simp at this); omega
    have y2_0 : w.heap.size ≤ w2.heap.size := Nat.le_of_lt z2_0
    have c2_0 := fun o => hb2.cell (p := ⟨w.heap.size, o, none⟩) (by first | omega | (simp <;> omega))
    have f2_0 := fun o => hb2.frozen (p := ⟨w.heap.size, o, none⟩) (by first | omega | (simp <;> omega))
    have z2_1 : w.heap.size + 1 < w2.heap.size := by have := hb2.size; (try simp at this); omega
    have y2_1 : w.heap.size + 1 ≤ w2.heap.size := Nat.le_of_lt z2_1
    have c2_1 := fun o => hb2.cell (p := ⟨w.heap.size + 1, o, none⟩) (by first | omega | (simp <;> omega))
    have f2_1 := fun o => hb2.frozen (p := ⟨w.heap.size + 1, o, none⟩) (by first | omega | (simp <;> omega))
    have KD2 := Lib.hid (KD.out.below hb2)
    go_wp2_with fail
    go_region
    go_wp2_with fail
    refine bodyPost_ret (v := .tuple #[.pointer (some ⟨g, 0, none⟩), .agg #[.int .i64 k, .int .i64 l, .slice A r.length cap]]) (by simp only [results, Tryz.results22]; go_simp) rfl ⟨g, F, rfl, ?_, fun b hb => by have := KF.out b hb; omega, (by repeat (first | with_reducible exact Below.refl _ _ | with_reducible assumption | ((with_reducible refine Below.setCell ?_ ?_ _); rotate_left; · (first | omega | exact Nat.le_refl _ | (simp <;> omega))) | (with_reducible refine Below.allocW ?_ _) | (with_reducible refine Below.drew ?_) | (with_reducible refine Below.extW ?_ _)))⟩
    have hne : ∀ b, F b → b ≠ w.heap.size + 1 := fun b hb => by have := KF.out b hb; omega
    exact ((((KD2.out.set hne).set hne).set hne).alloc _).drew
  · have h4 : ((K : Int) == 1) = false := by simpa using (fun h => h3 (by omega))
    clear h2
    go_enter Tryz.func22, Tryz.ntmps22
    go_wp2_with fail
    refine (HC.out _ (HS.out.keep (by simp; omega) fun p hp => Go.RowKit.Below.cell (B := w.heap.size) (w := w) (by repeat (first | with_reducible exact Below.refl _ _ | with_reducible assumption | ((with_reducible refine Below.setCell ?_ ?_ _); rotate_left; · (first | omega | exact Nat.le_refl _ | (simp <;> omega))) | (with_reducible refine Below.allocW ?_ _) | (with_reducible refine Below.drew ?_) | (with_reducible refine Below.extW ?_ _))) hp)).mono ?_
    rintro e w1 ⟨g, F, rfl, hD, hF, hb1⟩
    have B1 : Below w.heap.size w w1 := Below.then_ (by repeat (first | with_reducible exact Below.refl _ _ | with_reducible assumption | ((with_reducible refine Below.setCell ?_ ?_ _); rotate_left; · (first | omega | exact Nat.le_refl _ | (simp <;> omega))) | (with_reducible refine Below.allocW ?_ _) | (with_reducible refine Below.drew ?_) | (with_reducible refine Below.extW ?_ _))) hb1
    have s1 : w.heap.size ≤ w1.heap.size := B1.size
    have z1_0 : w.heap.size < w1.heap.size := by have := hb1.size; (try simp at this); omega
    have y1_0 : w.heap.size ≤ w1.heap.size := Nat.le_of_lt z1_0
    have c1_0 := fun o => hb1.cell (p := ⟨w.heap.size, o, none⟩) (by first | omega | (simp <;> omega))
    have f1_0 := fun o => hb1.frozen (p := ⟨w.heap.size, o, none⟩) (by first | omega | (simp <;> omega))
    have z1_1 : w.heap.size + 1 < w1.heap.size := by have := hb1.size; (try simp at this); omega
    have y1_1 : w.heap.size + 1 ≤ w1.heap.size := Nat.le_of_lt z1_1
    have c1_1 := fun o => hb1.cell (p := ⟨w.heap.size + 1, o, none⟩) (by first | omega | (simp <;> omega))
    have f1_1 := fun o => hb1.frozen (p := ⟨w.heap.size + 1, o, none⟩) (by first | omega | (simp <;> omega))
    have KD := Lib.hid hD
    simp only [World.size_alloc] at hF
    have KF := Lib.hid hF
    clear hD hF
    go_wp2_with fail
    refine (HR.out _ (HS.out.keep s1 fun p hp => B1.cell hp)).mono ?_
    rintro e w2 ⟨rfl, hb2⟩
    have B2 : Below w.heap.size w w2 := Below.then_ (by repeat (first | with_reducible exact Below.refl _ _ | with_reducible assumption | ((with_reducible refine Below.setCell ?_ ?_ _); rotate_left; · (first | omega | exact Nat.le_refl _ | (simp <;> omega))) | (with_reducible refine Below.allocW ?_ _) | (with_reducible refine Below.drew ?_) | (with_reducible refine Below.extW ?_ _))) hb2
    have s2 : w.heap.size ≤ w2.heap.size := B2.size
    have z2_0 : w.heap.size < w2.heap.size := by have := hb2.size; (try simp at this); omega
    have y2_0 : w.heap.size ≤ w2.heap.size := Nat.le_of_lt z2_0
    have c2_0 := fun o => hb2.cell (p := ⟨w.heap.size, o, none⟩) (by first | omega | (simp <;> omega))
    have f2_0 := fun o => hb2.frozen (p := ⟨w.heap.size, o, none⟩) (by first | omega | (simp <;> omega))
    have z2_1 : w.heap.size + 1 < w2.heap.size := by have := hb2.size; (try simp at this); omega
    have y2_1 : w.heap.size + 1 ≤ w2.heap.size := Nat.le_of_lt z2_1
    have c2_1 := fun o => hb2.cell (p := ⟨w.heap.size + 1, o, none⟩) (by first | omega | (simp <;> omega))
    have f2_1 := fun o => hb2.frozen (p := ⟨w.heap.size + 1, o, none⟩) (by first | omega | (simp <;> omega))
    have KD2 := Lib.hid (KD.out.below hb2)
    go_wp2_with fail
    go_region
    go_wp2_with fail
    refine bodyPost_ret (v := .tuple #[.pointer (some ⟨g, 0, none⟩), .agg #[.int .i64 k, .int .i64 l, .slice A r.length cap]]) (by simp only [results, Tryz.results22]; go_simp) rfl ⟨g, F, rfl, ?_, fun b hb => by have := KF.out b hb; omega, (by repeat (first | with_reducible exact Below.refl _ _ | with_reducible assumption | ((with_reducible refine Below.setCell ?_ ?_ _); rotate_left; · (first | omega | exact Nat.le_refl _ | (simp <;> omega))) | (with_reducible refine Below.allocW ?_ _) | (with_reducible refine Below.drew ?_) | (with_reducible refine Below.extW ?_ _)))⟩
    have hne : ∀ b, F b → b ≠ w.heap.size + 1 := fun b hb => by have := KF.out b hb; omega
    exact ((((KD2.out.set hne).set hne).set hne).alloc _).drew

/-- The chapter's digest. -/
def nodes16 : List Nd := [(1, 1), (4, 2), (7, 3)]
theorem nodes16_ints : ints nodes16 := by
  intro x hx
  simp only [nodes16, List.mem_cons, List.not_mem_nil, or_false] at hx
  rcases hx with rfl | rfl | rfl <;> (unfold i64; simp)
theorem load16 : loadErr 2 4 2 nodes16 = 0 := by decide +kernel
theorem low16_0 : lowOf ((2 : Nat) : Int) nodes16 0 = 2 := by decide +kernel
theorem high16_0 : highOf ((2 : Nat) : Int) nodes16 0 = 3 := by decide +kernel
theorem low16_2 : lowOf ((2 : Nat) : Int) nodes16 2 = 2 := by decide +kernel
theorem low16_3 : lowOf ((2 : Nat) : Int) nodes16 3 = 6 := by decide +kernel
end Go.Proofs.YtilkfolhglpaoaaGreat
/- What a digest that is nil tells; the reference's ranks. -/
namespace Go.Proofs.YtilkfolhglpaoaaGreat
open Go.ChangeShapes Go.WideShapes Go.ChangeAt Go.RowKit
set_option linter.unusedVariables false
set_option maxRecDepth 100000

theorem reckon_count (w : World) (n : Nat) (hn : n ≤ 9223372036854775807) : Calls Tryz.prog 128 #[.int .u64 n] w fun e w' => e = .returned (.tuple #[.int .i64 n, .bool true]) ∧ Below w.heap.size w w' := by
  go_enter Tryz.func128, Tryz.ntmps128
  go_wp2_with fail
  go_ret2
  exact ⟨rfl, (by repeat (first | with_reducible exact Below.refl _ _ | with_reducible assumption | ((with_reducible refine Below.setCell ?_ ?_ _); rotate_left; · (first | omega | exact Nat.le_refl _ | (simp <;> omega))) | (with_reducible refine Below.allocW ?_ _) | (with_reducible refine Below.drew ?_) | (with_reducible refine Below.extW ?_ _)))⟩
theorem digest_Conf_nil (w : World) : Calls Tryz.prog 59 #[.pointer none] w fun e w' => e = .returned (.agg #[.int .i64 0, .int .i64 0, .int .i64 0]) ∧ Below w.heap.size w w' := by
  go_enter Tryz.func59, Tryz.ntmps59
  go_wp2_with fail
  exact bodyPost_ret (v := .agg #[.int .i64 0, .int .i64 0, .int .i64 0]) (by simp only [results, Tryz.results59]; go_simp) rfl ⟨rfl, (by repeat (first | with_reducible exact Below.refl _ _ | with_reducible assumption | ((with_reducible refine Below.setCell ?_ ?_ _); rotate_left; · (first | omega | exact Nat.le_refl _ | (simp <;> omega))) | (with_reducible refine Below.allocW ?_ _) | (with_reducible refine Below.drew ?_) | (with_reducible refine Below.extW ?_ _)))⟩
theorem digest_Nodes_nil (w : World) : Calls Tryz.prog 143 #[.pointer none] w fun e w' => e = .returned (.slice none 0 0) ∧ Below w.heap.size w w' := by
  go_enter Tryz.func143, Tryz.ntmps143
  go_wp2_with fail
  go_ret
  exact ⟨rfl, (by repeat (first | with_reducible exact Below.refl _ _ | with_reducible assumption | ((with_reducible refine Below.setCell ?_ ?_ _); rotate_left; · (first | omega | exact Nat.le_refl _ | (simp <;> omega))) | (with_reducible refine Below.allocW ?_ _) | (with_reducible refine Below.drew ?_) | (with_reducible refine Below.extW ?_ _)))⟩
theorem weigh_nil (w : World) (fv : Value) : Calls Tryz.prog 120 #[.pointer none, fv] w fun e w' => e = .returned (.int .i64 0) ∧ Below w.heap.size w w' := by
  go_enter Tryz.func120, Tryz.ntmps120
  go_wp2_with fail
  refine (digest_Conf_nil _).mono ?_
  rintro e w1 ⟨rfl, hb1⟩
  have B1 : Below w.heap.size w w1 := Below.then_ (by repeat (first | with_reducible exact Below.refl _ _ | with_reducible assumption | ((with_reducible refine Below.setCell ?_ ?_ _); rotate_left; · (first | omega | exact Nat.le_refl _ | (simp <;> omega))) | (with_reducible refine Below.allocW ?_ _) | (with_reducible refine Below.drew ?_) | (with_reducible refine Below.extW ?_ _))) hb1
  have s1 : w.heap.size ≤ w1.heap.size := B1.size
  go_wp2_with fail
  refine (digest_Nodes_nil _).mono ?_
  rintro e w2 ⟨rfl, hb2⟩
  have B2 : Below w.heap.size w w2 := Below.then_ (by repeat (first | with_reducible exact Below.refl _ _ | with_reducible assumption | ((with_reducible refine Below.setCell ?_ ?_ _); rotate_left; · (first | omega | exact Nat.le_refl _ | (simp <;> omega))) | (with_reducible refine Below.allocW ?_ _) | (with_reducible refine Below.drew ?_) | (with_reducible refine Below.extW ?_ _))) hb2
  have s2 : w.heap.size ≤ w2.heap.size := B2.size
  go_wp2_with fail
  go_loop [5, 18] (fun n i => n = .int .i64 0 ∧ i = .int .i64 0) (fun _ _ => 0)
  case atStart => exact ⟨rfl, rfl⟩
  case round =>
    obtain ⟨rfl, rfl⟩ := hrel
    go_wp2_with fail
    go_ret
    exact ⟨rfl, B2⟩
theorem ref13_Weight (w : World) (k u : Int) (A : Option Addr) (cap : Nat) (l : List Nd) (hS : Sl w w.heap.size encN A l) (hI : ints l) (hm : l.length ≤ maxLen) :
    Calls Tryz.prog 69 #[.agg #[.int .i64 k, .int .i64 u, .slice A l.length cap]] w fun e w' => e = .returned (.int .i64 (totalOf l).1) ∧ Below w.heap.size w w' := by
  have HC := Lib.hid (ref7_Total · u A cap l · hI hm)
  have HS := Lib.hid hS
  clear hS hI hm
  go_enter Tryz.func69, Tryz.ntmps69
  go_wp2_with fail
  refine (HC.out _ (HS.out.keep (by simp) fun p hp => Go.RowKit.Below.cell (B := w.heap.size) (w := w) (by repeat (first | with_reducible exact Below.refl _ _ | with_reducible assumption | ((with_reducible refine Below.setCell ?_ ?_ _); rotate_left; · (first | omega | exact Nat.le_refl _ | (simp <;> omega))) | (with_reducible refine Below.allocW ?_ _) | (with_reducible refine Below.drew ?_) | (with_reducible refine Below.extW ?_ _))) hp)).mono ?_
  rintro e w1 ⟨rfl, hb1⟩
  have B1 : Below w.heap.size w w1 := Below.then_ (by repeat (first | with_reducible exact Below.refl _ _ | with_reducible assumption | ((with_reducible refine Below.setCell ?_ ?_ _); rotate_left; · (first | omega | exact Nat.le_refl _ | (simp <;> omega))) | (with_reducible refine Below.allocW ?_ _) | (with_reducible refine Below.drew ?_) | (with_reducible refine Below.extW ?_ _))) hb1
  have s1 : w.heap.size ≤ w1.heap.size := B1.size
  go_wp2_with fail
  go_ret
  exact ⟨rfl, (by repeat (first | with_reducible exact Below.refl _ _ | with_reducible assumption | ((with_reducible refine Below.setCell ?_ ?_ _); rotate_left; · (first | omega | exact Nat.le_refl _ | (simp <;> omega))) | (with_reducible refine Below.allocW ?_ _) | (with_reducible refine Below.drew ?_) | (with_reducible refine Below.extW ?_ _)))⟩
theorem rank_Low_nil (w : World) (y : Int) : Calls Tryz.prog 52 #[.pointer none, .int .i64 y] w fun e w' => e = .returned (.int .i64 0) ∧ Below w.heap.size w w' := by
  go_enter Tryz.func52, Tryz.ntmps52
  go_wp2_with fail
  refine (weigh_nil _ _).mono ?_
  rintro e w1 ⟨rfl, hb1⟩
  have B1 : Below w.heap.size w w1 := Below.then_ (by repeat (first | with_reducible exact Below.refl _ _ | with_reducible assumption | ((with_reducible refine Below.setCell ?_ ?_ _); rotate_left; · (first | omega | exact Nat.le_refl _ | (simp <;> omega))) | (with_reducible refine Below.allocW ?_ _) | (with_reducible refine Below.drew ?_) | (with_reducible refine Below.extW ?_ _))) hb1
  have s1 : w.heap.size ≤ w1.heap.size := B1.size
  go_wp2_with fail
  go_ret
  exact ⟨rfl, (by repeat (first | with_reducible exact Below.refl _ _ | with_reducible assumption | ((with_reducible refine Below.setCell ?_ ?_ _); rotate_left; · (first | omega | exact Nat.le_refl _ | (simp <;> omega))) | (with_reducible refine Below.allocW ?_ _) | (with_reducible refine Below.drew ?_) | (with_reducible refine Below.extW ?_ _)))⟩
theorem ref16_Low (w : World) (u : Int) (A : Option Addr) (cap : Nat) (l : List Nd) (y : Int) (hS : Sl w w.heap.size encN A l) (hI : ints l) (hm : l.length ≤ 67108864) (hr : Roll l) (hs : sumR l ≤ 72057594037927935) :
    Calls Tryz.prog 82 #[.int .i64 u, .slice A l.length cap, .int .i64 y] w fun e w' => e = .returned (.int .i64 (lowOf u l y)) ∧ Below w.heap.size w w' := by
  have HS := Lib.hid hS
  have HI := Lib.hid hI
  clear hS hI
  go_enter Tryz.func82, Tryz.ntmps82
  go_wp2_with fail
  go_loopw [7, 8] (fun n i wr => ∃ q : Nat, q ≤ l.length ∧ i = .int .i64 q ∧ n = .int .i64 (lowOf u (l.take q) y) ∧ Below w.heap.size w wr) (fun _ i _ => l.length - (intOf i).toNat)
  case atStart => exact ⟨0, Nat.zero_le _, rfl, rfl, Below.refl _ _⟩
  case round =>
    obtain ⟨q, hq, rfl, rfl, hB⟩ := hrel
    have hsz := hB.size
    by_cases hlt : q < l.length
    · obtain ⟨c, off, rfl, hc, hcl⟩ := (HS.out.below hB).at_ hlt
      have d0 := hcl 0 (.int .i64 l[q].1) rfl
      have d1 := hcl 1 (.int .i64 l[q].2) rfl
      simp only [Nat.add_zero] at d0
      have zc : c < wr.heap.size := by omega
      have hx := hr.2 _ (List.getElem_mem hlt)
      have hxi := (HI.out _ (List.getElem_mem hlt)).1
      have e1 := sumR_take_succ hlt
      have e2 := sumR_take_le hr (q + 1)
      have e5 := weighR_le (l := u) (f := fun _ hi => decide (hi ≤ y)) (hr.take q)
      have e6 : lowOf u (l.take (q + 1)) y = lowOf u (l.take q) y + lowOf u [l[q]] y := by
        unfold lowOf
        rw [List.take_succ_eq_append_getElem hlt, weighR_append]
      have i1 : (q : Int) < (l.length : Int) := by omega
      obtain ⟨x, hxe⟩ : ∃ x, x = l[q] := ⟨_, rfl⟩
      rw [← hxe] at d0 d1 hx hxi e1 e6
      have e7 : lowOf u [x] y = if decide ((endsOf u x.1).2.1 ≤ y) = true then x.2 else 0 := by simp only [lowOf, weighR]; simp
      have n0 : 0 ≤ lowOf u (l.take q) y := e5.1
      have n1 : lowOf u (l.take q) y + x.2 ≤ 72057594037927935 := by have := e5.2; unfold lowOf; omega
      have E6 := Lib.hid e6
      have E7 := Lib.hid e7
      have HE := Lib.hid (ref2_Ends · u x.1 hxi.2)
      generalize lowOf u (l.take q) y = m at n0 n1 E6 ⊢
      generalize endsOf u x.1 = t at E7 HE
      obtain ⟨t1, t2, t3⟩ := t
      unfold endsV at HE
      clear hcl e1 e2 e5 e6 e7 hxe hxi
      by_cases hle : t2 ≤ y
      · have E8 := Lib.hid (show lowOf u (l.take (q + 1)) y = m + x.2 by rw [E6.out, E7.out, if_pos (by simpa using hle)])
        go_wp2_with fail
        refine (HE.out _).mono ?_
        rintro e w1 ⟨rfl, hb1⟩
        have B1 : Below w.heap.size w w1 := Below.then_ (by repeat (first | with_reducible exact Below.refl _ _ | with_reducible assumption | ((with_reducible refine Below.setCell ?_ ?_ _); rotate_left; · (first | omega | exact Nat.le_refl _ | (simp <;> omega))) | (with_reducible refine Below.allocW ?_ _) | (with_reducible refine Below.drew ?_) | (with_reducible refine Below.extW ?_ _))) hb1
        have s1 : w.heap.size ≤ w1.heap.size := B1.size
        have z1_0 : c < w1.heap.size := by have := hb1.size; (try simp at this); omega
        have y1_0 : c ≤ w1.heap.size := Nat.le_of_lt z1_0
        have c1_0 := fun o => hb1.cell (p := ⟨c, o, none⟩) (by first | omega | (simp <;> omega))
        have f1_0 := fun o => hb1.frozen (p := ⟨c, o, none⟩) (by first | omega | (simp <;> omega))
        go_wp2_with fail
        go_roundw
        case rel => exact ⟨q + 1, by omega, by go_num, by rw [E8.out], B1⟩
        case measure => simp [intOf]; omega
      · have E8 := Lib.hid (show lowOf u (l.take (q + 1)) y = m by rw [E6.out, E7.out, if_neg (by simpa using hle)]; omega)
        go_wp2_with fail
        refine (HE.out _).mono ?_
        rintro e w1 ⟨rfl, hb1⟩
        have B1 : Below w.heap.size w w1 := Below.then_ (by repeat (first | with_reducible exact Below.refl _ _ | with_reducible assumption | ((with_reducible refine Below.setCell ?_ ?_ _); rotate_left; · (first | omega | exact Nat.le_refl _ | (simp <;> omega))) | (with_reducible refine Below.allocW ?_ _) | (with_reducible refine Below.drew ?_) | (with_reducible refine Below.extW ?_ _))) hb1
        have s1 : w.heap.size ≤ w1.heap.size := B1.size
        have z1_0 : c < w1.heap.size := by have := hb1.size; (try simp at this); omega
        have y1_0 : c ≤ w1.heap.size := Nat.le_of_lt z1_0
        have c1_0 := fun o => hb1.cell (p := ⟨c, o, none⟩) (by first | omega | (simp <;> omega))
        have f1_0 := fun o => hb1.frozen (p := ⟨c, o, none⟩) (by first | omega | (simp <;> omega))
        go_wp2_with fail
        go_roundw
        case rel => exact ⟨q + 1, by omega, by go_num, by rw [E8.out], B1⟩
        case measure => simp [intOf]; omega
    · obtain rfl : q = l.length := by omega
      rw [List.take_length]
      go_wp2_with fail
      go_ret
      exact ⟨rfl, hB⟩

theorem rank_High_nil (w : World) (y : Int) : Calls Tryz.prog 53 #[.pointer none, .int .i64 y] w fun e w' => e = .returned (.int .i64 0) ∧ Below w.heap.size w w' := by
  go_enter Tryz.func53, Tryz.ntmps53
  go_wp2_with fail
  refine (weigh_nil _ _).mono ?_
  rintro e w1 ⟨rfl, hb1⟩
  have B1 : Below w.heap.size w w1 := Below.then_ (by repeat (first | with_reducible exact Below.refl _ _ | with_reducible assumption | ((with_reducible refine Below.setCell ?_ ?_ _); rotate_left; · (first | omega | exact Nat.le_refl _ | (simp <;> omega))) | (with_reducible refine Below.allocW ?_ _) | (with_reducible refine Below.drew ?_) | (with_reducible refine Below.extW ?_ _))) hb1
  have s1 : w.heap.size ≤ w1.heap.size := B1.size
  go_wp2_with fail
  go_ret
  exact ⟨rfl, (by repeat (first | with_reducible exact Below.refl _ _ | with_reducible assumption | ((with_reducible refine Below.setCell ?_ ?_ _); rotate_left; · (first | omega | exact Nat.le_refl _ | (simp <;> omega))) | (with_reducible refine Below.allocW ?_ _) | (with_reducible refine Below.drew ?_) | (with_reducible refine Below.extW ?_ _)))⟩
theorem ref16_High (w : World) (u : Int) (A : Option Addr) (cap : Nat) (l : List Nd) (y : Int) (hS : Sl w w.heap.size encN A l) (hI : ints l) (hm : l.length ≤ 67108864) (hr : Roll l) (hs : sumR l ≤ 72057594037927935) :
    Calls Tryz.prog 81 #[.int .i64 u, .slice A l.length cap, .int .i64 y] w fun e w' => e = .returned (.int .i64 (highOf u l y)) ∧ Below w.heap.size w w' := by
  have HS := Lib.hid hS
  have HI := Lib.hid hI
  clear hS hI
  go_enter Tryz.func81, Tryz.ntmps81
  go_wp2_with fail
  go_loopw [7, 8] (fun n i wr => ∃ q : Nat, q ≤ l.length ∧ i = .int .i64 q ∧ n = .int .i64 (highOf u (l.take q) y) ∧ Below w.heap.size w wr) (fun _ i _ => l.length - (intOf i).toNat)
  case atStart => exact ⟨0, Nat.zero_le _, rfl, rfl, Below.refl _ _⟩
  case round =>
    obtain ⟨q, hq, rfl, rfl, hB⟩ := hrel
    have hsz := hB.size
    by_cases hlt : q < l.length
    · obtain ⟨c, off, rfl, hc, hcl⟩ := (HS.out.below hB).at_ hlt
      have d0 := hcl 0 (.int .i64 l[q].1) rfl
      have d1 := hcl 1 (.int .i64 l[q].2) rfl
      simp only [Nat.add_zero] at d0
      have zc : c < wr.heap.size := by omega
      have hx := hr.2 _ (List.getElem_mem hlt)
      have hxi := (HI.out _ (List.getElem_mem hlt)).1
      have e1 := sumR_take_succ hlt
      have e2 := sumR_take_le hr (q + 1)
      have e5 := weighR_le (l := u) (f := fun lo _ => decide (lo ≤ y)) (hr.take q)
      have e6 : highOf u (l.take (q + 1)) y = highOf u (l.take q) y + highOf u [l[q]] y := by
        unfold highOf
        rw [List.take_succ_eq_append_getElem hlt, weighR_append]
      have i1 : (q : Int) < (l.length : Int) := by omega
      obtain ⟨x, hxe⟩ : ∃ x, x = l[q] := ⟨_, rfl⟩
      rw [← hxe] at d0 d1 hx hxi e1 e6
      have e7 : highOf u [x] y = if decide ((endsOf u x.1).1 ≤ y) = true then x.2 else 0 := by simp only [highOf, weighR]; simp
      have n0 : 0 ≤ highOf u (l.take q) y := e5.1
      have n1 : highOf u (l.take q) y + x.2 ≤ 72057594037927935 := by have := e5.2; unfold highOf; omega
      have E6 := Lib.hid e6
      have E7 := Lib.hid e7
      have HE := Lib.hid (ref2_Ends · u x.1 hxi.2)
      generalize highOf u (l.take q) y = m at n0 n1 E6 ⊢
      generalize endsOf u x.1 = t at E7 HE
      obtain ⟨t1, t2, t3⟩ := t
      unfold endsV at HE
      clear hcl e1 e2 e5 e6 e7 hxe hxi
      by_cases hle : t1 ≤ y
      · have E8 := Lib.hid (show highOf u (l.take (q + 1)) y = m + x.2 by rw [E6.out, E7.out, if_pos (by simpa using hle)])
        go_wp2_with fail
        refine (HE.out _).mono ?_
        rintro e w1 ⟨rfl, hb1⟩
        have B1 : Below w.heap.size w w1 := Below.then_ (by repeat (first | with_reducible exact Below.refl _ _ | with_reducible assumption | ((with_reducible refine Below.setCell ?_ ?_ _); rotate_left; · (first | omega | exact Nat.le_refl _ | (simp <;> omega))) | (with_reducible refine Below.allocW ?_ _) | (with_reducible refine Below.drew ?_) | (with_reducible refine Below.extW ?_ _))) hb1
        have s1 : w.heap.size ≤ w1.heap.size := B1.size
        have z1_0 : c < w1.heap.size := by have := hb1.size; (try simp at this); omega
        have y1_0 : c ≤ w1.heap.size := Nat.le_of_lt z1_0
        have c1_0 := fun o => hb1.cell (p := ⟨c, o, none⟩) (by first | omega | (simp <;> omega))
        have f1_0 := fun o => hb1.frozen (p := ⟨c, o, none⟩) (by first | omega | (simp <;> omega))
        go_wp2_with fail
        go_roundw
        case rel => exact ⟨q + 1, by omega, by go_num, by rw [E8.out], B1⟩
        case measure => simp [intOf]; omega
      · have E8 := Lib.hid (show highOf u (l.take (q + 1)) y = m by rw [E6.out, E7.out, if_neg (by simpa using hle)]; omega)
        go_wp2_with fail
        refine (HE.out _).mono ?_
        rintro e w1 ⟨rfl, hb1⟩
        have B1 : Below w.heap.size w w1 := Below.then_ (by repeat (first | with_reducible exact Below.refl _ _ | with_reducible assumption | ((with_reducible refine Below.setCell ?_ ?_ _); rotate_left; · (first | omega | exact Nat.le_refl _ | (simp <;> omega))) | (with_reducible refine Below.allocW ?_ _) | (with_reducible refine Below.drew ?_) | (with_reducible refine Below.extW ?_ _))) hb1
        have s1 : w.heap.size ≤ w1.heap.size := B1.size
        have z1_0 : c < w1.heap.size := by have := hb1.size; (try simp at this); omega
        have y1_0 : c ≤ w1.heap.size := Nat.le_of_lt z1_0
        have c1_0 := fun o => hb1.cell (p := ⟨c, o, none⟩) (by first | omega | (simp <;> omega))
        have f1_0 := fun o => hb1.frozen (p := ⟨c, o, none⟩) (by first | omega | (simp <;> omega))
        go_wp2_with fail
        go_roundw
        case rel => exact ⟨q + 1, by omega, by go_num, by rw [E8.out], B1⟩
        case measure => simp [intOf]; omega
    · obtain rfl : q = l.length := by omega
      rw [List.take_length]
      go_wp2_with fail
      go_ret
      exact ⟨rfl, hB⟩
end Go.Proofs.YtilkfolhglpaoaaGreat
/- The reference of layer 1 (reckon): numbers as digits to the base 1000. -/
namespace Go.Proofs.YtilkfolhglpaoaaGreat
open Go.ChangeShapes Go.WideShapes Go.ChangeAt Go.RowKit
set_option linter.unusedVariables false

def encD : Enc Nat 1 := ⟨fun x => [.int .i64 x], fun _ => rfl, by intro x u hu; simp at hu; subst hu; rfl⟩
def dg (l : List Nat) (i : Nat) : Nat := l.getD i 0
def valD : List Nat → Nat
  | [] => 0
  | x :: l => x + 1000 * valD l
def okD (l : List Nat) : Prop := ∀ x ∈ l, x ≤ 999
theorem valD_snoc (l : List Nat) (x : Nat) : valD (l ++ [x]) = valD l + x * 1000 ^ l.length := by
  induction l with
  | nil => simp [valD]
  | cons y l ih =>
    simp only [List.cons_append, valD, ih, List.length_cons, Nat.pow_succ]
    rw [Nat.mul_add, show x * (1000 ^ l.length * 1000) = 1000 * (x * 1000 ^ l.length) by rw [← Nat.mul_assoc, Nat.mul_comm]]
    omega
theorem dg_le {l : List Nat} (h : okD l) (i : Nat) : dg l i ≤ 999 := by
  unfold dg
  rw [List.getD_eq_getElem?_getD]
  rcases hx : l[i]? with _ | x
  · simp
  · simp only [Option.getD_some]
    exact h x (List.mem_of_getElem? hx)
theorem dg_at {l : List Nat} {i : Nat} (h : i < l.length) : dg l i = l[i] := by
  unfold dg
  rw [List.getD_eq_getElem?_getD, List.getElem?_eq_getElem h]; rfl
theorem dg_out {l : List Nat} {i : Nat} (h : l.length ≤ i) : dg l i = 0 := by
  unfold dg
  rw [List.getD_eq_getElem?_getD, List.getElem?_eq_none h]; rfl
theorem valD_take_succ (l : List Nat) (i : Nat) : valD (l.take (i + 1)) = valD (l.take i) + dg l i * 1000 ^ i := by
  by_cases h : i < l.length
  · rw [List.take_succ_eq_append_getElem h, valD_snoc, List.length_take, Nat.min_eq_left (by omega), dg_at h]
  · rw [dg_out (by omega), List.take_of_length_le (by omega), List.take_of_length_le (by omega)]; simp
theorem okD.take {l : List Nat} (h : okD l) (i : Nat) : okD (l.take i) := fun x hx => h x (List.mem_of_mem_take hx)
theorem okD.snoc {l : List Nat} (h : okD l) {x : Nat} (hx : x ≤ 999) : okD (l ++ [x]) := by
  intro y hy
  rcases List.mem_append.1 hy with hy | hy
  · exact h y hy
  · simp at hy; omega
theorem okD.nil : okD [] := fun x hx => by simp at hx
theorem valD_take_lt {l : List Nat} (h : okD l) (i : Nat) : valD (l.take i) < 1000 ^ i := by
  induction i with
  | zero => simp [valD]
  | succ i ih =>
    rw [valD_take_succ, Nat.pow_succ]
    have h1 := dg_le h i
    have h2 : dg l i * 1000 ^ i ≤ 999 * 1000 ^ i := Nat.mul_le_mul_right _ h1
    omega
theorem valD_zeros (k : Nat) : valD (List.replicate k 0) = 0 := by
  induction k with
  | zero => rfl
  | succ k ih => rw [List.replicate_succ]; simp [valD, ih]
theorem okD.zeros (k : Nat) : okD (List.replicate k 0) := fun x hx => by have := (List.mem_replicate.1 hx).2; omega
theorem zeros_snoc (k : Nat) : List.replicate k 0 ++ [0] = List.replicate (k + 1) 0 := by rw [List.replicate_succ']

/-- One digit of a number n = m * 1000^e more. -/
theorem digit_step {V m e n : Nat} (h : V + m * 1000 ^ e = n) : V + m % 1000 * 1000 ^ e + m / 1000 * 1000 ^ (e + 1) = n := by
  have h1 : m / 1000 * 1000 ^ (e + 1) = 1000 * (m / 1000) * 1000 ^ e := by rw [Nat.pow_succ, Nat.mul_comm (1000 ^ e), ← Nat.mul_assoc, Nat.mul_comm (m / 1000)]
  have h2 : m % 1000 * 1000 ^ e + 1000 * (m / 1000) * 1000 ^ e = m * 1000 ^ e := by rw [← Nat.add_mul, Nat.mod_add_div]
  omega
theorem digits_few {V m e n : Nat} (h : V + m * 1000 ^ e = n) (hm : 1 ≤ m) (hn : n < 9223372036854775808) : e < 7 := by
  have h1 : 1000 ^ e ≤ m * 1000 ^ e := Nat.le_mul_of_pos_left _ hm
  refine (Nat.pow_lt_pow_iff_right (a := 1000) (by decide)).1 ?_
  have : (1000 : Nat) ^ 7 = 1000000000000000000000 := by decide
  omega

theorem ref1_Is (w : World) (n : Int) : Calls Tryz.prog 84 #[.int .i64 n] w fun e w' => e = .returned (.bool (decide (0 ≤ n))) ∧ Below w.heap.size w w' := by
  go_enter Tryz.func84, Tryz.ntmps84
  go_wp2_with fail
  go_ret
  exact ⟨rfl, (by repeat (first | with_reducible exact Below.refl _ _ | with_reducible assumption | ((with_reducible refine Below.setCell ?_ ?_ _); rotate_left; · (first | omega | exact Nat.le_refl _ | (simp <;> omega))) | (with_reducible refine Below.allocW ?_ _) | (with_reducible refine Below.drew ?_) | (with_reducible refine Below.extW ?_ _)))⟩
theorem ref1_digit (w : World) (A : Option Addr) (cap : Nat) (l : List Nat) (i : Nat) (hS : Sl w w.heap.size encD A l) (hm : l.length ≤ 1000000) (hi : i ≤ 1000000) :
    Calls Tryz.prog 161 #[.slice A l.length cap, .int .i64 i] w fun e w' => e = .returned (.int .i64 (dg l i)) ∧ Below w.heap.size w w' := by
  by_cases h : i < l.length
  · obtain ⟨b, off, rfl, hb, hc⟩ := hS.at_ h
    have d0 := hc 0 (.int .i64 l[i]) rfl
    simp only [Nat.add_zero, Nat.mul_one] at d0
    rw [← dg_at h] at d0
    clear hS hc
    go_enter Tryz.func161, Tryz.ntmps161
    go_wp2_with fail
    go_ret
    exact ⟨rfl, (by repeat (first | with_reducible exact Below.refl _ _ | with_reducible assumption | ((with_reducible refine Below.setCell ?_ ?_ _); rotate_left; · (first | omega | exact Nat.le_refl _ | (simp <;> omega))) | (with_reducible refine Below.allocW ?_ _) | (with_reducible refine Below.drew ?_) | (with_reducible refine Below.extW ?_ _)))⟩
  · rw [dg_out (by omega)]
    clear hS
    go_enter Tryz.func161, Tryz.ntmps161
    go_wp2_with fail
    go_ret
    exact ⟨rfl, (by repeat (first | with_reducible exact Below.refl _ _ | with_reducible assumption | ((with_reducible refine Below.setCell ?_ ?_ _); rotate_left; · (first | omega | exact Nat.le_refl _ | (simp <;> omega))) | (with_reducible refine Below.allocW ?_ _) | (with_reducible refine Below.drew ?_) | (with_reducible refine Below.extW ?_ _)))⟩
theorem ref1_Digits (w : World) (n : Nat) (hn : n < 9223372036854775808) :
    Calls Tryz.prog 87 #[.int .i64 n] w fun e w' => ∃ v L, e = .returned v ∧ Own w' w.heap.size 3 encD v L ∧ okD L ∧ valD L = n ∧ L.length ≤ 7 ∧ Below w.heap.size w w' := by
  go_enter Tryz.func87, Tryz.ntmps87
  go_wp2_with fail
  go_loopw [0, 3] (fun a v wr => ∃ (m : Nat) (L : List Nat), a = .int .i64 m ∧ Own wr w.heap.size 3 encD v L ∧ okD L ∧ valD L + m * 1000 ^ L.length = n ∧ L.length ≤ 7 ∧ m ≤ n ∧ Below w.heap.size w wr) (fun a _ _ => (intOf a).toNat)
  case atStart => exact ⟨n, [], rfl, Own.nil _ _ _ _, okD.nil, by simp [valD], by simp, Nat.le_refl _, Below.refl _ _⟩
  case round =>
    obtain ⟨m, L, rfl, hO, hk, hv, hL, hmn, hB⟩ := hrel
    have HO := Lib.hid hO
    have HK := Lib.hid hk
    have HV := Lib.hid hv
    have hs := hB.size
    clear hO hk hv
    by_cases h : 1 ≤ m
    · have h7 := digits_few HV.out h hn
      obtain ⟨r, hr⟩ : ∃ r, r = m % 1000 := ⟨_, rfl⟩
      obtain ⟨k, hq⟩ : ∃ k, k = m / 1000 := ⟨_, rfl⟩
      have e1 : (m : Int) % 1000 = (r : Int) := by omega
      have e2 : (m : Int) / 1000 = (k : Int) := by omega
      have HN := Lib.hid (digit_step HV.out)
      rw [← hr, ← hq] at HN
      have hr9 : r ≤ 999 := by omega
      have hk9 : k < m := by omega
      clear hr hq
      go_wp2_with ((at_builtin; refine wpList_push tyZ rfl _ _ rfl encD wr w.heap.size u3 _ rfl HO.out r (by go_simp) rfl ?c1 ?c2 ?c3 ?c4))
      case c1 => omega
      case c2 => simp only [maxLen]; omega
      case c3 => exact hs
      case c4 =>
        intro v' w2 hown2 hgrow _ hlies hb2 _
        have HO2 := Lib.hid hown2
        clear hown2
        go_wp2_with fail
        go_roundw
        case rel => exact ⟨k, L ++ [r], by go_num, HO2.out, HK.out.snoc hr9, by rw [valD_snoc, List.length_append]; exact HN.out, by simp; omega, by omega, Below.trans hB hb2⟩
        case measure => simp [intOf]; omega
    · obtain rfl : m = 0 := by omega
      go_wp2_with fail
      go_ret
      exact ⟨_, _, rfl, HO.out, HK.out, by have := HV.out; omega, hL, hB⟩
theorem ref1_Sum (w : World) (A B : Option Addr) (c1 c2 : Nat) (a b : List Nat) (hA : Sl w w.heap.size encD A a) (hB : Sl w w.heap.size encD B b) (ka : okD a) (kb : okD b) (la : a.length ≤ 1000) (lb : b.length ≤ 1000) :
    Calls Tryz.prog 162 #[.slice A a.length c1, .slice B b.length c2] w fun e w' => ∃ v L, e = .returned v ∧ Own w' w.heap.size 3 encD v L ∧ okD L ∧ valD L = valD a + valD b ∧ (L.length ≤ a.length + 1 ∨ L.length ≤ b.length + 1) ∧ Below w.heap.size w w' := by
  have HA := Lib.hid hA
  have HB := Lib.hid hB
  have KA := Lib.hid ka
  have KB := Lib.hid kb
  clear hA hB ka kb
  go_enter Tryz.func162, Tryz.ntmps162
  go_wp2_with fail
  go_loopw [5, 6, 7] (fun v c i wr => ∃ (m j : Nat) (L : List Nat), c = .int .i64 m ∧ i = .int .i64 j ∧ Own wr w.heap.size 3 encD v L ∧ okD L ∧ L.length = j ∧ valD L + m * 1000 ^ j = valD (a.take j) + valD (b.take j) ∧ m ≤ 1 ∧ (j ≤ a.length ∨ j ≤ b.length ∨ ((j ≤ a.length + 1 ∨ j ≤ b.length + 1) ∧ m = 0)) ∧ Below w.heap.size w wr) (fun _ _ i _ => a.length + b.length + 2 - (intOf i).toNat)
  case atStart => exact ⟨0, 0, [], rfl, rfl, Own.nil _ _ _ _, okD.nil, rfl, by simp [valD], by omega, .inl (Nat.zero_le _), Below.refl _ _⟩
  case round =>
    obtain ⟨m, j, L, rfl, rfl, hO, hk, hl, hv, hm, hj, hW⟩ := hrel
    have HO := Lib.hid hO
    have HK := Lib.hid hk
    have HV := Lib.hid hv
    have hs := hW.size
    clear hO hk hv
    have hd := dg_le KA.out j
    have hd' := dg_le KB.out j
    have DA := Lib.hid (ref1_digit · A c1 a j · (by omega) (by omega))
    have DB := Lib.hid (ref1_digit · B c2 b j · (by omega) (by omega))
    have HN := Lib.hid (show valD L + (m + dg a j + dg b j) * 1000 ^ j = valD (a.take (j + 1)) + valD (b.take (j + 1)) by
      rw [valD_take_succ, valD_take_succ, Nat.add_mul, Nat.add_mul]; have := HV.out; omega)
    have HX := Lib.hid (fun h : a.length ≤ j => dg_out (l := a) h)
    have HY := Lib.hid (fun h : b.length ≤ j => dg_out (l := b) h)
    generalize dg a j = x at hd DA HN HX
    generalize dg b j = y at hd' DB HN HY
    obtain ⟨r, hr⟩ : ∃ r, r = (m + x + y) % 1000 := ⟨_, rfl⟩
    obtain ⟨k, hq⟩ : ∃ k, k = (m + x + y) / 1000 := ⟨_, rfl⟩
    have e1 : ((m : Int) + (x : Int) + (y : Int)) % 1000 = (r : Int) := by omega
    have e2 : ((m : Int) + (x : Int) + (y : Int)) / 1000 = (k : Int) := by omega
    have HN2 := Lib.hid (digit_step HN.out)
    rw [← hr, ← hq] at HN2
    have hr9 : r ≤ 999 := by omega
    have hk9 : k ≤ 1 := by omega
    have hk0 : k = 0 ∨ j < a.length ∨ j < b.length := by
      by_cases h1 : j < a.length
      · exact .inr (.inl h1)
      · by_cases h2 : j < b.length
        · exact .inr (.inr h2)
        · left
          have hx0 := HX.out (by omega)
          have hy0 := HY.out (by omega)
          omega
    have HK0 := Lib.hid hk0
    clear hr hq hk0
    by_cases hc : j < a.length ∨ j < b.length ∨ 0 < m
    · rcases (show j < a.length ∨ (¬ j < a.length ∧ j < b.length) ∨ (¬ j < a.length ∧ ¬ j < b.length ∧ 0 < m) by omega) with h1 | ⟨h1, h2⟩ | ⟨h1, h2, h3⟩
      all_goals (
        have HJ := Lib.hid (show j ≤ a.length ∨ j ≤ b.length by omega)
        have hj1 : j ≤ 1000 := by omega
        clear hc hj
        go_wp2_with fail
        refine (DA.out _ (HA.out.keep (by omega) fun p hp => hW.cell hp)).mono ?_
        rintro e w1 ⟨rfl, hb1⟩
        have B1 : Below w.heap.size w w1 := Below.then_ (by repeat (first | with_reducible exact Below.refl _ _ | with_reducible assumption | ((with_reducible refine Below.setCell ?_ ?_ _); rotate_left; · (first | omega | exact Nat.le_refl _ | (simp <;> omega))) | (with_reducible refine Below.allocW ?_ _) | (with_reducible refine Below.drew ?_) | (with_reducible refine Below.extW ?_ _))) hb1
        have s1 : w.heap.size ≤ w1.heap.size := B1.size
        have W1 := hW.trans (hb1.mono hs)
        go_wp2_with fail
        refine (DB.out _ (HB.out.keep (by omega) fun p hp => W1.cell hp)).mono ?_
        rintro e w2 ⟨rfl, hb2⟩
        have B2 : Below w.heap.size w w2 := Below.then_ (by repeat (first | with_reducible exact Below.refl _ _ | with_reducible assumption | ((with_reducible refine Below.setCell ?_ ?_ _); rotate_left; · (first | omega | exact Nat.le_refl _ | (simp <;> omega))) | (with_reducible refine Below.allocW ?_ _) | (with_reducible refine Below.drew ?_) | (with_reducible refine Below.extW ?_ _))) hb2
        have s2 : w.heap.size ≤ w2.heap.size := B2.size
        have W2 := W1.trans (hb2.mono (by omega))
        have O2 := Lib.hid ((HO.out.below hb1).below hb2)
        clear hb1 hb2 B1 B2
        go_wp2_with ((at_builtin; refine wpList_push tyZ rfl _ _ rfl encD w2 w.heap.size u5 _ rfl O2.out r (by go_simp) rfl ?c1 ?c2 ?c3 ?c4))
        case c1 => omega
        case c2 => simp only [maxLen]; omega
        case c3 => exact W2.size
        case c4 =>
          intro v' w3 hown3 hgrow _ hlies hb3 _
          have HO3 := Lib.hid hown3
          clear hown3
          have W3 := Below.trans W2 hb3
          have hl1 : (L ++ [r]).length = j + 1 := by rw [List.length_append, hl]; rfl
          have HL1 := Lib.hid hl1
          clear hl1
          go_wp2_with fail
          go_roundw
          case rel => exact ⟨k, j + 1, L ++ [r], by go_num, by go_num, HO3.out, HK.out.snoc hr9, HL1.out, by rw [valD_snoc, hl]; exact HN2.out, hk9, by have := HK0.out; have := HJ.out; omega, W3⟩
          case measure => have := HJ.out; simp [intOf]; omega)
    · have h1 : ¬ j < a.length := by omega
      have h2 : ¬ j < b.length := by omega
      obtain rfl : m = 0 := by omega
      clear hc
      have HV2 := Lib.hid (show valD L = valD a + valD b by have := HV.out; rw [List.take_of_length_le (by omega), List.take_of_length_le (by omega)] at this; omega)
      go_wp2_with fail
      go_ret
      exact ⟨_, rfl, _, HO.out, HK.out, HV2.out, by omega, hW⟩
end Go.Proofs.YtilkfolhglpaoaaGreat
