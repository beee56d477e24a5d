/-
  Texts of this proof, one behind the other: Made2, Reach, Reach2, Table, TabOf, RankPlain, FitsP, Of, Same, Bars, Leaf, MemIn, BinsLaw, Runs, ReachRef, Edges, EachOf, Bound.
-/
import Derived.Deep.DeepCutAuto
import Derived.Deep.RegionWith
import Derived.Shelf.SlSorted.Search
import Derived.Laws.BitsLemmas
import Derived.OwnWalkIn
import Derived.Test.YtbmmkhbdcaokkaaGreatP2
import Derived.Test.YtbmmkhbdcaokkaaGreatP3
/- Package rank: made: the walk. -/
set_option linter.unusedSimpArgs false namespace Go.Proofs.YtbmmkhbdcaokkaaGreat
open Go.ChangeShapes Go.WideShapes Go.ChangeAt Go.RowKit
set_option linter.unusedVariables false
set_option maxRecDepth 100000

set_option maxHeartbeats 4000000 in
theorem rank_made (w : World) (base : Nat) (v : Value) (l : List Nd) (ho : Own w base 187 encN v l) (hl : ∀ x ∈ l, 0 ≤ x.1 ∧ x.1 ≤ 281474976710655) (h1 : ∀ x ∈ l, 1 ≤ x.2) (hs : sumR l ≤ 72057594037927935) (hm : l.length ≤ 67108864) :
    Calls Tryz.prog 150 #[v] w (MadePost v l w) := by
  have hno := ho.not_at w.heap.size (Nat.le_refl _)
  have HO := Lib.hid (ho.alloc (.cells #[.slice none 0 0, .slice none 0 0] 189))
  have HL := Lib.hid hl
  have H1 := Lib.hid h1
  clear ho hl h1
  go_enter Tryz.func150, Tryz.ntmps150
  go_wp2_with fail
  refine (made_sort _ base v l HO.out HL.out hm).mono ?_
  rintro e w1 ⟨rfl, l', hp, hsrt, ho1, hT⟩
  have HLen := Lib.hid hp.length_eq
  have hlm : l'.length ≤ 67108864 := by have := HLen.out; omega
  have HTu := Lib.hid hT
  have s1 := hT.size
  have HP := Lib.hid hp
  have HSo := Lib.hid hsrt
  have HO1 := Lib.hid ho1
  have z0 : w.heap.size < w1.heap.size := by simp at s1; omega
  have N0 := Lib.hid (hT.keep (b := w.heap.size) (heap_alloc_new w _) hno)
  clear hp hsrt ho1 hT
  obtain ⟨A, cap, hvf, _⟩ := HO1.out.form
  have HV := Lib.hid hvf
  subst hvf
  go_wp2_with fail
  have S0 : Hid (TwoSt w1 w.heap.size (w1.heap.size + 1) w.heap.size w1.heap.size (.slice A l'.length cap) l' (.slice none 0 0) (.slice none 0 0) (w1.alloc (.cells #[.slice none 0 0, .slice none 0 0] 189)) (.slice none 0 0) [] (.slice none 0 0) []) :=
    Lib.hid ⟨(HO1.out.base_le (Nat.zero_le _)).alloc _, heap_alloc_new w1 _, (Below.heap_alloc w1 _ w.heap.size z0).trans N0.out, Own.nil _ _ _ _, Own.nil _ _ _ _, (fun g h => by cases h), (Below.refl _ _).alloc (by omega) _, (by simp), z0, (by omega), Nat.le_refl _⟩
  go_loopw [4, 12] (fun n i wr => ∃ (q k1 k2 : Nat) (t : List Nd) (A1 A2 : Option Addr) (c1 c2 : Nat), q ≤ l'.length ∧ i = .int .i64 q ∧ n = .int .i64 (sumR (l'.take q)) ∧ k1 = t.length ∧ k2 = t.length ∧
      TwoSt w1 w.heap.size (w1.heap.size + 1) w.heap.size w1.heap.size (.slice A l'.length cap) l' (.slice A1 k1 c1) (.slice A2 k2 c2) wr (.slice A1 k1 c1) (t.map (·.1)) (.slice A2 k2 c2) (t.map (·.2)) ∧ Tab (l'.take q) t ∧ t.length ≤ q) (fun _ i _ => l'.length - (intOf i).toNat)
  case atStart => exact ⟨0, 0, 0, [], none, none, 0, 0, Nat.zero_le _, rfl, rfl, rfl, rfl, S0.out, Tab.nil, Nat.le_refl _⟩
  case round =>
    obtain ⟨q, k1, k2, t, A1, A2, c1, c2, hq, rfl, rfl, hk1, hk2, hst, htab, htq⟩ := hrel
    have hz := hst.size
    have hzs : w1.heap.size < wr.heap.size := by omega
    have cs := blk_cell hst.sums
    have cf := blk_frozen hst.sums
    have KST := Lib.hid hst
    have KT := Lib.hid htab
    by_cases hlt : q < l'.length
    · obtain ⟨c, off, rfl, hc, hcl⟩ := hst.lst.sl.at_ hlt
      have d0 := hcl 0 (.int .i64 l'[q].1) rfl
      have d1 := hcl 1 (.int .i64 l'[q].2) rfl
      simp only [Nat.add_zero] at d0
      have hx := HL.out _ (HP.out.mem_iff.1 (List.getElem_mem hlt))
      have hx1 := H1.out _ (HP.out.mem_iff.1 (List.getElem_mem hlt))
      have e1 := sumR_take_succ hlt
      have hle : ∀ z ∈ l'.take q, z.1 ≤ l'[q].1 := fun z hz => by
        obtain ⟨i, hi, rfl⟩ := List.getElem_of_mem hz
        have hi' : i < q := by rw [List.length_take] at hi; omega
        rw [List.getElem_take]
        exact List.pairwise_iff_getElem.1 HSo.out i q (by omega) hlt hi'
      have hts := List.take_succ_eq_append_getElem hlt
      have hpos : ∀ z ∈ l', 1 ≤ z.2 := fun z hz => H1.out z (HP.out.mem_iff.1 hz)
      have hsb := sum_part hpos hlt
      rw [sumR_perm HP.out] at hsb
      obtain ⟨y, hye⟩ : ∃ y, y = l'[q] := ⟨_, rfl⟩
      rw [← hye] at d0 d1 hx hx1 e1 hle hts hsb
      have HTS := Lib.hid hts
      have HLE := Lib.hid hle
      have HE1 := Lib.hid e1
      have hlq : q ≤ 67108864 := by omega
      have HK1 := Lib.hid hk1
      have HK2 := Lib.hid hk2
      have kb1 : k1 ≤ 67108864 := by omega
      have kb2 : k2 ≤ 67108864 := by omega
      obtain ⟨n, hn⟩ : ∃ n, n = sumR (l'.take q) := ⟨_, rfl⟩
      rw [← hn] at hsb HE1 ⊢
      have HN := Lib.hid hn
      have i1 := hst.own1.len_le
      have i2 := hst.own2.len_le
      simp only [List.length_map] at i1 i2
      have ic1 : k1 ≤ c1 := by omega
      have ic2 : k2 ≤ c2 := by omega
      have kk : Hid (k2 = k1) := Lib.hid (by omega)
      clear hst htab hcl e1 hle hts hye hpos hk1 hk2 hn hq i1 i2
      rcases List.eq_nil_or_concat t with ht | ⟨t', a, ht⟩
      · have g1 : decide (0 < k1) = false := by have := HK1.out; rw [ht] at this; simp at this; simp; omega
        have hne : ∀ z ∈ t, z.1 ≠ y.1 := by rw [ht]; simp
        have HNE := Lib.hid hne
        clear hne ht
        go_wp2_with fail
        refine wp_region_ext (by kernel_rfl) (by kernel_rfl) ?_
        repeat (go_big_quiet_step (fail))
        refine wpQuiet_nil ?_
        intro w2 hb2
        replace hb2 := below_of_ext hb2
        have c20 := (hb2.cell (p := ⟨wr.heap.size, 0, none⟩) (by simp)).trans (by go_simp : _ = some (Value.int .i64 y.1))
        have z20 : wr.heap.size < w2.heap.size := by have := hb2.size; simp at this; omega
        have s2 := (KST.out.alloc (.cells #[.int .i64 y.1, .int .i64 y.2] 187)).below hb2
        have cs2 := blk_cell s2.sums
        have cf2 := blk_frozen s2.sums
        have zs2 : w1.heap.size < w2.heap.size := by omega
        have ow1 : ∀ g, (Value.slice A1 k1 c1).ownBlock = some g → g < wr.heap.size := fun g hg => (KST.out.own1.lt g hg).2
        have ow2 : ∀ g, (Value.slice A2 k2 c2).ownBlock = some g → g < wr.heap.size := fun g hg => (KST.out.own2.lt g hg).2
        generalize Value.slice A1 k1 c1 = V1 at s2 cs2 ow1 ⊢
        generalize Value.slice A2 k2 c2 = V2 at s2 cs2 ow2 ⊢
        have W1 := Lib.hid ow1
        have W2 := Lib.hid ow2
        have S2 := Lib.hid s2
        clear s2 hb2 cs cf g1 ow1 ow2
        go_wp2_with fail
        refine wp_region_noPanic ?_
        refine wp_region_N (fun w' => w'.cell? ⟨w1.heap.size, 0, none⟩ = some V1 ∧ w'.cell? ⟨w1.heap.size, 1, none⟩ = some V2 ∧ w'.cell? ⟨wr.heap.size, 0, none⟩ = some (.int .i64 y.1)) [12, 14] (by kernel_rfl) ⟨by simp [*, go_sem], by simp [*, go_sem], by simp [*, go_sem]⟩ (fun hHeld => ?_)
        refine wpAnyN_pure (i := 0) (v := .pointer (some ⟨w1.heap.size, 0, none⟩)) rfl (by kernel_rfl) (by kernel_rfl) (by kernel_rfl) (fun _ _ _ h => h) (Or.inl ⟨by rfl, fun W _ => by go_simp⟩) ?_
        try simp only [Act.put, List.setIfInBounds_toArray, List.set_cons_zero, List.set_cons_succ]
        refine wpAnyN_take (i := 1) (v := V1) rfl (by kernel_rfl) (by kernel_rfl) (by kernel_rfl) (by kernel_rfl) (fun _ _ _ h => h) (Or.inl ⟨by rfl, fun W hW => by obtain ⟨q1, q2, q3⟩ := hW; go_simp⟩) hHeld ?_
        try simp only [Act.put, List.setIfInBounds_toArray, List.set_cons_zero, List.set_cons_succ]
        refine wpAnyN_pure (i := 2) (v := .pointer (some ⟨wr.heap.size, 0, none⟩)) rfl (by kernel_rfl) (by kernel_rfl) (by kernel_rfl) (fun _ _ _ h => h) (Or.inl ⟨by rfl, fun W _ => by go_simp⟩) ?_
        try simp only [Act.put, List.setIfInBounds_toArray, List.set_cons_zero, List.set_cons_succ]
        refine wpAnyN_take (i := 3) (v := .int .i64 y.1) rfl (by kernel_rfl) (by kernel_rfl) (by kernel_rfl) (by kernel_rfl) (fun _ _ _ h => h) (Or.inl ⟨by rfl, fun W hW => by obtain ⟨q1, q2, q3⟩ := hW; go_simp⟩) hHeld ?_
        try simp only [Act.put, List.setIfInBounds_toArray, List.set_cons_zero, List.set_cons_succ]
        refine wpAnyN_pure (i := 6) (v := .pointer (some ⟨w1.heap.size, 1, none⟩)) rfl (by kernel_rfl) (by kernel_rfl) (by kernel_rfl) (fun _ _ _ h => h) (Or.inl ⟨by rfl, fun W _ => by go_simp⟩) ?_
        try simp only [Act.put, List.setIfInBounds_toArray, List.set_cons_zero, List.set_cons_succ]
        refine wpAnyN_take (i := 7) (v := V2) rfl (by kernel_rfl) (by kernel_rfl) (by kernel_rfl) (by kernel_rfl) (fun _ _ _ h => h) (Or.inl ⟨by rfl, fun W hW => by obtain ⟨q1, q2, q3⟩ := hW; go_simp⟩) hHeld ?_
        try simp only [Act.put, List.setIfInBounds_toArray, List.set_cons_zero, List.set_cons_succ]
        refine wpAnyN_pure (i := 8) (v := .int .i64 (n + y.2)) rfl (by kernel_rfl) (by kernel_rfl) (by kernel_rfl) (fun _ _ _ h => h) (Or.inl ⟨by rfl, fun W _ => by go_simp⟩) ?_
        try simp only [Act.put, List.setIfInBounds_toArray, List.set_cons_zero, List.set_cons_succ]
        clear hHeld
        refine wpAnyN_two (i := 4) (k := 9) (by kernel_rfl) rfl rfl (fun K hK => ?_) (fun K hK => ?_)
        · skip
          go_simp
          refine hK.out _ _ (fun _ _ => ?_) ?_
          · exact ⟨by simp [*, go_sem], by simp [*, go_sem], by simp [*, go_sem]⟩
          clear hK K
          try simp only [Act.put, List.setIfInBounds_toArray, List.set_cons_zero, List.set_cons_succ]
          refine wpAnyN_two (i := 5) (k := 9) (by kernel_rfl) rfl rfl (fun K hK => ?_) (fun K hK => ?_)
          · skip
            refine step_app (o := ⟨some 47, _, _, _, _, _⟩) tyZ (by rfl) _ _ (by rfl) encZ (w1.heap.size + 1) V1 (t.map (·.1)) (by rfl) (TwoSt.own1 (w := w1) (base := w.heap.size) (B := w1.heap.size + 1) (b0 := w.heap.size) (bs := w1.heap.size) (vl := (Value.slice (some ⟨c, off, none⟩) l'.length cap)) (ll := l') (V1 := V1) (V2 := V2) (U2 := V2) (L2 := (t.map (·.2))) (by (repeat (first | with_reducible exact S2.out | with_reducible refine TwoSt.alloc ?_ _ | with_reducible refine TwoSt.drew ?_)); done)) _ 1 [y.1] _ (by rfl) (sl_cell (by simp [*, go_sem]) (by first | omega | (simp; done) | (simp; omega))) (by first | omega | (simp; omega)) (by simp [maxLen]; omega) (by first | omega | (simp; omega)) ?_
            intro v4 w4 ho4 hg4 hl4 hb4 hn4
            obtain ⟨A4, k4, m4, rfl⟩ : ∃ A k m, v4 = .slice A m k := by obtain ⟨A, k, hv, _⟩ := ho4.form; exact ⟨A, k, _, hv⟩
            have P4 := TwoSt.app1 (w := w1) (base := w.heap.size) (B := w1.heap.size + 1) (b0 := w.heap.size) (bs := w1.heap.size) (vl := (Value.slice (some ⟨c, off, none⟩) l'.length cap)) (ll := l') (V1 := V1) (V2 := V2) (U2 := V2) (L2 := (t.map (·.2))) (U1 := V1) (L1 := (t.map (·.1))) (by (repeat (first | with_reducible exact S2.out | with_reducible refine TwoSt.alloc ?_ _ | with_reducible refine TwoSt.drew ?_)); done) hg4 ho4 hl4 hb4
            have r4 := hg4.size
            try simp only [World.size_alloc, World.drew] at r4
            have G4 := grown_new hg4 wr.heap.size (fun g hg => W1.out g hg)
            have x4 := blk_cell P4.sums
            have f4 := blk_frozen P4.sums
            have y4 : w4.cell? ⟨wr.heap.size, 0, none⟩ = some (.int .i64 y.1) := (G4 wr.heap.size 0 (Nat.le_refl _) (by first | omega | (simp; omega))).trans (by simp [*, go_sem])
            have z4 : w1.heap.size < w4.heap.size := P4.size
            have q4 : wr.heap.size < w4.heap.size := by have := hg4.size; (try simp at this); omega
            clear hn4 hb4 hl4 hg4 ho4
            refine hK.out _ _ (fun _ _ => ?_) ?_
            · exact ⟨by simp [*, go_sem], by simp [*, go_sem], by simp [*, go_sem]⟩
            clear hK K
            try simp only [Act.put, List.setIfInBounds_toArray, List.set_cons_zero, List.set_cons_succ]
            refine wpAnyN_pure (i := 11) (v := .pointer (some ⟨w1.heap.size, 0, none⟩)) rfl (by kernel_rfl) (by kernel_rfl) (by kernel_rfl) (fun _ _ _ h => h) (Or.inl ⟨by rfl, fun W _ => by go_simp⟩) ?_
            try simp only [Act.put, List.setIfInBounds_toArray, List.set_cons_zero, List.set_cons_succ]
            refine wpAnyN_one (i := 9) (by kernel_rfl) rfl (fun K hK => ?_)
            go_simp
            refine hK.out _ _ (fun _ _ => ?_) ?_
            · exact ⟨by simp [*, go_sem], by simp [*, go_sem], by simp [*, go_sem]⟩
            clear hK K
            try simp only [Act.put, List.setIfInBounds_toArray, List.set_cons_zero, List.set_cons_succ]
            refine wpAnyN_one (i := 10) (by kernel_rfl) rfl (fun K hK => ?_)
            refine step_app (o := ⟨some 52, _, _, _, _, _⟩) tyZ (by rfl) _ _ (by rfl) encZ (w1.heap.size + 1) V2 (t.map (·.2)) (by rfl) (TwoSt.own2 (w := w1) (base := w.heap.size) (B := w1.heap.size + 1) (b0 := w.heap.size) (bs := w1.heap.size) (vl := (Value.slice (some ⟨c, off, none⟩) l'.length cap)) (ll := l') (V1 := V1) (V2 := V2) (U1 := .slice A4 m4 k4) (L1 := (t.map (·.1)) ++ [y.1]) (by (repeat (first | with_reducible exact P4 | with_reducible refine TwoSt.alloc ?_ _ | with_reducible refine TwoSt.drew ?_)); done)) _ 1 [(n + y.2)] _ (by rfl) (sl_cell (by simp [*, go_sem]) (by first | omega | (simp; done) | (simp; omega))) (by first | omega | (simp; omega)) (by simp [maxLen]; omega) (by first | omega | (simp; omega)) ?_
            intro v5 w5 ho5 hg5 hl5 hb5 hn5
            obtain ⟨A5, k5, m5, rfl⟩ : ∃ A k m, v5 = .slice A m k := by obtain ⟨A, k, hv, _⟩ := ho5.form; exact ⟨A, k, _, hv⟩
            have P5 := TwoSt.app2 (w := w1) (base := w.heap.size) (B := w1.heap.size + 1) (b0 := w.heap.size) (bs := w1.heap.size) (vl := (Value.slice (some ⟨c, off, none⟩) l'.length cap)) (ll := l') (V1 := V1) (V2 := V2) (U1 := .slice A4 m4 k4) (L1 := (t.map (·.1)) ++ [y.1]) (U2 := V2) (L2 := (t.map (·.2))) (by (repeat (first | with_reducible exact P4 | with_reducible refine TwoSt.alloc ?_ _ | with_reducible refine TwoSt.drew ?_)); done) hg5 ho5 hl5 hb5
            have r5 := hg5.size
            try simp only [World.size_alloc, World.drew] at r5
            have G5 := grown_new hg5 wr.heap.size (fun g hg => W2.out g hg)
            have x5 := blk_cell P5.sums
            have f5 := blk_frozen P5.sums
            have y5 : w5.cell? ⟨wr.heap.size, 0, none⟩ = some (.int .i64 y.1) := (G5 wr.heap.size 0 (Nat.le_refl _) (by first | omega | (simp; omega))).trans (by simp [*, go_sem])
            have z5 : w1.heap.size < w5.heap.size := P5.size
            have q5 : wr.heap.size < w5.heap.size := by have := hg5.size; (try simp at this); omega
            clear hn5 hb5 hl5 hg5 ho5
            refine hK.out _ _ (fun _ _ => ?_) ?_
            · exact ⟨by simp [*, go_sem], by simp [*, go_sem], by simp [*, go_sem]⟩
            clear hK K
            try simp only [Act.put, List.setIfInBounds_toArray, List.set_cons_zero, List.set_cons_succ]
            refine wpAnyN_one (i := 12) (by kernel_rfl) rfl (fun K hK => ?_)
            go_simp
            refine hK.out _ _ (fun h _ => absurd (by decide) h) ?_
            clear hK K
            try simp only [Act.put, List.setIfInBounds_toArray, List.set_cons_zero, List.set_cons_succ]
            refine wpAnyN_pure (i := 13) (v := .pointer (some ⟨w1.heap.size, 1, none⟩)) rfl (by kernel_rfl) (by kernel_rfl) (by kernel_rfl) (fun _ _ _ h => h) (Or.inl ⟨by rfl, fun W _ => by go_simp⟩) ?_
            try simp only [Act.put, List.setIfInBounds_toArray, List.set_cons_zero, List.set_cons_succ]
            refine wpAnyN_one (i := 14) (by kernel_rfl) rfl (fun K hK => ?_)
            go_simp
            refine hK.out _ _ (fun h _ => absurd (by decide) h) ?_
            clear hK K
            try simp only [Act.put, List.setIfInBounds_toArray, List.set_cons_zero, List.set_cons_succ]
            refine wpAnyN_done (by kernel_rfl) ?_ _
            have E4 := P5.own1.len_le
            have E5 := P5.own2.len_le
            simp only [List.length_append, List.length_map, List.length_cons, List.length_nil] at E4 E5
            have F4 := Lib.hid E4.1
            have F5 := Lib.hid E5.1
            have PF := Lib.hid P5.st
            clear E4 E5 P4 P5 G4 G5 x4 x5 f4 f5 y4 y5 z4 z5 q4 q5 r4 r5 c20 z20 cs2 cf2
            refine NoPanic.normal ?_
            go_wp2_with fail
            go_roundw
            case rel => exact ⟨q + 1, m4, m5, t ++ [(y.1, n + y.2)], A4, A5, k4, k5, by omega, by go_num, by rw [HE1.out], by have := F4.out; simp; omega, by have := F5.out; simp; omega, by simpa using PF.out, by rw [HTS.out]; have := KT.out.more HLE.out HNE.out; rwa [← HN.out] at this, by simp; omega⟩
            case measure => simp [intOf]; omega
          · skip
            go_simp
            refine hK.out _ _ (fun _ _ => ?_) ?_
            · exact ⟨by simp [*, go_sem], by simp [*, go_sem], by simp [*, go_sem]⟩
            clear hK K
            try simp only [Act.put, List.setIfInBounds_toArray, List.set_cons_zero, List.set_cons_succ]
            refine wpAnyN_one (i := 5) (by kernel_rfl) rfl (fun K hK => ?_)
            refine step_app (o := ⟨some 47, _, _, _, _, _⟩) tyZ (by rfl) _ _ (by rfl) encZ (w1.heap.size + 1) V1 (t.map (·.1)) (by rfl) (TwoSt.own1 (w := w1) (base := w.heap.size) (B := w1.heap.size + 1) (b0 := w.heap.size) (bs := w1.heap.size) (vl := (Value.slice (some ⟨c, off, none⟩) l'.length cap)) (ll := l') (V1 := V1) (V2 := V2) (U2 := V2) (L2 := (t.map (·.2))) (by (repeat (first | with_reducible exact S2.out | with_reducible refine TwoSt.alloc ?_ _ | with_reducible refine TwoSt.drew ?_)); done)) _ 1 [y.1] _ (by rfl) (sl_cell (by simp [*, go_sem]) (by first | omega | (simp; done) | (simp; omega))) (by first | omega | (simp; omega)) (by simp [maxLen]; omega) (by first | omega | (simp; omega)) ?_
            intro v4 w4 ho4 hg4 hl4 hb4 hn4
            obtain ⟨A4, k4, m4, rfl⟩ : ∃ A k m, v4 = .slice A m k := by obtain ⟨A, k, hv, _⟩ := ho4.form; exact ⟨A, k, _, hv⟩
            have P4 := TwoSt.app1 (w := w1) (base := w.heap.size) (B := w1.heap.size + 1) (b0 := w.heap.size) (bs := w1.heap.size) (vl := (Value.slice (some ⟨c, off, none⟩) l'.length cap)) (ll := l') (V1 := V1) (V2 := V2) (U2 := V2) (L2 := (t.map (·.2))) (U1 := V1) (L1 := (t.map (·.1))) (by (repeat (first | with_reducible exact S2.out | with_reducible refine TwoSt.alloc ?_ _ | with_reducible refine TwoSt.drew ?_)); done) hg4 ho4 hl4 hb4
            have r4 := hg4.size
            try simp only [World.size_alloc, World.drew] at r4
            have G4 := grown_new hg4 wr.heap.size (fun g hg => W1.out g hg)
            have x4 := blk_cell P4.sums
            have f4 := blk_frozen P4.sums
            have y4 : w4.cell? ⟨wr.heap.size, 0, none⟩ = some (.int .i64 y.1) := (G4 wr.heap.size 0 (Nat.le_refl _) (by first | omega | (simp; omega))).trans (by simp [*, go_sem])
            have b4 : w4.cell? ⟨w2.heap.size + 1, 0, none⟩ = some (.int .i64 (n + y.2)) := (G4 (w2.heap.size + 1) 0 (by omega) (by first | omega | (simp; done) | (simp; omega))).trans (by simp [*, go_sem])
            have z4 : w1.heap.size < w4.heap.size := P4.size
            have q4 : wr.heap.size < w4.heap.size := by have := hg4.size; (try simp at this); omega
            clear hn4 hb4 hl4 hg4 ho4
            refine hK.out _ _ (fun _ _ => ?_) ?_
            · exact ⟨by simp [*, go_sem], by simp [*, go_sem], by simp [*, go_sem]⟩
            clear hK K
            try simp only [Act.put, List.setIfInBounds_toArray, List.set_cons_zero, List.set_cons_succ]
            refine wpAnyN_pure (i := 11) (v := .pointer (some ⟨w1.heap.size, 0, none⟩)) rfl (by kernel_rfl) (by kernel_rfl) (by kernel_rfl) (fun _ _ _ h => h) (Or.inl ⟨by rfl, fun W _ => by go_simp⟩) ?_
            try simp only [Act.put, List.setIfInBounds_toArray, List.set_cons_zero, List.set_cons_succ]
            refine wpAnyN_one (i := 10) (by kernel_rfl) rfl (fun K hK => ?_)
            refine step_app (o := ⟨some 52, _, _, _, _, _⟩) tyZ (by rfl) _ _ (by rfl) encZ (w1.heap.size + 1) V2 (t.map (·.2)) (by rfl) (TwoSt.own2 (w := w1) (base := w.heap.size) (B := w1.heap.size + 1) (b0 := w.heap.size) (bs := w1.heap.size) (vl := (Value.slice (some ⟨c, off, none⟩) l'.length cap)) (ll := l') (V1 := V1) (V2 := V2) (U1 := .slice A4 m4 k4) (L1 := (t.map (·.1)) ++ [y.1]) (by (repeat (first | with_reducible exact P4 | with_reducible refine TwoSt.alloc ?_ _ | with_reducible refine TwoSt.drew ?_)); done)) _ 1 [(n + y.2)] _ (by rfl) (sl_cell (by simp [*, go_sem]) (by first | omega | (simp; done) | (simp; omega))) (by first | omega | (simp; omega)) (by simp [maxLen]; omega) (by first | omega | (simp; omega)) ?_
            intro v5 w5 ho5 hg5 hl5 hb5 hn5
            obtain ⟨A5, k5, m5, rfl⟩ : ∃ A k m, v5 = .slice A m k := by obtain ⟨A, k, hv, _⟩ := ho5.form; exact ⟨A, k, _, hv⟩
            have P5 := TwoSt.app2 (w := w1) (base := w.heap.size) (B := w1.heap.size + 1) (b0 := w.heap.size) (bs := w1.heap.size) (vl := (Value.slice (some ⟨c, off, none⟩) l'.length cap)) (ll := l') (V1 := V1) (V2 := V2) (U1 := .slice A4 m4 k4) (L1 := (t.map (·.1)) ++ [y.1]) (U2 := V2) (L2 := (t.map (·.2))) (by (repeat (first | with_reducible exact P4 | with_reducible refine TwoSt.alloc ?_ _ | with_reducible refine TwoSt.drew ?_)); done) hg5 ho5 hl5 hb5
            have r5 := hg5.size
            try simp only [World.size_alloc, World.drew] at r5
            have G5 := grown_new hg5 wr.heap.size (fun g hg => W2.out g hg)
            have x5 := blk_cell P5.sums
            have f5 := blk_frozen P5.sums
            have y5 : w5.cell? ⟨wr.heap.size, 0, none⟩ = some (.int .i64 y.1) := (G5 wr.heap.size 0 (Nat.le_refl _) (by first | omega | (simp; omega))).trans (by simp [*, go_sem])
            have z5 : w1.heap.size < w5.heap.size := P5.size
            have q5 : wr.heap.size < w5.heap.size := by have := hg5.size; (try simp at this); omega
            clear hn5 hb5 hl5 hg5 ho5
            refine hK.out _ _ (fun _ _ => ?_) ?_
            · exact ⟨by simp [*, go_sem], by simp [*, go_sem], by simp [*, go_sem]⟩
            clear hK K
            try simp only [Act.put, List.setIfInBounds_toArray, List.set_cons_zero, List.set_cons_succ]
            refine wpAnyN_one (i := 12) (by kernel_rfl) rfl (fun K hK => ?_)
            go_simp
            refine hK.out _ _ (fun h _ => absurd (by decide) h) ?_
            clear hK K
            try simp only [Act.put, List.setIfInBounds_toArray, List.set_cons_zero, List.set_cons_succ]
            refine wpAnyN_pure (i := 13) (v := .pointer (some ⟨w1.heap.size, 1, none⟩)) rfl (by kernel_rfl) (by kernel_rfl) (by kernel_rfl) (fun _ _ _ h => h) (Or.inl ⟨by rfl, fun W _ => by go_simp⟩) ?_
            try simp only [Act.put, List.setIfInBounds_toArray, List.set_cons_zero, List.set_cons_succ]
            refine wpAnyN_one (i := 14) (by kernel_rfl) rfl (fun K hK => ?_)
            go_simp
            refine hK.out _ _ (fun h _ => absurd (by decide) h) ?_
            clear hK K
            try simp only [Act.put, List.setIfInBounds_toArray, List.set_cons_zero, List.set_cons_succ]
            refine wpAnyN_done (by kernel_rfl) ?_ _
            have E4 := P5.own1.len_le
            have E5 := P5.own2.len_le
            simp only [List.length_append, List.length_map, List.length_cons, List.length_nil] at E4 E5
            have F4 := Lib.hid E4.1
            have F5 := Lib.hid E5.1
            have PF := Lib.hid P5.st
            clear E4 E5 P4 P5 G4 G5 x4 x5 f4 f5 y4 y5 z4 z5 q4 q5 r4 r5 c20 z20 cs2 cf2
            refine NoPanic.normal ?_
            go_wp2_with fail
            go_roundw
            case rel => exact ⟨q + 1, m4, m5, t ++ [(y.1, n + y.2)], A4, A5, k4, k5, by omega, by go_num, by rw [HE1.out], by have := F4.out; simp; omega, by have := F5.out; simp; omega, by simpa using PF.out, by rw [HTS.out]; have := KT.out.more HLE.out HNE.out; rwa [← HN.out] at this, by simp; omega⟩
            case measure => simp [intOf]; omega
        · skip
          go_simp
          refine hK.out _ _ (fun _ _ => ?_) ?_
          · exact ⟨by simp [*, go_sem], by simp [*, go_sem], by simp [*, go_sem]⟩
          clear hK K
          try simp only [Act.put, List.setIfInBounds_toArray, List.set_cons_zero, List.set_cons_succ]
          refine wpAnyN_one (i := 4) (by kernel_rfl) rfl (fun K hK => ?_)
          go_simp
          refine hK.out _ _ (fun _ _ => ?_) ?_
          · exact ⟨by simp [*, go_sem], by simp [*, go_sem], by simp [*, go_sem]⟩
          clear hK K
          try simp only [Act.put, List.setIfInBounds_toArray, List.set_cons_zero, List.set_cons_succ]
          refine wpAnyN_one (i := 5) (by kernel_rfl) rfl (fun K hK => ?_)
          refine step_app (o := ⟨some 47, _, _, _, _, _⟩) tyZ (by rfl) _ _ (by rfl) encZ (w1.heap.size + 1) V1 (t.map (·.1)) (by rfl) (TwoSt.own1 (w := w1) (base := w.heap.size) (B := w1.heap.size + 1) (b0 := w.heap.size) (bs := w1.heap.size) (vl := (Value.slice (some ⟨c, off, none⟩) l'.length cap)) (ll := l') (V1 := V1) (V2 := V2) (U2 := V2) (L2 := (t.map (·.2))) (by (repeat (first | with_reducible exact S2.out | with_reducible refine TwoSt.alloc ?_ _ | with_reducible refine TwoSt.drew ?_)); done)) _ 1 [y.1] _ (by rfl) (sl_cell (by simp [*, go_sem]) (by first | omega | (simp; done) | (simp; omega))) (by first | omega | (simp; omega)) (by simp [maxLen]; omega) (by first | omega | (simp; omega)) ?_
          intro v4 w4 ho4 hg4 hl4 hb4 hn4
          obtain ⟨A4, k4, m4, rfl⟩ : ∃ A k m, v4 = .slice A m k := by obtain ⟨A, k, hv, _⟩ := ho4.form; exact ⟨A, k, _, hv⟩
          have P4 := TwoSt.app1 (w := w1) (base := w.heap.size) (B := w1.heap.size + 1) (b0 := w.heap.size) (bs := w1.heap.size) (vl := (Value.slice (some ⟨c, off, none⟩) l'.length cap)) (ll := l') (V1 := V1) (V2 := V2) (U2 := V2) (L2 := (t.map (·.2))) (U1 := V1) (L1 := (t.map (·.1))) (by (repeat (first | with_reducible exact S2.out | with_reducible refine TwoSt.alloc ?_ _ | with_reducible refine TwoSt.drew ?_)); done) hg4 ho4 hl4 hb4
          have r4 := hg4.size
          try simp only [World.size_alloc, World.drew] at r4
          have G4 := grown_new hg4 wr.heap.size (fun g hg => W1.out g hg)
          have x4 := blk_cell P4.sums
          have f4 := blk_frozen P4.sums
          have y4 : w4.cell? ⟨wr.heap.size, 0, none⟩ = some (.int .i64 y.1) := (G4 wr.heap.size 0 (Nat.le_refl _) (by first | omega | (simp; omega))).trans (by simp [*, go_sem])
          have b4 : w4.cell? ⟨w2.heap.size, 0, none⟩ = some (.int .i64 (n + y.2)) := (G4 (w2.heap.size) 0 (by omega) (by first | omega | (simp; done) | (simp; omega))).trans (by simp [*, go_sem])
          have z4 : w1.heap.size < w4.heap.size := P4.size
          have q4 : wr.heap.size < w4.heap.size := by have := hg4.size; (try simp at this); omega
          clear hn4 hb4 hl4 hg4 ho4
          refine hK.out _ _ (fun _ _ => ?_) ?_
          · exact ⟨by simp [*, go_sem], by simp [*, go_sem], by simp [*, go_sem]⟩
          clear hK K
          try simp only [Act.put, List.setIfInBounds_toArray, List.set_cons_zero, List.set_cons_succ]
          refine wpAnyN_pure (i := 11) (v := .pointer (some ⟨w1.heap.size, 0, none⟩)) rfl (by kernel_rfl) (by kernel_rfl) (by kernel_rfl) (fun _ _ _ h => h) (Or.inl ⟨by rfl, fun W _ => by go_simp⟩) ?_
          try simp only [Act.put, List.setIfInBounds_toArray, List.set_cons_zero, List.set_cons_succ]
          refine wpAnyN_one (i := 10) (by kernel_rfl) rfl (fun K hK => ?_)
          refine step_app (o := ⟨some 52, _, _, _, _, _⟩) tyZ (by rfl) _ _ (by rfl) encZ (w1.heap.size + 1) V2 (t.map (·.2)) (by rfl) (TwoSt.own2 (w := w1) (base := w.heap.size) (B := w1.heap.size + 1) (b0 := w.heap.size) (bs := w1.heap.size) (vl := (Value.slice (some ⟨c, off, none⟩) l'.length cap)) (ll := l') (V1 := V1) (V2 := V2) (U1 := .slice A4 m4 k4) (L1 := (t.map (·.1)) ++ [y.1]) (by (repeat (first | with_reducible exact P4 | with_reducible refine TwoSt.alloc ?_ _ | with_reducible refine TwoSt.drew ?_)); done)) _ 1 [(n + y.2)] _ (by rfl) (sl_cell (by simp [*, go_sem]) (by first | omega | (simp; done) | (simp; omega))) (by first | omega | (simp; omega)) (by simp [maxLen]; omega) (by first | omega | (simp; omega)) ?_
          intro v5 w5 ho5 hg5 hl5 hb5 hn5
          obtain ⟨A5, k5, m5, rfl⟩ : ∃ A k m, v5 = .slice A m k := by obtain ⟨A, k, hv, _⟩ := ho5.form; exact ⟨A, k, _, hv⟩
          have P5 := TwoSt.app2 (w := w1) (base := w.heap.size) (B := w1.heap.size + 1) (b0 := w.heap.size) (bs := w1.heap.size) (vl := (Value.slice (some ⟨c, off, none⟩) l'.length cap)) (ll := l') (V1 := V1) (V2 := V2) (U1 := .slice A4 m4 k4) (L1 := (t.map (·.1)) ++ [y.1]) (U2 := V2) (L2 := (t.map (·.2))) (by (repeat (first | with_reducible exact P4 | with_reducible refine TwoSt.alloc ?_ _ | with_reducible refine TwoSt.drew ?_)); done) hg5 ho5 hl5 hb5
          have r5 := hg5.size
          try simp only [World.size_alloc, World.drew] at r5
          have G5 := grown_new hg5 wr.heap.size (fun g hg => W2.out g hg)
          have x5 := blk_cell P5.sums
          have f5 := blk_frozen P5.sums
          have y5 : w5.cell? ⟨wr.heap.size, 0, none⟩ = some (.int .i64 y.1) := (G5 wr.heap.size 0 (Nat.le_refl _) (by first | omega | (simp; omega))).trans (by simp [*, go_sem])
          have z5 : w1.heap.size < w5.heap.size := P5.size
          have q5 : wr.heap.size < w5.heap.size := by have := hg5.size; (try simp at this); omega
          clear hn5 hb5 hl5 hg5 ho5
          refine hK.out _ _ (fun _ _ => ?_) ?_
          · exact ⟨by simp [*, go_sem], by simp [*, go_sem], by simp [*, go_sem]⟩
          clear hK K
          try simp only [Act.put, List.setIfInBounds_toArray, List.set_cons_zero, List.set_cons_succ]
          refine wpAnyN_one (i := 12) (by kernel_rfl) rfl (fun K hK => ?_)
          go_simp
          refine hK.out _ _ (fun h _ => absurd (by decide) h) ?_
          clear hK K
          try simp only [Act.put, List.setIfInBounds_toArray, List.set_cons_zero, List.set_cons_succ]
          refine wpAnyN_pure (i := 13) (v := .pointer (some ⟨w1.heap.size, 1, none⟩)) rfl (by kernel_rfl) (by kernel_rfl) (by kernel_rfl) (fun _ _ _ h => h) (Or.inl ⟨by rfl, fun W _ => by go_simp⟩) ?_
          try simp only [Act.put, List.setIfInBounds_toArray, List.set_cons_zero, List.set_cons_succ]
          refine wpAnyN_one (i := 14) (by kernel_rfl) rfl (fun K hK => ?_)
          go_simp
          refine hK.out _ _ (fun h _ => absurd (by decide) h) ?_
          clear hK K
          try simp only [Act.put, List.setIfInBounds_toArray, List.set_cons_zero, List.set_cons_succ]
          refine wpAnyN_done (by kernel_rfl) ?_ _
          have E4 := P5.own1.len_le
          have E5 := P5.own2.len_le
          simp only [List.length_append, List.length_map, List.length_cons, List.length_nil] at E4 E5
          have F4 := Lib.hid E4.1
          have F5 := Lib.hid E5.1
          have PF := Lib.hid P5.st
          clear E4 E5 P4 P5 G4 G5 x4 x5 f4 f5 y4 y5 z4 z5 q4 q5 r4 r5 c20 z20 cs2 cf2
          refine NoPanic.normal ?_
          go_wp2_with fail
          go_roundw
          case rel => exact ⟨q + 1, m4, m5, t ++ [(y.1, n + y.2)], A4, A5, k4, k5, by omega, by go_num, by rw [HE1.out], by have := F4.out; simp; omega, by have := F5.out; simp; omega, by simpa using PF.out, by rw [HTS.out]; have := KT.out.more HLE.out HNE.out; rwa [← HN.out] at this, by simp; omega⟩
          case measure => simp [intOf]; omega
      · rw [List.concat_eq_append] at ht
        obtain ⟨m, hm⟩ : ∃ m, m = t'.length := ⟨_, rfl⟩
        have hkm : k1 = m + 1 := by have := HK1.out; rw [ht] at this; simp at this; omega
        have g1 : decide (0 < k1) = true := by simp; omega
        have g2 : (k1 : Int) - 1 = (m : Int) := by omega
        have g3 : (m : Int) < (k1 : Int) := by omega
        have g4 : m < k1 := by omega
        have g5 : m < (t.map (·.1)).length := by rw [ht]; simp; omega
        have ga : (t.map (·.1))[m] = a.1 := by simp only [ht, hm]; simp
        obtain ⟨b1, o1, rfl, hb1, hc1⟩ := KST.out.own1.sl.at_ g5
        have e0 := hc1 0 (.int .i64 a.1) (by rw [ga]; rfl)
        simp only [Nat.add_zero, Nat.mul_one] at e0
        have g6 : m < (t.map (·.2)).length := by rw [ht]; simp; omega
        obtain ⟨b2, o2, rfl, hb2, hc2⟩ := KST.out.own2.sl.at_ g6
        have gb : (t.map (·.2))[m] = a.2 := by simp only [ht, hm]; simp
        have e8 := hc2 0 (.int .i64 a.2) (by rw [gb]; rfl)
        simp only [Nat.add_zero, Nat.mul_one] at e8
        have g7 : m < k2 := by have := kk.out; omega
        have HKM := Lib.hid hkm
        have HM := Lib.hid hm
        have HT := Lib.hid ht
        clear hc1 hc2 g5 ga gb hkm hm ht
        by_cases ha : a.1 = y.1
        · have ha' : (a.1 == y.1) = true := by simpa using ha
          have HAE := Lib.hid ha
          have e9 := KST.out.own2.frozen
          have hz2 : b2 < wr.heap.size := hb2
          clear ha
          go_wp2_with fail
          refine wp_region_ext (by kernel_rfl) (by kernel_rfl) ?_
          repeat (go_big_quiet_step (fail))
          refine wpQuiet_nil ?_
          intro w2 hb2'
          replace hb2' := below_of_ext hb2'
          have s2 := (KST.out.alloc (.cells #[.int .i64 y.1, .int .i64 y.2] 187)).below hb2'
          have cs2 := blk_cell s2.sums
          have cf2 := blk_frozen s2.sums
          have zs2 : w1.heap.size < w2.heap.size := by have := hb2'.size; simp at this; omega
          have z22 : b2 < w2.heap.size := by have := hb2'.size; simp at this; omega
          have c23 : w2.cell? ⟨b2, o2 + m, none⟩ = some (.int .i64 a.2) := (hb2'.cell (p := ⟨b2, o2 + m, none⟩) (by simp; omega)).trans (by go_simp)
          have f22 := s2.own2.frozen
          have S2 := Lib.hid s2
          clear s2 hb2' cs cf g1 e0 e9 e8
          go_wp2_with fail
          have S3 := Lib.hid (S2.out.set2 m g6 (n + y.2))
          clear c23 f22 S2 cs2 cf2
          go_wp2_with fail
          go_roundw
          case rel => exact ⟨q + 1, k1, k2, t' ++ [(y.1, n + y.2)], some ⟨b1, o1, none⟩, some ⟨b2, o2, none⟩, c1, c2, by omega, by go_num, by rw [HE1.out], by have := HKM.out; have := HM.out; simp; omega, by have := HKM.out; have := HM.out; have := kk.out; simp; omega, by have h := S3.out; rw [HT.out, set_last HM.out (y.1, n + y.2)] at h; have e : (t' ++ [a]).map (·.1) = (t' ++ [(y.1, n + y.2)]).map (·.1) := (by simp [HAE.out]); rwa [e] at h, by have h := KT.out; rw [HT.out, show a = (y.1, a.2) from Prod.ext HAE.out rfl] at h; have h2 := h.same HLE.out; rw [← HN.out] at h2; rwa [HTS.out], by rw [HT.out] at htq; simp at htq ⊢; omega⟩
          case measure => simp [intOf]; omega
        · have ha' : (a.1 == y.1) = false := by simpa using ha
          have HNE := Lib.hid (show ∀ z ∈ t, z.1 ≠ y.1 by rw [HT.out]; exact Tab.last_ne (by rw [← HT.out]; exact KT.out) HLE.out ha)
          clear ha
          go_wp2_with fail
          refine wp_region_ext (by kernel_rfl) (by kernel_rfl) ?_
          repeat (go_big_quiet_step (fail))
          refine wpQuiet_nil ?_
          intro w2 hb2
          replace hb2 := below_of_ext hb2
          have c20 := (hb2.cell (p := ⟨wr.heap.size, 0, none⟩) (by simp)).trans (by go_simp : _ = some (Value.int .i64 y.1))
          have z20 : wr.heap.size < w2.heap.size := by have := hb2.size; simp at this; omega
          have s2 := (KST.out.alloc (.cells #[.int .i64 y.1, .int .i64 y.2] 187)).below hb2
          have cs2 := blk_cell s2.sums
          have cf2 := blk_frozen s2.sums
          have zs2 : w1.heap.size < w2.heap.size := by omega
          have ow1 : ∀ g, (Value.slice (some ⟨b1, o1, none⟩) k1 c1).ownBlock = some g → g < wr.heap.size := fun g hg => (KST.out.own1.lt g hg).2
          have ow2 : ∀ g, (Value.slice (some ⟨b2, o2, none⟩) k2 c2).ownBlock = some g → g < wr.heap.size := fun g hg => (KST.out.own2.lt g hg).2
          generalize Value.slice (some ⟨b1, o1, none⟩) k1 c1 = V1 at s2 cs2 ow1 ⊢
          generalize Value.slice (some ⟨b2, o2, none⟩) k2 c2 = V2 at s2 cs2 ow2 ⊢
          have W1 := Lib.hid ow1
          have W2 := Lib.hid ow2
          have S2 := Lib.hid s2
          clear s2 hb2 cs cf g1 g2 g3 g4 ow1 ow2 e0 e8 g7
          go_wp2_with fail
          refine wp_region_noPanic ?_
          refine wp_region_N (fun w' => w'.cell? ⟨w1.heap.size, 0, none⟩ = some V1 ∧ w'.cell? ⟨w1.heap.size, 1, none⟩ = some V2 ∧ w'.cell? ⟨wr.heap.size, 0, none⟩ = some (.int .i64 y.1)) [12, 14] (by kernel_rfl) ⟨by simp [*, go_sem], by simp [*, go_sem], by simp [*, go_sem]⟩ (fun hHeld => ?_)
          refine wpAnyN_pure (i := 0) (v := .pointer (some ⟨w1.heap.size, 0, none⟩)) rfl (by kernel_rfl) (by kernel_rfl) (by kernel_rfl) (fun _ _ _ h => h) (Or.inl ⟨by rfl, fun W _ => by go_simp⟩) ?_
          try simp only [Act.put, List.setIfInBounds_toArray, List.set_cons_zero, List.set_cons_succ]
          refine wpAnyN_take (i := 1) (v := V1) rfl (by kernel_rfl) (by kernel_rfl) (by kernel_rfl) (by kernel_rfl) (fun _ _ _ h => h) (Or.inl ⟨by rfl, fun W hW => by obtain ⟨q1, q2, q3⟩ := hW; go_simp⟩) hHeld ?_
          try simp only [Act.put, List.setIfInBounds_toArray, List.set_cons_zero, List.set_cons_succ]
          refine wpAnyN_pure (i := 2) (v := .pointer (some ⟨wr.heap.size, 0, none⟩)) rfl (by kernel_rfl) (by kernel_rfl) (by kernel_rfl) (fun _ _ _ h => h) (Or.inl ⟨by rfl, fun W _ => by go_simp⟩) ?_
          try simp only [Act.put, List.setIfInBounds_toArray, List.set_cons_zero, List.set_cons_succ]
          refine wpAnyN_take (i := 3) (v := .int .i64 y.1) rfl (by kernel_rfl) (by kernel_rfl) (by kernel_rfl) (by kernel_rfl) (fun _ _ _ h => h) (Or.inl ⟨by rfl, fun W hW => by obtain ⟨q1, q2, q3⟩ := hW; go_simp⟩) hHeld ?_
          try simp only [Act.put, List.setIfInBounds_toArray, List.set_cons_zero, List.set_cons_succ]
          refine wpAnyN_pure (i := 6) (v := .pointer (some ⟨w1.heap.size, 1, none⟩)) rfl (by kernel_rfl) (by kernel_rfl) (by kernel_rfl) (fun _ _ _ h => h) (Or.inl ⟨by rfl, fun W _ => by go_simp⟩) ?_
          try simp only [Act.put, List.setIfInBounds_toArray, List.set_cons_zero, List.set_cons_succ]
          refine wpAnyN_take (i := 7) (v := V2) rfl (by kernel_rfl) (by kernel_rfl) (by kernel_rfl) (by kernel_rfl) (fun _ _ _ h => h) (Or.inl ⟨by rfl, fun W hW => by obtain ⟨q1, q2, q3⟩ := hW; go_simp⟩) hHeld ?_
          try simp only [Act.put, List.setIfInBounds_toArray, List.set_cons_zero, List.set_cons_succ]
          refine wpAnyN_pure (i := 8) (v := .int .i64 (n + y.2)) rfl (by kernel_rfl) (by kernel_rfl) (by kernel_rfl) (fun _ _ _ h => h) (Or.inl ⟨by rfl, fun W _ => by go_simp⟩) ?_
          try simp only [Act.put, List.setIfInBounds_toArray, List.set_cons_zero, List.set_cons_succ]
          clear hHeld
          refine wpAnyN_two (i := 4) (k := 9) (by kernel_rfl) rfl rfl (fun K hK => ?_) (fun K hK => ?_)
          · skip
            go_simp
            refine hK.out _ _ (fun _ _ => ?_) ?_
            · exact ⟨by simp [*, go_sem], by simp [*, go_sem], by simp [*, go_sem]⟩
            clear hK K
            try simp only [Act.put, List.setIfInBounds_toArray, List.set_cons_zero, List.set_cons_succ]
            refine wpAnyN_two (i := 5) (k := 9) (by kernel_rfl) rfl rfl (fun K hK => ?_) (fun K hK => ?_)
            · skip
              refine step_app (o := ⟨some 47, _, _, _, _, _⟩) tyZ (by rfl) _ _ (by rfl) encZ (w1.heap.size + 1) V1 (t.map (·.1)) (by rfl) (TwoSt.own1 (w := w1) (base := w.heap.size) (B := w1.heap.size + 1) (b0 := w.heap.size) (bs := w1.heap.size) (vl := (Value.slice (some ⟨c, off, none⟩) l'.length cap)) (ll := l') (V1 := V1) (V2 := V2) (U2 := V2) (L2 := (t.map (·.2))) (by (repeat (first | with_reducible exact S2.out | with_reducible refine TwoSt.alloc ?_ _ | with_reducible refine TwoSt.drew ?_)); done)) _ 1 [y.1] _ (by rfl) (sl_cell (by simp [*, go_sem]) (by first | omega | (simp; done) | (simp; omega))) (by first | omega | (simp; omega)) (by simp [maxLen]; omega) (by first | omega | (simp; omega)) ?_
              intro v4 w4 ho4 hg4 hl4 hb4 hn4
              obtain ⟨A4, k4, m4, rfl⟩ : ∃ A k m, v4 = .slice A m k := by obtain ⟨A, k, hv, _⟩ := ho4.form; exact ⟨A, k, _, hv⟩
              have P4 := TwoSt.app1 (w := w1) (base := w.heap.size) (B := w1.heap.size + 1) (b0 := w.heap.size) (bs := w1.heap.size) (vl := (Value.slice (some ⟨c, off, none⟩) l'.length cap)) (ll := l') (V1 := V1) (V2 := V2) (U2 := V2) (L2 := (t.map (·.2))) (U1 := V1) (L1 := (t.map (·.1))) (by (repeat (first | with_reducible exact S2.out | with_reducible refine TwoSt.alloc ?_ _ | with_reducible refine TwoSt.drew ?_)); done) hg4 ho4 hl4 hb4
              have r4 := hg4.size
              try simp only [World.size_alloc, World.drew] at r4
              have G4 := grown_new hg4 wr.heap.size (fun g hg => W1.out g hg)
              have x4 := blk_cell P4.sums
              have f4 := blk_frozen P4.sums
              have y4 : w4.cell? ⟨wr.heap.size, 0, none⟩ = some (.int .i64 y.1) := (G4 wr.heap.size 0 (Nat.le_refl _) (by first | omega | (simp; omega))).trans (by simp [*, go_sem])
              have z4 : w1.heap.size < w4.heap.size := P4.size
              have q4 : wr.heap.size < w4.heap.size := by have := hg4.size; (try simp at this); omega
              clear hn4 hb4 hl4 hg4 ho4
              refine hK.out _ _ (fun _ _ => ?_) ?_
              · exact ⟨by simp [*, go_sem], by simp [*, go_sem], by simp [*, go_sem]⟩
              clear hK K
              try simp only [Act.put, List.setIfInBounds_toArray, List.set_cons_zero, List.set_cons_succ]
              refine wpAnyN_pure (i := 11) (v := .pointer (some ⟨w1.heap.size, 0, none⟩)) rfl (by kernel_rfl) (by kernel_rfl) (by kernel_rfl) (fun _ _ _ h => h) (Or.inl ⟨by rfl, fun W _ => by go_simp⟩) ?_
              try simp only [Act.put, List.setIfInBounds_toArray, List.set_cons_zero, List.set_cons_succ]
              refine wpAnyN_one (i := 9) (by kernel_rfl) rfl (fun K hK => ?_)
              go_simp
              refine hK.out _ _ (fun _ _ => ?_) ?_
              · exact ⟨by simp [*, go_sem], by simp [*, go_sem], by simp [*, go_sem]⟩
              clear hK K
              try simp only [Act.put, List.setIfInBounds_toArray, List.set_cons_zero, List.set_cons_succ]
              refine wpAnyN_one (i := 10) (by kernel_rfl) rfl (fun K hK => ?_)
              refine step_app (o := ⟨some 52, _, _, _, _, _⟩) tyZ (by rfl) _ _ (by rfl) encZ (w1.heap.size + 1) V2 (t.map (·.2)) (by rfl) (TwoSt.own2 (w := w1) (base := w.heap.size) (B := w1.heap.size + 1) (b0 := w.heap.size) (bs := w1.heap.size) (vl := (Value.slice (some ⟨c, off, none⟩) l'.length cap)) (ll := l') (V1 := V1) (V2 := V2) (U1 := .slice A4 m4 k4) (L1 := (t.map (·.1)) ++ [y.1]) (by (repeat (first | with_reducible exact P4 | with_reducible refine TwoSt.alloc ?_ _ | with_reducible refine TwoSt.drew ?_)); done)) _ 1 [(n + y.2)] _ (by rfl) (sl_cell (by simp [*, go_sem]) (by first | omega | (simp; done) | (simp; omega))) (by first | omega | (simp; omega)) (by simp [maxLen]; omega) (by first | omega | (simp; omega)) ?_
              intro v5 w5 ho5 hg5 hl5 hb5 hn5
              obtain ⟨A5, k5, m5, rfl⟩ : ∃ A k m, v5 = .slice A m k := by obtain ⟨A, k, hv, _⟩ := ho5.form; exact ⟨A, k, _, hv⟩
              have P5 := TwoSt.app2 (w := w1) (base := w.heap.size) (B := w1.heap.size + 1) (b0 := w.heap.size) (bs := w1.heap.size) (vl := (Value.slice (some ⟨c, off, none⟩) l'.length cap)) (ll := l') (V1 := V1) (V2 := V2) (U1 := .slice A4 m4 k4) (L1 := (t.map (·.1)) ++ [y.1]) (U2 := V2) (L2 := (t.map (·.2))) (by (repeat (first | with_reducible exact P4 | with_reducible refine TwoSt.alloc ?_ _ | with_reducible refine TwoSt.drew ?_)); done) hg5 ho5 hl5 hb5
              have r5 := hg5.size
              try simp only [World.size_alloc, World.drew] at r5
              have G5 := grown_new hg5 wr.heap.size (fun g hg => W2.out g hg)
              have x5 := blk_cell P5.sums
              have f5 := blk_frozen P5.sums
              have y5 : w5.cell? ⟨wr.heap.size, 0, none⟩ = some (.int .i64 y.1) := (G5 wr.heap.size 0 (Nat.le_refl _) (by first | omega | (simp; omega))).trans (by simp [*, go_sem])
              have z5 : w1.heap.size < w5.heap.size := P5.size
              have q5 : wr.heap.size < w5.heap.size := by have := hg5.size; (try simp at this); omega
              clear hn5 hb5 hl5 hg5 ho5
              refine hK.out _ _ (fun _ _ => ?_) ?_
              · exact ⟨by simp [*, go_sem], by simp [*, go_sem], by simp [*, go_sem]⟩
              clear hK K
              try simp only [Act.put, List.setIfInBounds_toArray, List.set_cons_zero, List.set_cons_succ]
              refine wpAnyN_one (i := 12) (by kernel_rfl) rfl (fun K hK => ?_)
              go_simp
              refine hK.out _ _ (fun h _ => absurd (by decide) h) ?_
              clear hK K
              try simp only [Act.put, List.setIfInBounds_toArray, List.set_cons_zero, List.set_cons_succ]
              refine wpAnyN_pure (i := 13) (v := .pointer (some ⟨w1.heap.size, 1, none⟩)) rfl (by kernel_rfl) (by kernel_rfl) (by kernel_rfl) (fun _ _ _ h => h) (Or.inl ⟨by rfl, fun W _ => by go_simp⟩) ?_
              try simp only [Act.put, List.setIfInBounds_toArray, List.set_cons_zero, List.set_cons_succ]
              refine wpAnyN_one (i := 14) (by kernel_rfl) rfl (fun K hK => ?_)
              go_simp
              refine hK.out _ _ (fun h _ => absurd (by decide) h) ?_
              clear hK K
              try simp only [Act.put, List.setIfInBounds_toArray, List.set_cons_zero, List.set_cons_succ]
              refine wpAnyN_done (by kernel_rfl) ?_ _
              have E4 := P5.own1.len_le
              have E5 := P5.own2.len_le
              simp only [List.length_append, List.length_map, List.length_cons, List.length_nil] at E4 E5
              have F4 := Lib.hid E4.1
              have F5 := Lib.hid E5.1
              have PF := Lib.hid P5.st
              clear E4 E5 P4 P5 G4 G5 x4 x5 f4 f5 y4 y5 z4 z5 q4 q5 r4 r5 c20 z20 cs2 cf2
              refine NoPanic.normal ?_
              go_wp2_with fail
              go_roundw
              case rel => exact ⟨q + 1, m4, m5, t ++ [(y.1, n + y.2)], A4, A5, k4, k5, by omega, by go_num, by rw [HE1.out], by have := F4.out; simp; omega, by have := F5.out; simp; omega, by simpa using PF.out, by rw [HTS.out]; have := KT.out.more HLE.out HNE.out; rwa [← HN.out] at this, by simp; omega⟩
              case measure => simp [intOf]; omega
            · skip
              go_simp
              refine hK.out _ _ (fun _ _ => ?_) ?_
              · exact ⟨by simp [*, go_sem], by simp [*, go_sem], by simp [*, go_sem]⟩
              clear hK K
              try simp only [Act.put, List.setIfInBounds_toArray, List.set_cons_zero, List.set_cons_succ]
              refine wpAnyN_one (i := 5) (by kernel_rfl) rfl (fun K hK => ?_)
              refine step_app (o := ⟨some 47, _, _, _, _, _⟩) tyZ (by rfl) _ _ (by rfl) encZ (w1.heap.size + 1) V1 (t.map (·.1)) (by rfl) (TwoSt.own1 (w := w1) (base := w.heap.size) (B := w1.heap.size + 1) (b0 := w.heap.size) (bs := w1.heap.size) (vl := (Value.slice (some ⟨c, off, none⟩) l'.length cap)) (ll := l') (V1 := V1) (V2 := V2) (U2 := V2) (L2 := (t.map (·.2))) (by (repeat (first | with_reducible exact S2.out | with_reducible refine TwoSt.alloc ?_ _ | with_reducible refine TwoSt.drew ?_)); done)) _ 1 [y.1] _ (by rfl) (sl_cell (by simp [*, go_sem]) (by first | omega | (simp; done) | (simp; omega))) (by first | omega | (simp; omega)) (by simp [maxLen]; omega) (by first | omega | (simp; omega)) ?_
              intro v4 w4 ho4 hg4 hl4 hb4 hn4
              obtain ⟨A4, k4, m4, rfl⟩ : ∃ A k m, v4 = .slice A m k := by obtain ⟨A, k, hv, _⟩ := ho4.form; exact ⟨A, k, _, hv⟩
              have P4 := TwoSt.app1 (w := w1) (base := w.heap.size) (B := w1.heap.size + 1) (b0 := w.heap.size) (bs := w1.heap.size) (vl := (Value.slice (some ⟨c, off, none⟩) l'.length cap)) (ll := l') (V1 := V1) (V2 := V2) (U2 := V2) (L2 := (t.map (·.2))) (U1 := V1) (L1 := (t.map (·.1))) (by (repeat (first | with_reducible exact S2.out | with_reducible refine TwoSt.alloc ?_ _ | with_reducible refine TwoSt.drew ?_)); done) hg4 ho4 hl4 hb4
              have r4 := hg4.size
              try simp only [World.size_alloc, World.drew] at r4
              have G4 := grown_new hg4 wr.heap.size (fun g hg => W1.out g hg)
              have x4 := blk_cell P4.sums
              have f4 := blk_frozen P4.sums
              have y4 : w4.cell? ⟨wr.heap.size, 0, none⟩ = some (.int .i64 y.1) := (G4 wr.heap.size 0 (Nat.le_refl _) (by first | omega | (simp; omega))).trans (by simp [*, go_sem])
              have b4 : w4.cell? ⟨w2.heap.size + 1, 0, none⟩ = some (.int .i64 (n + y.2)) := (G4 (w2.heap.size + 1) 0 (by omega) (by first | omega | (simp; done) | (simp; omega))).trans (by simp [*, go_sem])
              have z4 : w1.heap.size < w4.heap.size := P4.size
              have q4 : wr.heap.size < w4.heap.size := by have := hg4.size; (try simp at this); omega
              clear hn4 hb4 hl4 hg4 ho4
              refine hK.out _ _ (fun _ _ => ?_) ?_
              · exact ⟨by simp [*, go_sem], by simp [*, go_sem], by simp [*, go_sem]⟩
              clear hK K
              try simp only [Act.put, List.setIfInBounds_toArray, List.set_cons_zero, List.set_cons_succ]
              refine wpAnyN_pure (i := 11) (v := .pointer (some ⟨w1.heap.size, 0, none⟩)) rfl (by kernel_rfl) (by kernel_rfl) (by kernel_rfl) (fun _ _ _ h => h) (Or.inl ⟨by rfl, fun W _ => by go_simp⟩) ?_
              try simp only [Act.put, List.setIfInBounds_toArray, List.set_cons_zero, List.set_cons_succ]
              refine wpAnyN_one (i := 10) (by kernel_rfl) rfl (fun K hK => ?_)
              refine step_app (o := ⟨some 52, _, _, _, _, _⟩) tyZ (by rfl) _ _ (by rfl) encZ (w1.heap.size + 1) V2 (t.map (·.2)) (by rfl) (TwoSt.own2 (w := w1) (base := w.heap.size) (B := w1.heap.size + 1) (b0 := w.heap.size) (bs := w1.heap.size) (vl := (Value.slice (some ⟨c, off, none⟩) l'.length cap)) (ll := l') (V1 := V1) (V2 := V2) (U1 := .slice A4 m4 k4) (L1 := (t.map (·.1)) ++ [y.1]) (by (repeat (first | with_reducible exact P4 | with_reducible refine TwoSt.alloc ?_ _ | with_reducible refine TwoSt.drew ?_)); done)) _ 1 [(n + y.2)] _ (by rfl) (sl_cell (by simp [*, go_sem]) (by first | omega | (simp; done) | (simp; omega))) (by first | omega | (simp; omega)) (by simp [maxLen]; omega) (by first | omega | (simp; omega)) ?_
              intro v5 w5 ho5 hg5 hl5 hb5 hn5
              obtain ⟨A5, k5, m5, rfl⟩ : ∃ A k m, v5 = .slice A m k := by obtain ⟨A, k, hv, _⟩ := ho5.form; exact ⟨A, k, _, hv⟩
              have P5 := TwoSt.app2 (w := w1) (base := w.heap.size) (B := w1.heap.size + 1) (b0 := w.heap.size) (bs := w1.heap.size) (vl := (Value.slice (some ⟨c, off, none⟩) l'.length cap)) (ll := l') (V1 := V1) (V2 := V2) (U1 := .slice A4 m4 k4) (L1 := (t.map (·.1)) ++ [y.1]) (U2 := V2) (L2 := (t.map (·.2))) (by (repeat (first | with_reducible exact P4 | with_reducible refine TwoSt.alloc ?_ _ | with_reducible refine TwoSt.drew ?_)); done) hg5 ho5 hl5 hb5
              have r5 := hg5.size
              try simp only [World.size_alloc, World.drew] at r5
              have G5 := grown_new hg5 wr.heap.size (fun g hg => W2.out g hg)
              have x5 := blk_cell P5.sums
              have f5 := blk_frozen P5.sums
              have y5 : w5.cell? ⟨wr.heap.size, 0, none⟩ = some (.int .i64 y.1) := (G5 wr.heap.size 0 (Nat.le_refl _) (by first | omega | (simp; omega))).trans (by simp [*, go_sem])
              have z5 : w1.heap.size < w5.heap.size := P5.size
              have q5 : wr.heap.size < w5.heap.size := by have := hg5.size; (try simp at this); omega
              clear hn5 hb5 hl5 hg5 ho5
              refine hK.out _ _ (fun _ _ => ?_) ?_
              · exact ⟨by simp [*, go_sem], by simp [*, go_sem], by simp [*, go_sem]⟩
              clear hK K
              try simp only [Act.put, List.setIfInBounds_toArray, List.set_cons_zero, List.set_cons_succ]
              refine wpAnyN_one (i := 12) (by kernel_rfl) rfl (fun K hK => ?_)
              go_simp
              refine hK.out _ _ (fun h _ => absurd (by decide) h) ?_
              clear hK K
              try simp only [Act.put, List.setIfInBounds_toArray, List.set_cons_zero, List.set_cons_succ]
              refine wpAnyN_pure (i := 13) (v := .pointer (some ⟨w1.heap.size, 1, none⟩)) rfl (by kernel_rfl) (by kernel_rfl) (by kernel_rfl) (fun _ _ _ h => h) (Or.inl ⟨by rfl, fun W _ => by go_simp⟩) ?_
              try simp only [Act.put, List.setIfInBounds_toArray, List.set_cons_zero, List.set_cons_succ]
              refine wpAnyN_one (i := 14) (by kernel_rfl) rfl (fun K hK => ?_)
              go_simp
              refine hK.out _ _ (fun h _ => absurd (by decide) h) ?_
              clear hK K
              try simp only [Act.put, List.setIfInBounds_toArray, List.set_cons_zero, List.set_cons_succ]
              refine wpAnyN_done (by kernel_rfl) ?_ _
              have E4 := P5.own1.len_le
              have E5 := P5.own2.len_le
              simp only [List.length_append, List.length_map, List.length_cons, List.length_nil] at E4 E5
              have F4 := Lib.hid E4.1
              have F5 := Lib.hid E5.1
              have PF := Lib.hid P5.st
              clear E4 E5 P4 P5 G4 G5 x4 x5 f4 f5 y4 y5 z4 z5 q4 q5 r4 r5 c20 z20 cs2 cf2
              refine NoPanic.normal ?_
              go_wp2_with fail
              go_roundw
              case rel => exact ⟨q + 1, m4, m5, t ++ [(y.1, n + y.2)], A4, A5, k4, k5, by omega, by go_num, by rw [HE1.out], by have := F4.out; simp; omega, by have := F5.out; simp; omega, by simpa using PF.out, by rw [HTS.out]; have := KT.out.more HLE.out HNE.out; rwa [← HN.out] at this, by simp; omega⟩
              case measure => simp [intOf]; omega
          · skip
            go_simp
            refine hK.out _ _ (fun _ _ => ?_) ?_
            · exact ⟨by simp [*, go_sem], by simp [*, go_sem], by simp [*, go_sem]⟩
            clear hK K
            try simp only [Act.put, List.setIfInBounds_toArray, List.set_cons_zero, List.set_cons_succ]
            refine wpAnyN_one (i := 4) (by kernel_rfl) rfl (fun K hK => ?_)
            go_simp
            refine hK.out _ _ (fun _ _ => ?_) ?_
            · exact ⟨by simp [*, go_sem], by simp [*, go_sem], by simp [*, go_sem]⟩
            clear hK K
            try simp only [Act.put, List.setIfInBounds_toArray, List.set_cons_zero, List.set_cons_succ]
            refine wpAnyN_one (i := 5) (by kernel_rfl) rfl (fun K hK => ?_)
            refine step_app (o := ⟨some 47, _, _, _, _, _⟩) tyZ (by rfl) _ _ (by rfl) encZ (w1.heap.size + 1) V1 (t.map (·.1)) (by rfl) (TwoSt.own1 (w := w1) (base := w.heap.size) (B := w1.heap.size + 1) (b0 := w.heap.size) (bs := w1.heap.size) (vl := (Value.slice (some ⟨c, off, none⟩) l'.length cap)) (ll := l') (V1 := V1) (V2 := V2) (U2 := V2) (L2 := (t.map (·.2))) (by (repeat (first | with_reducible exact S2.out | with_reducible refine TwoSt.alloc ?_ _ | with_reducible refine TwoSt.drew ?_)); done)) _ 1 [y.1] _ (by rfl) (sl_cell (by simp [*, go_sem]) (by first | omega | (simp; done) | (simp; omega))) (by first | omega | (simp; omega)) (by simp [maxLen]; omega) (by first | omega | (simp; omega)) ?_
            intro v4 w4 ho4 hg4 hl4 hb4 hn4
            obtain ⟨A4, k4, m4, rfl⟩ : ∃ A k m, v4 = .slice A m k := by obtain ⟨A, k, hv, _⟩ := ho4.form; exact ⟨A, k, _, hv⟩
            have P4 := TwoSt.app1 (w := w1) (base := w.heap.size) (B := w1.heap.size + 1) (b0 := w.heap.size) (bs := w1.heap.size) (vl := (Value.slice (some ⟨c, off, none⟩) l'.length cap)) (ll := l') (V1 := V1) (V2 := V2) (U2 := V2) (L2 := (t.map (·.2))) (U1 := V1) (L1 := (t.map (·.1))) (by (repeat (first | with_reducible exact S2.out | with_reducible refine TwoSt.alloc ?_ _ | with_reducible refine TwoSt.drew ?_)); done) hg4 ho4 hl4 hb4
            have r4 := hg4.size
            try simp only [World.size_alloc, World.drew] at r4
            have G4 := grown_new hg4 wr.heap.size (fun g hg => W1.out g hg)
            have x4 := blk_cell P4.sums
            have f4 := blk_frozen P4.sums
            have y4 : w4.cell? ⟨wr.heap.size, 0, none⟩ = some (.int .i64 y.1) := (G4 wr.heap.size 0 (Nat.le_refl _) (by first | omega | (simp; omega))).trans (by simp [*, go_sem])
            have b4 : w4.cell? ⟨w2.heap.size, 0, none⟩ = some (.int .i64 (n + y.2)) := (G4 (w2.heap.size) 0 (by omega) (by first | omega | (simp; done) | (simp; omega))).trans (by simp [*, go_sem])
            have z4 : w1.heap.size < w4.heap.size := P4.size
            have q4 : wr.heap.size < w4.heap.size := by have := hg4.size; (try simp at this); omega
            clear hn4 hb4 hl4 hg4 ho4
            refine hK.out _ _ (fun _ _ => ?_) ?_
            · exact ⟨by simp [*, go_sem], by simp [*, go_sem], by simp [*, go_sem]⟩
            clear hK K
            try simp only [Act.put, List.setIfInBounds_toArray, List.set_cons_zero, List.set_cons_succ]
            refine wpAnyN_pure (i := 11) (v := .pointer (some ⟨w1.heap.size, 0, none⟩)) rfl (by kernel_rfl) (by kernel_rfl) (by kernel_rfl) (fun _ _ _ h => h) (Or.inl ⟨by rfl, fun W _ => by go_simp⟩) ?_
            try simp only [Act.put, List.setIfInBounds_toArray, List.set_cons_zero, List.set_cons_succ]
            refine wpAnyN_one (i := 10) (by kernel_rfl) rfl (fun K hK => ?_)
            refine step_app (o := ⟨some 52, _, _, _, _, _⟩) tyZ (by rfl) _ _ (by rfl) encZ (w1.heap.size + 1) V2 (t.map (·.2)) (by rfl) (TwoSt.own2 (w := w1) (base := w.heap.size) (B := w1.heap.size + 1) (b0 := w.heap.size) (bs := w1.heap.size) (vl := (Value.slice (some ⟨c, off, none⟩) l'.length cap)) (ll := l') (V1 := V1) (V2 := V2) (U1 := .slice A4 m4 k4) (L1 := (t.map (·.1)) ++ [y.1]) (by (repeat (first | with_reducible exact P4 | with_reducible refine TwoSt.alloc ?_ _ | with_reducible refine TwoSt.drew ?_)); done)) _ 1 [(n + y.2)] _ (by rfl) (sl_cell (by simp [*, go_sem]) (by first | omega | (simp; done) | (simp; omega))) (by first | omega | (simp; omega)) (by simp [maxLen]; omega) (by first | omega | (simp; omega)) ?_
            intro v5 w5 ho5 hg5 hl5 hb5 hn5
            obtain ⟨A5, k5, m5, rfl⟩ : ∃ A k m, v5 = .slice A m k := by obtain ⟨A, k, hv, _⟩ := ho5.form; exact ⟨A, k, _, hv⟩
            have P5 := TwoSt.app2 (w := w1) (base := w.heap.size) (B := w1.heap.size + 1) (b0 := w.heap.size) (bs := w1.heap.size) (vl := (Value.slice (some ⟨c, off, none⟩) l'.length cap)) (ll := l') (V1 := V1) (V2 := V2) (U1 := .slice A4 m4 k4) (L1 := (t.map (·.1)) ++ [y.1]) (U2 := V2) (L2 := (t.map (·.2))) (by (repeat (first | with_reducible exact P4 | with_reducible refine TwoSt.alloc ?_ _ | with_reducible refine TwoSt.drew ?_)); done) hg5 ho5 hl5 hb5
            have r5 := hg5.size
            try simp only [World.size_alloc, World.drew] at r5
            have G5 := grown_new hg5 wr.heap.size (fun g hg => W2.out g hg)
            have x5 := blk_cell P5.sums
            have f5 := blk_frozen P5.sums
            have y5 : w5.cell? ⟨wr.heap.size, 0, none⟩ = some (.int .i64 y.1) := (G5 wr.heap.size 0 (Nat.le_refl _) (by first | omega | (simp; omega))).trans (by simp [*, go_sem])
            have z5 : w1.heap.size < w5.heap.size := P5.size
            have q5 : wr.heap.size < w5.heap.size := by have := hg5.size; (try simp at this); omega
            clear hn5 hb5 hl5 hg5 ho5
            refine hK.out _ _ (fun _ _ => ?_) ?_
            · exact ⟨by simp [*, go_sem], by simp [*, go_sem], by simp [*, go_sem]⟩
            clear hK K
            try simp only [Act.put, List.setIfInBounds_toArray, List.set_cons_zero, List.set_cons_succ]
            refine wpAnyN_one (i := 12) (by kernel_rfl) rfl (fun K hK => ?_)
            go_simp
            refine hK.out _ _ (fun h _ => absurd (by decide) h) ?_
            clear hK K
            try simp only [Act.put, List.setIfInBounds_toArray, List.set_cons_zero, List.set_cons_succ]
            refine wpAnyN_pure (i := 13) (v := .pointer (some ⟨w1.heap.size, 1, none⟩)) rfl (by kernel_rfl) (by kernel_rfl) (by kernel_rfl) (fun _ _ _ h => h) (Or.inl ⟨by rfl, fun W _ => by go_simp⟩) ?_
            try simp only [Act.put, List.setIfInBounds_toArray, List.set_cons_zero, List.set_cons_succ]
            refine wpAnyN_one (i := 14) (by kernel_rfl) rfl (fun K hK => ?_)
            go_simp
            refine hK.out _ _ (fun h _ => absurd (by decide) h) ?_
            clear hK K
            try simp only [Act.put, List.setIfInBounds_toArray, List.set_cons_zero, List.set_cons_succ]
            refine wpAnyN_done (by kernel_rfl) ?_ _
            have E4 := P5.own1.len_le
            have E5 := P5.own2.len_le
            simp only [List.length_append, List.length_map, List.length_cons, List.length_nil] at E4 E5
            have F4 := Lib.hid E4.1
            have F5 := Lib.hid E5.1
            have PF := Lib.hid P5.st
            clear E4 E5 P4 P5 G4 G5 x4 x5 f4 f5 y4 y5 z4 z5 q4 q5 r4 r5 c20 z20 cs2 cf2
            refine NoPanic.normal ?_
            go_wp2_with fail
            go_roundw
            case rel => exact ⟨q + 1, m4, m5, t ++ [(y.1, n + y.2)], A4, A5, k4, k5, by omega, by go_num, by rw [HE1.out], by have := F4.out; simp; omega, by have := F5.out; simp; omega, by simpa using PF.out, by rw [HTS.out]; have := KT.out.more HLE.out HNE.out; rwa [← HN.out] at this, by simp; omega⟩
            case measure => simp [intOf]; omega
    · obtain rfl : q = l'.length := by omega
      rw [List.take_length] at KT
      have ct := blk_cell hst.zero
      have cft := blk_frozen hst.zero
      have zt := lt_of_block hst.zero
      clear hst htab
      subst hk1
      subst hk2
      go_wp2_with fail
      refine bodyPost_ret (v := .agg #[.slice A1 t.length c1, .slice A2 t.length c2]) (by simp only [results, Tryz.results150]; go_simp) rfl ⟨t, A1, c1, A2, c2, rfl, KT.out.perm HP.out, by have := HLen.out; omega, ?_, ?_, ?_⟩
      · exact ((KST.out.own1.setCellB (by simp only; omega)).setCellB (by simp only; omega)).base_le (by omega)
      · exact ((KST.out.own2.setCellB (by simp only; omega)).setCellB (by simp only; omega)).base_le (by omega)
      · have hB := (KST.out.blw.setCell (p := ⟨w.heap.size, 0, none⟩) (Nat.le_refl _) (.slice A1 t.length c1)).setCell (p := ⟨w.heap.size, 1, none⟩) (Nat.le_refl _) (.slice A2 t.length c2)
        have hA : Below w.heap.size w (w.alloc (.cells #[.slice none 0 0, .slice none 0 0] 189)) := (Below.refl _ _).alloc (Nat.le_refl _) _
        exact turn_then hA HTu.out hB
end Go.Proofs.YtbmmkhbdcaokkaaGreat
/- Package reach: Between. -/
namespace Go.Proofs.YtbmmkhbdcaokkaaGreat
open Go.ChangeShapes Go.WideShapes Go.ChangeAt Go.RowKit
set_option linter.unusedVariables false
set_option maxRecDepth 100000

/-- What those nodes weigh that lie in a range, and what those weigh that meet it. -/
def inLow (a b lo hi : Int) : Bool := decide (a ≤ lo) && decide (hi ≤ b)
def inHigh (a b lo hi : Int) : Bool := decide (lo ≤ b) && decide (a ≤ hi)
def betwLow (l : Int) (r : List Nd) (a b : Int) : Int := weighR l (inLow a b) r
def betwHigh (l : Int) (r : List Nd) (a b : Int) : Int := weighR l (inHigh a b) r
theorem weighR_one (l : Int) (f : Int → Int → Bool) (x : Nd) : weighR l f [x] = if f (endsOf l x.1).1 (endsOf l x.1).2.1 = true then x.2 else 0 := by simp only [weighR]; simp
theorem weighR_take {l : Int} {f : Int → Int → Bool} {r : List Nd} {q : Nat} (h : q < r.length) : weighR l f (r.take (q + 1)) = weighR l f (r.take q) + if f (endsOf l r[q].1).1 (endsOf l r[q].1).2.1 = true then r[q].2 else 0 := by
  rw [List.take_succ_eq_append_getElem h, weighR_append, weighR_one]

theorem le_or_dec (a b : Int) : a ≤ b ∨ decide (a ≤ b) = false := by
  by_cases h : a ≤ b
  · exact .inl h
  · exact .inr (decide_eq_false h)
theorem reach_Between1 (w : World) (id l a b : Int) (p q s : Nat) (hid : id ≤ 9223372036854775807) (h1 : w.cell? ⟨p, 0, none⟩ = some (.int .i64 l)) (h2 : w.cell? ⟨q, 0, none⟩ = some (.int .i64 a)) (h3 : w.cell? ⟨s, 0, none⟩ = some (.int .i64 b)) :
    Calls Tryz.prog 71 #[.int .i64 id, .pointer (some ⟨p, 0, none⟩), .pointer (some ⟨q, 0, none⟩), .pointer (some ⟨s, 0, none⟩)] w fun e w' => e = .returned (.tuple #[.bool (inLow a b (endsOf l id).1 (endsOf l id).2.1), .bool (inHigh a b (endsOf l id).1 (endsOf l id).2.1)]) ∧ Below w.heap.size w w' := by
  have HE := Lib.hid (twig_Ends · l id hid)
  have zq := lt_of_cell h2
  have zs := lt_of_cell h3
  generalize endsOf l id = t at HE ⊢
  obtain ⟨lo, hi, ok⟩ := t
  unfold endsV at HE
  simp only [inLow, inHigh]
  have H2 := Lib.hid h2
  have H3 := Lib.hid h3
  clear h2 h3
  rcases le_or_dec a lo with k1 | k1
  all_goals rcases le_or_dec lo b with k2 | k2
  all_goals (
    go_enter Tryz.func71, Tryz.ntmps71
    go_wp2_with fail
    refine (HE.out _).mono ?_
    rintro e w1 ⟨rfl, hb1⟩
    have B1 : Below w.heap.size w w1 := Below.then_ (by repeat (first | with_reducible exact Below.refl _ _ | with_reducible assumption | ((with_reducible refine Below.setCell ?_ ?_ _); rotate_left; · (first | omega | exact Nat.le_refl _ | (simp <;> omega))) | (with_reducible refine Below.allocW ?_ _) | (with_reducible refine Below.drew ?_) | (with_reducible refine Below.extW ?_ _))) hb1
    have s1 : w.heap.size ≤ w1.heap.size := B1.size
    have c2 := (hb1.cell (p := ⟨q, 0, none⟩) zq).trans H2.out
    have c3 := (hb1.cell (p := ⟨s, 0, none⟩) zs).trans H3.out
    have z2 := Nat.lt_of_lt_of_le zq s1
    have z3 := Nat.lt_of_lt_of_le zs s1
    go_wp2_with fail
    refine wp_region_ext (by kernel_rfl) (by kernel_rfl) ?_
    repeat (go_big_quiet_step (fail))
    refine wpQuiet_nil ?_
    intro w2 hb2
    replace hb2 := below_of_ext hb2
    have B2 : Below w.heap.size w w2 := Below.then_ (by repeat (first | with_reducible exact Below.refl _ _ | with_reducible assumption | ((with_reducible refine Below.setCell ?_ ?_ _); rotate_left; · (first | omega | exact Nat.le_refl _ | (simp <;> omega))) | (with_reducible refine Below.allocW ?_ _) | (with_reducible refine Below.drew ?_) | (with_reducible refine Below.extW ?_ _))) hb2
    have s2 : w.heap.size ≤ w2.heap.size := B2.size
    go_wp2_with fail
    go_ret2
    exact ⟨by simp [k1, k2], B2⟩)

/-- The cell of a Both. -/
def bothAt (w : World) (b : Nat) (lo hi : Int) : Prop := w.heap[b]? = some (.cells #[.int .i64 lo, .int .i64 hi] 29 (0, 0))
theorem bothAt.below {w w' : World} {b : Nat} {lo hi : Int} (h : bothAt w b lo hi) (hb : Below w.heap.size w w') : bothAt w' b lo hi := blk_below h hb
theorem bothAt.alloc {w : World} {b : Nat} {lo hi : Int} (h : bothAt w b lo hi) (o : Obj) : bothAt (w.alloc o) b lo hi := h.below ((Below.refl _ _).alloc (Nat.le_refl _) o)
theorem bothAt.drew {w : World} {b : Nat} {lo hi : Int} (h : bothAt w b lo hi) : bothAt w.drew b lo hi := h
theorem bothAt.set0 {w : World} {b : Nat} {lo hi : Int} (h : bothAt w b lo hi) (x : Int) : bothAt (w.setCell ⟨b, 0, none⟩ (.int .i64 x)) b x hi := heap_set_at (i := 0) h _
theorem bothAt.set1 {w : World} {b : Nat} {lo hi : Int} (h : bothAt w b lo hi) (x : Int) : bothAt (w.setCell ⟨b, 1, none⟩ (.int .i64 x)) b lo x := heap_set_at (i := 1) h _
theorem bothAt.set {w : World} {b q o : Nat} {lo hi : Int} (h : bothAt w b lo hi) (hne : b ≠ q) (u : Value) : bothAt (w.setCell ⟨q, o, none⟩ u) b lo hi := (Below.heap_setCell _ _ _ _ hne).trans h
theorem bothAt.new (w : World) (lo hi : Int) : bothAt (w.alloc (.cells #[.int .i64 lo, .int .i64 hi] 29)) w.heap.size lo hi := heap_alloc_new _ _

set_option maxHeartbeats 2000000 in
theorem sum_Between (w : World) (g K l : Nat) (k : Int) (r : List Nd) (F : Nat → Prop) (a b : Int) (p q s : Nat) (h : DigAt w g K l k r F) (hn : r.length ≤ 67108864) (h1 : w.cell? ⟨p, 0, none⟩ = some (.int .i64 l)) (h2 : w.cell? ⟨q, 0, none⟩ = some (.int .i64 a)) (h3 : w.cell? ⟨s, 0, none⟩ = some (.int .i64 b)) :
    Calls Tryz.prog 70 #[.pointer (some ⟨g, 0, none⟩), .func (.func 71) #[] #[.pointer (some ⟨p, 0, none⟩), .pointer (some ⟨q, 0, none⟩), .pointer (some ⟨s, 0, none⟩)]] w fun e w' => e = .returned (.agg #[.int .i64 (betwLow l r a b), .int .i64 (betwHigh l r a b)]) ∧ Below w.heap.size w w' := by
  have hf := h.fits
  have hll := h.l_le
  have HD := Lib.hid h
  have z1 := lt_of_cell h1
  have z2 := lt_of_cell h2
  have z3 := lt_of_cell h3
  have H1 := Lib.hid h1
  have H2 := Lib.hid h2
  have H3 := Lib.hid h3
  clear h h1 h2 h3
  go_enter Tryz.func70, Tryz.ntmps70
  go_wp2_with fail
  have B0 : Below w.heap.size w ((w.alloc (.cells #[.int .i64 0, .int .i64 0] 29)).alloc (.cells #[.int .i64 0, .int .i64 0] 29)) := (by repeat (first | with_reducible exact Below.refl _ _ | with_reducible assumption | ((with_reducible refine Below.setCell ?_ ?_ _); rotate_left; · (first | omega | exact Nat.le_refl _ | (simp <;> omega))) | (with_reducible refine Below.allocW ?_ _) | (with_reducible refine Below.drew ?_) | (with_reducible refine Below.extW ?_ _)))
  have K0 := Lib.hid ((bothAt.new w 0 0).alloc (.cells #[.int .i64 0, .int .i64 0] 29))
  have K1 := Lib.hid (bothAt.new (w.alloc (.cells #[.int .i64 0, .int .i64 0] 29)) 0 0)
  simp only [World.size_alloc] at K1
  refine (digest_Nodes _ g K l k r F (HD.out.below B0) hn).mono ?_
  rintro e w2 ⟨v, rfl, ho, hb2⟩
  have B2 : Below w.heap.size w w2 := Below.then_ (by repeat (first | with_reducible exact Below.refl _ _ | with_reducible assumption | ((with_reducible refine Below.setCell ?_ ?_ _); rotate_left; · (first | omega | exact Nat.le_refl _ | (simp <;> omega))) | (with_reducible refine Below.allocW ?_ _) | (with_reducible refine Below.drew ?_) | (with_reducible refine Below.extW ?_ _))) hb2
  have s2 : w.heap.size ≤ w2.heap.size := B2.size
  have HO := Lib.hid ho
  simp only [World.size_alloc] at HO
  have M0 := Lib.hid (K0.out.below hb2)
  have M1 := Lib.hid (K1.out.below hb2)
  have z0 : w.heap.size + 2 ≤ w2.heap.size := by have := hb2.size; simp at this; omega
  obtain ⟨A, cap, rfl, _⟩ := ho.form
  clear ho K0 K1 hb2 B0
  go_wp2_with fail
  go_loopw [13] (fun i wr => ∃ q : Nat, q ≤ r.length ∧ i = .int .i64 q ∧ bothAt wr w.heap.size 0 0 ∧ bothAt wr (w.heap.size + 1) (betwLow l (r.take q) a b) (betwHigh l (r.take q) a b) ∧ Own wr (w.heap.size + 1 + 1) 108 encN (.slice A r.length cap) r ∧ Below w.heap.size w wr) (fun i _ => r.length - (intOf i).toNat)
  case atStart => exact ⟨0, Nat.zero_le _, rfl, M0.out, M1.out, HO.out, B2⟩
  case round =>
    obtain ⟨j, hj, rfl, hm0, hm1, hown, hB⟩ := hrel
    have KO := Lib.hid hown
    have N0 := Lib.hid hm0
    have N1 := Lib.hid hm1
    have hs := hB.size
    have zn1 := lt_of_block hm1
    clear hown hm0
    by_cases hlt : j < r.length
    · obtain ⟨c, off, rfl, hc, hcl⟩ := KO.out.sl.at_ hlt
      have d0 := hcl 0 (.int .i64 r[j].1) rfl
      have d1 := hcl 1 (.int .i64 r[j].2) rfl
      simp only [Nat.add_zero] at d0
      have hx := hf.roll.2 _ (List.getElem_mem hlt)
      have hxl := hf.lt _ (List.getElem_mem hlt)
      have e1 := sumR_take_succ hlt
      have e2 := sumR_take_le hf.roll (j + 1)
      have e3 := hf.sum
      have e5 := weighR_le (l := l) (f := inLow a b) (hf.roll.take j)
      have e6 := weighR_le (l := l) (f := inHigh a b) (hf.roll.take j)
      have E7 : betwLow l (r.take (j + 1)) a b = _ := weighR_take hlt
      have E8 : betwHigh l (r.take (j + 1)) a b = _ := weighR_take hlt
      have hp := pow_48 (n := l) hll.2
      unfold betwLow at hm1 N1 E7 ⊢
      unfold betwHigh at hm1 N1 E8 ⊢
      obtain ⟨x, hxe⟩ : ∃ x, x = r[j] := ⟨_, rfl⟩
      rw [← hxe] at d0 d1 hx hxl e1 E7 E8
      have n2 : weighR l (inLow a b) (r.take j) + x.2 ≤ 72057594037927935 := by omega
      have n3 : weighR l (inHigh a b) (r.take j) + x.2 ≤ 72057594037927935 := by omega
      have n0 := e5.1
      have n1 := e6.1
      have hx1 : x.1 ≤ 562949953421312 := by omega
      have hx2 := hx.2
      have HC := Lib.hid (fun W => reach_Between1 W x.1 l a b p q s (by omega))
      generalize weighR l (inLow a b) (r.take j) = m at n0 n2 E7 hm1 N1
      generalize weighR l (inHigh a b) (r.take j) = n at n1 n3 E8 hm1 N1
      generalize inLow a b (endsOf l x.1).1 (endsOf l x.1).2.1 = bl at E7 HC
      generalize inHigh a b (endsOf l x.1).1 (endsOf l x.1).2.1 = bh at E8 HC
      have E7 := Lib.hid E7
      have E8 := Lib.hid E8
      clear hcl e1 e2 e3 e5 e6 hxe hxl hp hx hm1
      go_wp2_with fail
      have W3 : Below w.heap.size w (wr.alloc (.cells #[.int .i64 x.1, .int .i64 x.2] 108)) := hB.alloc hs _
      refine (HC.out _ ((W3.cell (p := ⟨p, 0, none⟩) z1).trans H1.out) ((W3.cell (p := ⟨q, 0, none⟩) z2).trans H2.out) ((W3.cell (p := ⟨s, 0, none⟩) z3).trans H3.out)).mono ?_
      rintro e w4 ⟨rfl, hb4⟩
      have B4 : Below w.heap.size w w4 := Below.then_ (by repeat (first | with_reducible exact Below.refl _ _ | with_reducible assumption | ((with_reducible refine Below.setCell ?_ ?_ _); rotate_left; · (first | omega | exact Nat.le_refl _ | (simp <;> omega))) | (with_reducible refine Below.allocW ?_ _) | (with_reducible refine Below.drew ?_) | (with_reducible refine Below.extW ?_ _))) hb4
      have s4 : w.heap.size ≤ w4.heap.size := B4.size
      have z4_0 : wr.heap.size < w4.heap.size := by have := hb4.size; (try simp at this); omega
      have y4_0 : wr.heap.size ≤ w4.heap.size := Nat.le_of_lt z4_0
      have c4_0 := fun o => hb4.cell (p := ⟨wr.heap.size, o, none⟩) (by first | omega | (simp <;> omega))
      have f4_0 := fun o => hb4.frozen (p := ⟨wr.heap.size, o, none⟩) (by first | omega | (simp <;> omega))
      have L0 := Lib.hid ((N0.out.alloc _).below hb4)
      have l1 := (N1.out.alloc _).below hb4
      have L1 := Lib.hid l1
      have LO := Lib.hid ((KO.out.alloc _).below hb4)
      have cc := blk_cell l1
      have cf := blk_frozen l1
      have zz := lt_of_block l1
      have hne : w.heap.size ≠ w.heap.size + 1 := by omega
      clear l1 hb4
      cases bl
      all_goals cases bh
      all_goals (
        go_wp2_with fail
        go_roundw
        case rel =>
          have F7 := E7.out
          have F8 := E8.out
          simp only [Bool.false_eq_true, if_false, if_true, Int.add_zero, reduceIte] at F7 F8
          refine ⟨j + 1, by omega, by go_num, ?_, ?_, ?_, (by repeat (first | with_reducible exact Below.refl _ _ | with_reducible assumption | ((with_reducible refine Below.setCell ?_ ?_ _); rotate_left; · (first | omega | exact Nat.le_refl _ | (simp <;> omega))) | (with_reducible refine Below.allocW ?_ _) | (with_reducible refine Below.drew ?_) | (with_reducible refine Below.extW ?_ _)))⟩
          · first
              | exact L0.out
              | exact L0.out.set hne _
              | exact (L0.out.set hne _).set hne _
          · rw [F7, F8]
            first
              | exact L1.out
              | exact L1.out.set0 _
              | exact L1.out.set1 _
              | exact (L1.out.set0 _).set1 _
          · first
              | exact LO.out
              | exact LO.out.setCellB (by simp only; omega)
              | exact (LO.out.setCellB (by simp only; omega)).setCellB (by simp only; omega)
        case measure => simp [intOf]; omega)
    · obtain rfl : j = r.length := by omega
      rw [List.take_length] at N1 hm1
      have cc := blk_cell hm1
      have cf0 := blk_frozen N0.out
      have cc0 := blk_cell N0.out
      have zn0 := lt_of_block N0.out
      clear hm1
      go_wp2_with fail
      exact bodyPost_ret (v := .agg #[.int .i64 (betwLow l r a b), .int .i64 (betwHigh l r a b)]) (by simp only [results, Tryz.results70]; go_simp) rfl ⟨rfl, (by repeat (first | with_reducible exact Below.refl _ _ | with_reducible assumption | ((with_reducible refine Below.setCell ?_ ?_ _); rotate_left; · (first | omega | exact Nat.le_refl _ | (simp <;> omega))) | (with_reducible refine Below.allocW ?_ _) | (with_reducible refine Below.drew ?_) | (with_reducible refine Below.extW ?_ _)))⟩
end Go.Proofs.YtbmmkhbdcaokkaaGreat
/- Package reach: Between and Share. -/
namespace Go.Proofs.YtbmmkhbdcaokkaaGreat
open Go.ChangeShapes Go.WideShapes Go.ChangeAt Go.RowKit
set_option linter.unusedVariables false
set_option maxRecDepth 100000

/-- What Between tells: the two weights, and the error. -/
def betw (l : Int) (r : List Nd) (a b : Int) : Int × Int × Int := if b < a then (0, 0, 2) else (betwLow l r a b, betwHigh l r a b, 0)
/-- What Share tells. -/
def share (l : Int) (r : List Nd) (a b d : Int) : Int × Int × Int :=
  if sumR r = 0 then (0, 0, 7) else if d < 1 ∨ b < a then (0, 0, 2) else (((betwLow l r a b).toNat * d.toNat / (sumR r).toNat : Nat), (upV (betwHigh l r a b).toNat d.toNat (sumR r).toNat : Nat), 0)
def bothV (t : Int × Int × Int) : Value := .tuple #[.agg #[.int .i64 t.1, .int .i64 t.2.1], .int .i64 t.2.2]
theorem betw_no {l a b : Int} {r : List Nd} (h : b < a) : bothV (betw l r a b) = .tuple #[.agg #[.int .i64 0, .int .i64 0], .int .i64 2] := by unfold betw; rw [if_pos h]; rfl
theorem betw_yes {l a b : Int} {r : List Nd} (h : ¬ b < a) : bothV (betw l r a b) = .tuple #[.agg #[.int .i64 (betwLow l r a b), .int .i64 (betwHigh l r a b)], .int .i64 0] := by unfold betw; rw [if_neg h]; rfl

theorem reach_Between (w : World) (g K l : Nat) (k : Int) (r : List Nd) (F : Nat → Prop) (a b : Int) (h : DigAt w g K l k r F) (hn : r.length ≤ 67108864) :
    Calls Tryz.prog 22 #[.pointer (some ⟨g, 0, none⟩), .int .i64 a, .int .i64 b] w fun e w' => e = .returned (bothV (betw l r a b)) ∧ Below w.heap.size w w' := by
  have HD := Lib.hid h
  clear h
  by_cases hab : b < a
  · rw [betw_no hab]
    go_enter Tryz.func22, Tryz.ntmps22
    go_wp2_with fail
    exact bodyPost_ret (v := .tuple #[.agg #[.int .i64 0, .int .i64 0], .int .i64 2]) (by simp only [results, Tryz.results22]; go_simp) rfl ⟨rfl, (by repeat (first | with_reducible exact Below.refl _ _ | with_reducible assumption | ((with_reducible refine Below.setCell ?_ ?_ _); rotate_left; · (first | omega | exact Nat.le_refl _ | (simp <;> omega))) | (with_reducible refine Below.allocW ?_ _) | (with_reducible refine Below.drew ?_) | (with_reducible refine Below.extW ?_ _)))⟩
  · rw [betw_yes hab]
    have h1 : decide (b < a) = false := by simpa using hab
    have hba : a ≤ b := by omega
    clear hab
    go_enter Tryz.func22, Tryz.ntmps22
    go_wp2_with fail
    have B0 : Below w.heap.size w (((w.alloc (.cells #[.int .i64 a] 3)).alloc (.cells #[.int .i64 b] 3)).alloc (.cells #[.int .i64 0, .int .i64 0] 29)) := (by repeat (first | with_reducible exact Below.refl _ _ | with_reducible assumption | ((with_reducible refine Below.setCell ?_ ?_ _); rotate_left; · (first | omega | exact Nat.le_refl _ | (simp <;> omega))) | (with_reducible refine Below.allocW ?_ _) | (with_reducible refine Below.drew ?_) | (with_reducible refine Below.extW ?_ _)))
    have ca : (((w.alloc (.cells #[.int .i64 a] 3)).alloc (.cells #[.int .i64 b] 3)).alloc (.cells #[.int .i64 0, .int .i64 0] 29)).cell? ⟨w.heap.size, 0, none⟩ = some (.int .i64 a) := by go_simp
    have cb : (((w.alloc (.cells #[.int .i64 a] 3)).alloc (.cells #[.int .i64 b] 3)).alloc (.cells #[.int .i64 0, .int .i64 0] 29)).cell? ⟨w.heap.size + 1, 0, none⟩ = some (.int .i64 b) := by go_simp
    have HA := Lib.hid ca
    have HB := Lib.hid cb
    clear ca cb
    refine (digest_Conf _ g K l k r F (HD.out.below B0)).mono ?_
    rintro e w1 ⟨rfl, hb1⟩
    have B1 : Below w.heap.size w w1 := Below.then_ (by repeat (first | with_reducible exact Below.refl _ _ | with_reducible assumption | ((with_reducible refine Below.setCell ?_ ?_ _); rotate_left; · (first | omega | exact Nat.le_refl _ | (simp <;> omega))) | (with_reducible refine Below.allocW ?_ _) | (with_reducible refine Below.drew ?_) | (with_reducible refine Below.extW ?_ _))) hb1
    have s1 : w.heap.size ≤ w1.heap.size := B1.size
    have z1_0 : w.heap.size < w1.heap.size := by have := hb1.size; (try simp at this); omega
    have y1_0 : w.heap.size ≤ w1.heap.size := Nat.le_of_lt z1_0
    have c1_0 := fun o => hb1.cell (p := ⟨w.heap.size, o, none⟩) (by first | omega | (simp <;> omega))
    have f1_0 := fun o => hb1.frozen (p := ⟨w.heap.size, o, none⟩) (by first | omega | (simp <;> omega))
    have z1_1 : w.heap.size + 1 < w1.heap.size := by have := hb1.size; (try simp at this); omega
    have y1_1 : w.heap.size + 1 ≤ w1.heap.size := Nat.le_of_lt z1_1
    have c1_1 := fun o => hb1.cell (p := ⟨w.heap.size + 1, o, none⟩) (by first | omega | (simp <;> omega))
    have f1_1 := fun o => hb1.frozen (p := ⟨w.heap.size + 1, o, none⟩) (by first | omega | (simp <;> omega))
    have z1_2 : w.heap.size + 1 + 1 < w1.heap.size := by have := hb1.size; (try simp at this); omega
    have y1_2 : w.heap.size + 1 + 1 ≤ w1.heap.size := Nat.le_of_lt z1_2
    have c1_2 := fun o => hb1.cell (p := ⟨w.heap.size + 1 + 1, o, none⟩) (by first | omega | (simp <;> omega))
    have f1_2 := fun o => hb1.frozen (p := ⟨w.heap.size + 1 + 1, o, none⟩) (by first | omega | (simp <;> omega))
    have KD := Lib.hid ((HD.out.below B1).below ((Below.refl w1.heap.size w1).alloc (Nat.le_refl _) (.cells #[.int .i64 l] 3)))
    have WA := (Below.refl w1.heap.size w1).alloc (Nat.le_refl _) (.cells #[.int .i64 l] 3)
    have ca := (WA.cell (p := ⟨w.heap.size, 0, none⟩) z1_0).trans ((c1_0 0).trans HA.out)
    have cb := (WA.cell (p := ⟨w.heap.size + 1, 0, none⟩) z1_1).trans ((c1_1 0).trans HB.out)
    have HA1 := Lib.hid ca
    have HB1 := Lib.hid cb
    clear ca cb WA hb1
    go_wp2_with fail
    refine (sum_Between _ g K l k r F a b w1.heap.size w.heap.size (w.heap.size + 1) KD.out hn (by go_simp) HA1.out HB1.out).mono ?_
    rintro e w2 ⟨rfl, hb2⟩
    have B2 : Below w.heap.size w w2 := Below.then_ (by repeat (first | with_reducible exact Below.refl _ _ | with_reducible assumption | ((with_reducible refine Below.setCell ?_ ?_ _); rotate_left; · (first | omega | exact Nat.le_refl _ | (simp <;> omega))) | (with_reducible refine Below.allocW ?_ _) | (with_reducible refine Below.drew ?_) | (with_reducible refine Below.extW ?_ _))) hb2
    have s2 : w.heap.size ≤ w2.heap.size := B2.size
    have z2_0 : w.heap.size + 1 + 1 < w2.heap.size := by have := hb2.size; (try simp at this); omega
    have y2_0 : w.heap.size + 1 + 1 ≤ w2.heap.size := Nat.le_of_lt z2_0
    have c2_0 := fun o => hb2.cell (p := ⟨w.heap.size + 1 + 1, o, none⟩) (by first | omega | (simp <;> omega))
    have f2_0 := fun o => hb2.frozen (p := ⟨w.heap.size + 1 + 1, o, none⟩) (by first | omega | (simp <;> omega))
    go_wp2_with fail
    exact bodyPost_ret (v := .tuple #[.agg #[.int .i64 (betwLow l r a b), .int .i64 (betwHigh l r a b)], .int .i64 0]) (by simp only [results, Tryz.results22]; go_simp) rfl ⟨rfl, (by repeat (first | with_reducible exact Below.refl _ _ | with_reducible assumption | ((with_reducible refine Below.setCell ?_ ?_ _); rotate_left; · (first | omega | exact Nat.le_refl _ | (simp <;> omega))) | (with_reducible refine Below.allocW ?_ _) | (with_reducible refine Below.drew ?_) | (with_reducible refine Below.extW ?_ _)))⟩
theorem reach_Between_nil (w : World) (a b : Int) :
    Calls Tryz.prog 22 #[.pointer none, .int .i64 a, .int .i64 b] w fun e w' => e = .returned (bothV (0, 0, 1)) ∧ Below w.heap.size w w' := by
  unfold bothV
  go_enter Tryz.func22, Tryz.ntmps22
  go_wp2_with fail
  exact bodyPost_ret (v := .tuple #[.agg #[.int .i64 0, .int .i64 0], .int .i64 1]) (by simp only [results, Tryz.results22]; go_simp) rfl ⟨rfl, (by repeat (first | with_reducible exact Below.refl _ _ | with_reducible assumption | ((with_reducible refine Below.setCell ?_ ?_ _); rotate_left; · (first | omega | exact Nat.le_refl _ | (simp <;> omega))) | (with_reducible refine Below.allocW ?_ _) | (with_reducible refine Below.drew ?_) | (with_reducible refine Below.extW ?_ _)))⟩
end Go.Proofs.YtbmmkhbdcaokkaaGreat
/- Package rank: tables. -/
namespace Go.Proofs.YtbmmkhbdcaokkaaGreat
open Go.ChangeShapes Go.WideShapes Go.ChangeAt Go.RowKit
set_option linter.unusedVariables false
set_option maxRecDepth 100000

/-- What a table says of a number. -/
def upT (t : List Nd) (x : Int) : Int := if atMost t x = 0 then 0 else (t.getD (atMost t x - 1) (0, 0)).2
theorem Tab.upT {l t : List Nd} (h : Tab l t) (x : Int) : upT t x = wUp l x := by
  unfold Go.Proofs.YtbmmkhbdcaokkaaGreat.upT
  by_cases h0 : atMost t x = 0
  · rw [if_pos h0, h.none h0]
  · have hi : atMost t x - 1 < t.length := by have := atMost_le t x; omega
    rw [if_neg h0, getD_at hi, h.some h0 hi]
theorem upTo_closure (W : World) (b2 b3 i n c2 blk off : Nat) (v2 : Value) (x y : Int) (hi : i < n) (hn : n ≤ 67108864) (h2 : W.cell? ⟨b2, 0, none⟩ = some (.slice (some ⟨blk, off, none⟩) n c2)) (h3 : W.cell? ⟨b3, 0, none⟩ = some (.int .i64 x)) (h4 : W.cell? ⟨blk, off + i, none⟩ = some (.int .i64 y)) :
    Calls Tryz.prog 200 (#[.int .i64 i] ++ #[.pointer (some ⟨b2, 0, none⟩), .pointer (some ⟨b3, 0, none⟩)]) W fun e w' => e = .returned (.bool (decide (x < y))) ∧ ∃ q os, w' = Go.Sort.grow (W.drewN q) os := by
  have hi1 : (i : Int) < (n : Int) := by omega
  go_enter Tryz.func200, Tryz.ntmps200
  go_wp2_with fail
  go_region
  all_goals go_wp2_with fail
  all_goals go_ret
  all_goals exact ⟨rfl, 1, #[], by rw [Go.Sort.grow_empty]; rfl⟩
theorem enters_upTo : ∀ args W, (callFunc 200 args).run Tryz.prog W = .ok (.enter 200 args) W := enters_of Tryz.func200 (by kernel_rfl) rfl
theorem rise_mono {t : List Nd} (hr : t.Pairwise fun a b => a.1 < b.1) (x : Int) (a b : Nat) (hab : a ≤ b) (hb : b < t.length) (h : decide (x < (t.getD a (0, 0)).1) = true) : decide (x < (t.getD b (0, 0)).1) = true := by
  rw [getD_at (by omega)] at h
  rw [getD_at hb]
  simp only [decide_eq_true_eq] at h ⊢
  rcases Nat.lt_or_ge a b with hlt | hge
  · have := List.pairwise_iff_getElem.1 hr a b (by omega) hb hlt; omega
  · obtain rfl : a = b := by omega
    exact h
theorem sums_upTo (w : World) (A1 A2 : Option Addr) (c1 c2 : Nat) (t : List Nd) (x : Int) (h1 : Sl w w.heap.size encZ A1 (t.map (·.1))) (h2 : Sl w w.heap.size encZ A2 (t.map (·.2))) (hm : t.length ≤ 67108864) (hr : t.Pairwise fun a b => a.1 < b.1) :
    Calls Tryz.prog 152 #[.agg #[.slice A1 t.length c1, .slice A2 t.length c2], .int .i64 x] w fun e w' => e = .returned (.int .i64 (upT t x)) ∧ Below w.heap.size w w' := by
  obtain ⟨W0, hW0⟩ : ∃ W0, W0 = (w.alloc (.cells #[.slice A1 t.length c1, .slice A2 t.length c2] 189)).alloc (.cells #[.int .i64 x] 3) := ⟨_, rfl⟩
  have hsz : W0.heap.size = w.heap.size + 1 + 1 := by rw [hW0]; simp
  have B0 : Below w.heap.size w W0 := by rw [hW0]; exact (by repeat (first | with_reducible exact Below.refl _ _ | with_reducible assumption | ((with_reducible refine Below.setCell ?_ ?_ _); rotate_left; · (first | omega | exact Nat.le_refl _ | (simp <;> omega))) | (with_reducible refine Below.allocW ?_ _) | (with_reducible refine Below.drew ?_) | (with_reducible refine Below.extW ?_ _)))
  have k0 : W0.cell? ⟨w.heap.size, 0, none⟩ = some (.slice A1 t.length c1) := by rw [hW0]; go_simp
  have k1 : W0.cell? ⟨w.heap.size, 1, none⟩ = some (.slice A2 t.length c2) := by rw [hW0]; go_simp
  have k2 : W0.cell? ⟨w.heap.size + 1, 0, none⟩ = some (.int .i64 x) := by rw [hW0]; go_simp
  have hS := Go.Proofs.Any.sort_Search Tryz.search 200 #[.pointer (some ⟨w.heap.size, 0, none⟩), .pointer (some ⟨w.heap.size + 1, 0, none⟩)] t.length (fun i => decide (x < (t.getD i (0, 0)).1)) W0 enters_upTo (by omega)
    (fun m os i hi => by
      rw [getD_at hi]
      rcases h1 with h1 | ⟨blk, off, rfl, hb, hc⟩
      · have : t.length = 0 := by have := congrArg List.length h1; simpa using this
        omega
      · have hc' := hc i t[i].1 (by simp [hi]) 0 (.int .i64 t[i].1) rfl
        simp only [Nat.add_zero, Nat.mul_one] at hc'
        refine upTo_closure _ w.heap.size (w.heap.size + 1) i t.length c1 blk off undef x t[i].1 hi hm (Go.cell_grown (by simp only [hsz]; omega) k0 m os) (Go.cell_grown (by simp only [hsz]; omega) k2 m os) (Go.cell_grown (by simp only [hsz]; omega) ((B0.cell (p := ⟨blk, off + i, none⟩) hb).trans hc') m os))
    (rise_mono hr x)
  have HS : Hid (Calls Tryz.prog 199 #[.int .i64 t.length, .func (.func 200) #[] #[.pointer (some ⟨w.heap.size, 0, none⟩), .pointer (some ⟨w.heap.size + 1, 0, none⟩)]] W0 fun e w' => e = .returned (.int .i64 (atMost t x)) ∧ ∃ q os, w' = Go.Sort.grow (W0.drewN q) os) := Lib.hid hS
  have hle := atMost_le t x
  have H2 := Lib.hid h2
  have HW := Lib.hid hW0
  have K1 := Lib.hid k1
  have HB0 := Lib.hid B0
  have HZ := Lib.hid hsz
  clear hS h1 h2 hr k0 k1 k2 B0 hsz hW0
  unfold upT
  generalize hk : atMost t x = k at HS hle ⊢
  clear hk
  by_cases hk0 : k = 0
  · subst hk0
    rw [if_pos rfl]
    go_enter Tryz.func152, Tryz.ntmps152
    go_wp2_with fail
    rw [← HW.out]
    refine HS.out.mono ?_
    rintro e w1 ⟨rfl, q, os, rfl⟩
    go_wp2_with fail
    go_ret
    exact ⟨rfl, HB0.out.trans (Go.Proofs.below_grown_sl w.heap.size W0 q os (by have := HZ.out; omega))⟩
  · rw [if_neg hk0]
    obtain ⟨m, rfl⟩ : ∃ m, k = m + 1 := ⟨k - 1, by omega⟩
    simp only [Nat.add_sub_cancel]
    have hm1 : m < t.length := by omega
    rw [getD_at hm1]
    have g0 : ((m + 1 : Nat) == 0) = false := by simp
    have g2 : (m : Int) < (t.length : Int) := by omega
    obtain ⟨blk, off, rfl, hb, hc⟩ := H2.out.at_ (k := m) (by simpa using hm1)
    have hc' := hc 0 (.int .i64 t[m].2) (by simp [encZ])
    simp only [Nat.add_zero, Nat.mul_one] at hc'
    generalize t[m].2 = z at hc' ⊢
    clear hc
    go_enter Tryz.func152, Tryz.ntmps152
    go_wp2_with fail
    rw [← HW.out]
    refine HS.out.mono ?_
    rintro e w1 ⟨rfl, q, os, hw1⟩
    have hB1 : Below w.heap.size w w1 := by rw [hw1]; exact HB0.out.trans (Go.Proofs.below_grown_sl w.heap.size W0 q os (by have := HZ.out; omega))
    have c1' : w1.cell? ⟨w.heap.size, 1, none⟩ = some (.slice (some ⟨blk, off, none⟩) t.length c2) := by rw [hw1]; exact Go.cell_grown (by have := HZ.out; simp only; omega) K1.out q os
    have c2' := (hB1.cell (p := ⟨blk, off + m, none⟩) hb).trans hc'
    clear hw1 hc'
    go_wp2_with fail
    go_ret
    exact ⟨rfl, hB1⟩
end Go.Proofs.YtbmmkhbdcaokkaaGreat
/- Package rank: Low, High, Both, Steps of a table; Of. -/
namespace Go.Proofs.YtbmmkhbdcaokkaaGreat
open Go.ChangeShapes Go.WideShapes Go.ChangeAt Go.RowKit
set_option linter.unusedVariables false
set_option maxRecDepth 100000

/-- A table in block g: n, and two tables; all of it in blocks from L on and below B. -/
def TabAt (w : World) (L B g : Nat) (n : Int) (lt ft : List Nd) : Prop :=
  L ≤ g ∧ g < B ∧ ∃ A1 c1 A2 c2 A3 c3 A4 c4, w.heap[g]? = some (.cells #[.int .i64 n, .slice A1 lt.length c1, .slice A2 lt.length c2, .slice A3 ft.length c3, .slice A4 ft.length c4] 192 (0, 0)) ∧
    (Own w L 3 encZ (.slice A1 lt.length c1) (lt.map (·.1)) ∧ Own w L 3 encZ (.slice A2 lt.length c2) (lt.map (·.2)) ∧ Own w L 3 encZ (.slice A3 ft.length c3) (ft.map (·.1)) ∧ Own w L 3 encZ (.slice A4 ft.length c4) (ft.map (·.2))) ∧
    ∀ A n c, (A, n, c) ∈ [(A1, lt.length, c1), (A2, lt.length, c2), (A3, ft.length, c3), (A4, ft.length, c4)] → ∀ k, (Value.slice A n c).ownBlock = some k → k < B
section
variable {w w' : World} {L B g : Nat} {n : Int} {lt ft : List Nd}
theorem TabAt.keep (h : TabAt w L B g n lt ft) (hk : ∀ b, L ≤ b → b < B → w'.heap[b]? = w.heap[b]?) : TabAt w' L B g n lt ft := by
  obtain ⟨h0, h0', A1, c1, A2, c2, A3, c3, A4, c4, h1, ⟨h2, h3, h4, h5⟩, h6⟩ := h
  refine ⟨h0, h0', A1, c1, A2, c2, A3, c3, A4, c4, (hk g h0 h0').trans h1, ⟨?_, ?_, ?_, ?_⟩, h6⟩
  · exact h2.of_block fun b hb => hk b (h2.lt b hb).1 (h6 _ _ _ (by simp) b hb)
  · exact h3.of_block fun b hb => hk b (h3.lt b hb).1 (h6 _ _ _ (by simp) b hb)
  · exact h4.of_block fun b hb => hk b (h4.lt b hb).1 (h6 _ _ _ (by simp) b hb)
  · exact h5.of_block fun b hb => hk b (h5.lt b hb).1 (h6 _ _ _ (by simp) b hb)
theorem TabAt.below (h : TabAt w L B g n lt ft) (hb : Below B w w') : TabAt w' L B g n lt ft := h.keep fun b _ hlt => hb.block b hlt
theorem TabAt.set (h : TabAt w L B g n lt ft) {p : Addr} (hp : p.block < L) (u : Value) : TabAt (w.setCell p u) L B g n lt ft := h.keep fun b hb _ => Below.heap_setCell _ _ _ _ (by omega)
theorem table_Low (x : Int) (h : TabAt w L B g n lt ft) (hm : lt.length ≤ 67108864) (hr : lt.Pairwise fun a b => a.1 < b.1) :
    Calls Tryz.prog 80 #[.pointer (some ⟨g, 0, none⟩), .int .i64 x] w fun e w' => e = .returned (.int .i64 (upT lt x)) ∧ Below w.heap.size w w' := by
  obtain ⟨h0, h0', A1, c1, A2, c2, A3, c3, A4, c4, h1, ⟨o2, o3, o4, o5⟩, h6⟩ := h
  have h2 := o2.sl
  have h3 := o3.sl
  have h4 := o4.sl
  have h5 := o5.sl
  have c := blk_cell h1
  have H2 := Lib.hid h2
  have H3 := Lib.hid h3
  have HR := Lib.hid hr
  clear h1 h2 h3 h4 h5 hr o2 o3 o4 o5 h6
  go_enter Tryz.func80, Tryz.ntmps80
  go_wp2_with fail
  refine (sums_upTo _ A1 A2 c1 c2 lt x H2.out H3.out hm HR.out).mono ?_
  rintro e w1 ⟨rfl, hb1⟩
  have B1 : Below w.heap.size w w1 := Below.then_ (by repeat (first | with_reducible exact Below.refl _ _ | with_reducible assumption | ((with_reducible refine Below.setCell ?_ ?_ _); rotate_left; · (first | omega | exact Nat.le_refl _ | (simp <;> omega))) | (with_reducible refine Below.allocW ?_ _) | (with_reducible refine Below.drew ?_) | (with_reducible refine Below.extW ?_ _))) hb1
  have s1 : w.heap.size ≤ w1.heap.size := B1.size
  go_wp2_with fail
  go_ret
  exact ⟨rfl, (by repeat (first | with_reducible exact Below.refl _ _ | with_reducible assumption | ((with_reducible refine Below.setCell ?_ ?_ _); rotate_left; · (first | omega | exact Nat.le_refl _ | (simp <;> omega))) | (with_reducible refine Below.allocW ?_ _) | (with_reducible refine Below.drew ?_) | (with_reducible refine Below.extW ?_ _)))⟩
theorem table_High (x : Int) (h : TabAt w L B g n lt ft) (hm : ft.length ≤ 67108864) (hr : ft.Pairwise fun a b => a.1 < b.1) :
    Calls Tryz.prog 170 #[.pointer (some ⟨g, 0, none⟩), .int .i64 x] w fun e w' => e = .returned (.int .i64 (upT ft x)) ∧ Below w.heap.size w w' := by
  obtain ⟨h0, h0', A1, c1, A2, c2, A3, c3, A4, c4, h1, ⟨o2, o3, o4, o5⟩, h6⟩ := h
  have h2 := o2.sl
  have h3 := o3.sl
  have h4 := o4.sl
  have h5 := o5.sl
  have c := blk_cell h1
  have H2 := Lib.hid h4
  have H3 := Lib.hid h5
  have HR := Lib.hid hr
  clear h1 h2 h3 h4 h5 hr o2 o3 o4 o5 h6
  go_enter Tryz.func170, Tryz.ntmps170
  go_wp2_with fail
  refine (sums_upTo _ A3 A4 c3 c4 ft x H2.out H3.out hm HR.out).mono ?_
  rintro e w1 ⟨rfl, hb1⟩
  have B1 : Below w.heap.size w w1 := Below.then_ (by repeat (first | with_reducible exact Below.refl _ _ | with_reducible assumption | ((with_reducible refine Below.setCell ?_ ?_ _); rotate_left; · (first | omega | exact Nat.le_refl _ | (simp <;> omega))) | (with_reducible refine Below.allocW ?_ _) | (with_reducible refine Below.drew ?_) | (with_reducible refine Below.extW ?_ _))) hb1
  have s1 : w.heap.size ≤ w1.heap.size := B1.size
  go_wp2_with fail
  go_ret
  exact ⟨rfl, (by repeat (first | with_reducible exact Below.refl _ _ | with_reducible assumption | ((with_reducible refine Below.setCell ?_ ?_ _); rotate_left; · (first | omega | exact Nat.le_refl _ | (simp <;> omega))) | (with_reducible refine Below.allocW ?_ _) | (with_reducible refine Below.drew ?_) | (with_reducible refine Below.extW ?_ _)))⟩
theorem table_Both (x : Int) (h : TabAt w L B g n lt ft) (hBw : B ≤ w.heap.size) (hm : lt.length ≤ 67108864) (hr : lt.Pairwise fun a b => a.1 < b.1) (hm2 : ft.length ≤ 67108864) (hr2 : ft.Pairwise fun a b => a.1 < b.1) :
    Calls Tryz.prog 108 #[.pointer (some ⟨g, 0, none⟩), .int .i64 x] w fun e w' => e = .returned (.agg #[.int .i64 (upT lt x), .int .i64 (upT ft x)]) ∧ Below w.heap.size w w' := by
  have HA := Lib.hid (h.below ((Below.refl B w).alloc hBw (.cells #[.int .i64 0, .int .i64 0] 29)))
  have HR := Lib.hid hr
  have HR2 := Lib.hid hr2
  clear h hr hr2
  go_enter Tryz.func108, Tryz.ntmps108
  go_wp2_with fail
  refine (table_Low x HA.out hm HR.out).mono ?_
  rintro e w1 ⟨rfl, hb1⟩
  have B1 : Below w.heap.size w w1 := Below.then_ (by repeat (first | with_reducible exact Below.refl _ _ | with_reducible assumption | ((with_reducible refine Below.setCell ?_ ?_ _); rotate_left; · (first | omega | exact Nat.le_refl _ | (simp <;> omega))) | (with_reducible refine Below.allocW ?_ _) | (with_reducible refine Below.drew ?_) | (with_reducible refine Below.extW ?_ _))) hb1
  have s1 : w.heap.size ≤ w1.heap.size := B1.size
  have z1_0 : w.heap.size < w1.heap.size := by have := hb1.size; (try simp at this); omega
  have y1_0 : w.heap.size ≤ w1.heap.size := Nat.le_of_lt z1_0
  have c1_0 := fun o => hb1.cell (p := ⟨w.heap.size, o, none⟩) (by first | omega | (simp <;> omega))
  have f1_0 := fun o => hb1.frozen (p := ⟨w.heap.size, o, none⟩) (by first | omega | (simp <;> omega))
  have HA1 := Lib.hid (HA.out.below (hb1.mono (by simp; omega)))
  have K := Lib.hid ((bothAt.new w 0 0).below hb1)
  go_wp2_with fail
  refine (table_High x HA1.out hm2 HR2.out).mono ?_
  rintro e w2 ⟨rfl, hb2⟩
  have B2 : Below w.heap.size w w2 := Below.then_ (by repeat (first | with_reducible exact Below.refl _ _ | with_reducible assumption | ((with_reducible refine Below.setCell ?_ ?_ _); rotate_left; · (first | omega | exact Nat.le_refl _ | (simp <;> omega))) | (with_reducible refine Below.allocW ?_ _) | (with_reducible refine Below.drew ?_) | (with_reducible refine Below.extW ?_ _))) hb2
  have s2 : w.heap.size ≤ w2.heap.size := B2.size
  have k := K.out.below hb2
  have cc := blk_cell k
  have cf := blk_frozen k
  have zz := lt_of_block k
  clear k
  go_wp2_with fail
  exact bodyPost_ret (v := .agg #[.int .i64 (upT lt x), .int .i64 (upT ft x)]) (by simp only [results, Tryz.results108]; go_simp) rfl ⟨rfl, (by repeat (first | with_reducible exact Below.refl _ _ | with_reducible assumption | ((with_reducible refine Below.setCell ?_ ?_ _); rotate_left; · (first | omega | exact Nat.le_refl _ | (simp <;> omega))) | (with_reducible refine Below.allocW ?_ _) | (with_reducible refine Below.drew ?_) | (with_reducible refine Below.extW ?_ _)))⟩
end
@[go_sem] theorem run_eqZ_nil (w : World) (A : Option Addr) (n c : Nat) : (binOp .eql 27 (.slice A n c) (.slice none 0 0)).run Tryz.prog w = .ok (.bool A.isNone) w := Lib.run_eql_slice_nil w _ _ A n c 0 0 Tryz.underlying27
theorem clone_Z (w : World) (A : Option Addr) (cap : Nat) (l : List Int) (hS : Sl w w.heap.size encZ A l) (hn : l.length ≤ 67108864) :
    Calls Tryz.prog 123 #[.slice A l.length cap] w (OwnPost 3 encZ l w) := by
  rcases A with _ | a
  · have h0 : l = [] := by
      rcases hS with h | ⟨b, off, hA, _⟩
      · exact h
      · cases hA
    subst h0
    go_enter Tryz.func123, Tryz.ntmps123
    go_wp2_with fail
    go_ret
    exact ⟨_, rfl, Own.nil _ _ _ _, (by repeat (first | with_reducible exact Below.refl _ _ | with_reducible assumption | ((with_reducible refine Below.setCell ?_ ?_ _); rotate_left; · (first | omega | exact Nat.le_refl _ | (simp <;> omega))) | (with_reducible refine Below.allocW ?_ _) | (with_reducible refine Below.drew ?_) | (with_reducible refine Below.extW ?_ _)))⟩
  · have HS := Lib.hid hS
    clear hS
    go_enter Tryz.func123, Tryz.ntmps123
    go_wp2_with ((at_builtin; refine wpList_app tyZ rfl _ _ rfl encZ w.heap.size (.slice (some ⟨w.heap.size, 0, none⟩) 0 0) [] rfl ?ho (some a) cap l w.heap.size rfl ?hs ?c1 ?c2 ?c3 ?c4))
    case ho => exact .inr ⟨w.heap.size, 0, 0, #[], rfl, Nat.le_refl _, heap_alloc_new w _, Nat.le_refl _, by simp, by simp, fun j u hj => by simp at hj⟩
    case hs => exact HS.out.keep (Nat.le_refl _) fun p hp => ((Below.refl w.heap.size w).alloc (Nat.le_refl _) _).cell hp
    case c1 => simp; omega
    case c2 => simp [maxLen]; omega
    case c3 => simp
    case c4 =>
      intro v' w1 ho1 _ _ hb1 _
      have B1 : Below w.heap.size w w1 := ((Below.refl w.heap.size w).alloc (Nat.le_refl _) _).trans hb1
      have HO1 := Lib.hid (show Own w1 w.heap.size 3 encZ v' l by simpa using ho1)
      clear ho1
      go_wp2_with fail
      go_ret
      exact ⟨_, rfl, HO1.out, B1⟩
theorem table_Steps {w : World} {L B g : Nat} {n : Int} {lt ft : List Nd} (h : TabAt w L B g n lt ft) (hm : lt.length ≤ 67108864) :
    Calls Tryz.prog 163 #[.pointer (some ⟨g, 0, none⟩)] w (OwnPost 3 encZ (lt.map (·.1)) w) := by
  obtain ⟨h0, h0', A1, c1, A2, c2, A3, c3, A4, c4, h1, ⟨o2, o3, o4, o5⟩, h6⟩ := h
  have h2 := o2.sl
  have h3 := o3.sl
  have h4 := o4.sl
  have h5 := o5.sl
  have c := blk_cell h1
  have HC := Lib.hid (clone_Z w A1 c1 (lt.map (·.1)) h2 (by simpa using hm))
  rw [List.length_map] at HC
  clear h1 h2 h3 h4 h5 o2 o3 o4 o5 h6
  go_enter Tryz.func163, Tryz.ntmps163
  go_wp2_with fail
  refine HC.out.mono ?_
  rintro e w1 ⟨v, rfl, ho, hb⟩
  have HO := Lib.hid ho
  clear ho
  go_wp2_with fail
  go_ret
  exact ⟨_, rfl, HO.out, hb⟩
end Go.Proofs.YtbmmkhbdcaokkaaGreat
/- Chapter 16: plain laws of what weighs up to a number. -/
namespace Go.Proofs.YtbmmkhbdcaokkaaGreat
open Go.ChangeShapes Go.WideShapes Go.ChangeAt Go.RowKit
set_option linter.unusedVariables false
set_option maxRecDepth 100000

theorem weighR_mono {l : Int} {f g : Int → Int → Bool} {r : List Nd} (h : Roll r) (hfg : ∀ x ∈ r, f (endsOf l x.1).1 (endsOf l x.1).2.1 = true → g (endsOf l x.1).1 (endsOf l x.1).2.1 = true) : weighR l f r ≤ weighR l g r := by
  induction r with
  | nil => simp [weighR]
  | cons x r ih =>
    have hx := h.2 x (by simp)
    have h1 := hfg x (by simp)
    have h2 := ih h.tail fun y hy => hfg y (by simp [hy])
    simp only [weighR]
    by_cases hf : f (endsOf l x.1).1 (endsOf l x.1).2.1 = true
    · rw [if_pos hf, if_pos (h1 hf)]; omega
    · rw [if_neg hf]; split <;> omega
theorem weighR_all {l : Int} {f : Int → Int → Bool} {r : List Nd} (h : ∀ x ∈ r, f (endsOf l x.1).1 (endsOf l x.1).2.1 = true) : weighR l f r = sumR r := by
  induction r with
  | nil => rfl
  | cons x r ih =>
    simp only [weighR, sumR]
    rw [if_pos (h x (by simp)), ih fun y hy => h y (by simp [hy])]
theorem weighR_none {l : Int} {f : Int → Int → Bool} {r : List Nd} (h : ∀ x ∈ r, f (endsOf l x.1).1 (endsOf l x.1).2.1 = false) : weighR l f r = 0 := by
  induction r with
  | nil => rfl
  | cons x r ih =>
    simp only [weighR]
    rw [if_neg (by rw [h x (by simp)]; simp), ih fun y hy => h y (by simp [hy])]; rfl
/-- The ends of a node are values of the universe, the first one is not above the last one. -/
theorem ends_bounds {l : Nat} {id : Int} (h : isNode l id = true) : 0 ≤ (endsOf l id).1 ∧ (endsOf l id).1 ≤ (endsOf l id).2.1 ∧ (endsOf l id).2.1 ≤ 2 ^ l - 1 := by
  obtain ⟨n, x, hn, rfl, hn1, hn2, hx1, hx2⟩ := isNode_nat h
  obtain rfl : n = l := by omega
  obtain ⟨d, b, t, hd, hb, hdb, hxt, htd, hprod⟩ := node_facts hn2 hx1 hx2
  have e1 : endsOf n x = ((t : Int) * 2 ^ b, (t : Int) * 2 ^ b + 2 ^ b - 1, true) := by
    simp only [endsOf, h, if_true, Int.toNat_natCast, hd, hb]
    have : (x : Int) - 2 ^ d = t := by rw [hxt]; push_cast; omega
    rw [this]
  rw [e1]
  have q3 := pow_pos' b
  have q8 : (t : Int) * 2 ^ b + 2 ^ b ≤ 2 ^ n := by
    have h : (((t + 1) * 2 ^ b : Nat) : Int) ≤ ((2 ^ n : Nat) : Int) := by exact_mod_cast hprod
    push_cast at h
    rw [Int.add_mul, Int.one_mul] at h
    exact h
  have q9 : 0 ≤ (t : Int) * 2 ^ b := Int.mul_nonneg (by omega) (by omega)
  simp only
  omega
theorem right_node {l : Int} {r : List Nd} (h : rightOf l r = true) : ∀ x ∈ r, isNode l x.1 = true := by
  simp only [rightOf, Bool.and_eq_true] at h
  intro x hx
  exact ((rises_roll h.1.1).1 x hx).2.1
theorem low_le {l : Int} {r : List Nd} (h : Roll r) {a b : Int} (hab : a ≤ b) : lowOf l r a ≤ lowOf l r b := weighR_mono h fun x _ hx => by simp at hx ⊢; omega
theorem high_le {l : Int} {r : List Nd} (h : Roll r) {a b : Int} (hab : a ≤ b) : highOf l r a ≤ highOf l r b := weighR_mono h fun x _ hx => by simp at hx ⊢; omega
theorem low_high {l : Nat} {r : List Nd} (h : Roll r) (hr : rightOf l r = true) (a : Int) : lowOf l r a ≤ highOf l r a := weighR_mono h fun x hx h1 => by
  have := ends_bounds (right_node hr x hx)
  simp at h1 ⊢; omega
theorem low_top {l : Nat} {r : List Nd} (hr : rightOf l r = true) {a : Int} (ha : 2 ^ l - 1 ≤ a) : lowOf l r a = sumR r := weighR_all fun x hx => by
  have := ends_bounds (right_node hr x hx)
  simp; omega
theorem high_top {l : Nat} {r : List Nd} (hr : rightOf l r = true) {a : Int} (ha : 2 ^ l - 1 ≤ a) : highOf l r a = sumR r := weighR_all fun x hx => by
  have := ends_bounds (right_node hr x hx)
  simp; omega
theorem low_zero {l : Nat} {r : List Nd} (hr : rightOf l r = true) {a : Int} (ha : a < 0) : lowOf l r a = 0 := weighR_none fun x hx => by
  have := ends_bounds (right_node hr x hx)
  simp; omega
theorem high_zero {l : Nat} {r : List Nd} (hr : rightOf l r = true) {a : Int} (ha : a < 0) : highOf l r a = 0 := weighR_none fun x hx => by
  have := ends_bounds (right_node hr x hx)
  simp; omega

end Go.Proofs.YtbmmkhbdcaokkaaGreat
/- The ends of the nodes of a roll that fits. -/
namespace Go.Proofs.YtbmmkhbdcaokkaaGreat
open Go.ChangeShapes Go.WideShapes Go.ChangeAt Go.RowKit
set_option linter.unusedVariables false

theorem ends_48 {l : Nat} (hl : l ≤ 48) {id : Int} (h : isNode l id = true) : 0 ≤ (endsOf l id).1 ∧ (endsOf l id).1 ≤ (endsOf l id).2.1 ∧ (endsOf l id).2.1 ≤ 281474976710655 := by
  have h1 := ends_bounds h
  have h2 := pow_48 (n := l) hl
  omega
theorem Fits.nodes {l : Nat} {r : List Nd} (hf : Fits l r) (hl : 1 ≤ l ∧ l ≤ 48) : ∀ x ∈ r, isNode l x.1 = true := by
  intro x hx
  have h1 := (hf.roll.2 x hx).1
  have h2 := hf.lt x hx
  simp only [isNode, decide_eq_true_eq, Int.toNat_natCast]
  omega
end Go.Proofs.YtbmmkhbdcaokkaaGreat
/- Package rank: Of: a digest's table. -/
namespace Go.Proofs.YtbmmkhbdcaokkaaGreat
open Go.ChangeShapes Go.WideShapes Go.ChangeAt Go.RowKit
set_option linter.unusedVariables false
set_option maxRecDepth 100000

/-- Where nodes end, and begin, and what they weigh. -/
def lastL (l : Int) (r : List Nd) : List Nd := r.map fun x => ((endsOf l x.1).2.1, x.2)
def firstL (l : Int) (r : List Nd) : List Nd := r.map fun x => ((endsOf l x.1).1, x.2)
theorem low_up (l : Int) (r : List Nd) (y : Int) : wUp (lastL l r) y = lowOf l r y := by
  induction r with
  | nil => rfl
  | cons x r ih =>
    simp only [lastL, List.map_cons, wUp, lowOf, weighR, decide_eq_true_eq] at ih ⊢
    rw [ih]
theorem high_up (l : Int) (r : List Nd) (y : Int) : wUp (firstL l r) y = highOf l r y := by
  induction r with
  | nil => rfl
  | cons x r ih =>
    simp only [firstL, List.map_cons, wUp, highOf, weighR, decide_eq_true_eq] at ih ⊢
    rw [ih]
theorem sum_last (l : Int) (r : List Nd) : sumR (lastL l r) = sumR r := by
  induction r with
  | nil => rfl
  | cons x r ih => simp only [lastL, List.map_cons, sumR] at ih ⊢; rw [ih]
theorem sum_first (l : Int) (r : List Nd) : sumR (firstL l r) = sumR r := by
  induction r with
  | nil => rfl
  | cons x r ih => simp only [firstL, List.map_cons, sumR] at ih ⊢; rw [ih]
theorem tyRd : SliceTy Tryz.prog 185 187 2 16 (.agg #[.int .i64 0, .int .i64 0]) := ⟨Tryz.underlying185, by kernel_rfl, rfl, by decide⟩
/-- A digest's table. -/
def OfPost (l : Int) (r : List Nd) (w : World) (e : Ending) (w' : World) : Prop :=
  ∃ g lt ft, e = .returned (.pointer (some ⟨g, 0, none⟩)) ∧ TabAt w' w.heap.size w'.heap.size g (sumR r) lt ft ∧ Tab (lastL l r) lt ∧ Tab (firstL l r) ft ∧ lt.length ≤ r.length ∧ ft.length ≤ r.length ∧ Below w.heap.size w w'
/-- Two lists of readings that grow. -/
structure TwoR (W : World) (B : Nat) (U1 : Value) (L1 : List Nd) (U2 : Value) (L2 : List Nd) : Prop where
  own1 : Own W B 187 encN U1 L1
  own2 : Own W B 187 encN U2 L2
  sep : Sep U1 U2
section
variable {W W' : World} {B : Nat} {U1 U1' : Value} {L1 L1' : List Nd} {U2 U2' : Value} {L2 L2' : List Nd}
theorem TwoR.below (h : TwoR W B U1 L1 U2 L2) (hb : Below W.heap.size W W') : TwoR W' B U1 L1 U2 L2 := ⟨h.own1.below hb, h.own2.below hb, h.sep⟩
theorem TwoR.app1 (h : TwoR W B U1 L1 U2 L2) {k : Nat} (hg : W.grownBy W' U1.ownBlock) (ho : Own W' B 187 encN U1' L1') (hl : U1'.ownBlock = U1.ownBlock ∨ U1'.ownBlock = some (W.heap.size + k)) : TwoR W' B U1' L1' U2 L2 :=
  ⟨ho, h.own2.kept hg (by
    cases e : U2.ownBlock with
    | none => exact .inl rfl
    | some g => exact .inr fun he => h.sep g (by rw [← he]) e), fun g h1 h2 => by
      rcases hl with hl | hl
      · exact h.sep g (hl ▸ h1) h2
      · rw [hl] at h1; cases h1; have := (h.own2.lt _ h2).2; omega⟩
theorem TwoR.app2 (h : TwoR W B U1 L1 U2 L2) {k : Nat} (hg : W.grownBy W' U2.ownBlock) (ho : Own W' B 187 encN U2' L2') (hl : U2'.ownBlock = U2.ownBlock ∨ U2'.ownBlock = some (W.heap.size + k)) : TwoR W' B U1 L1 U2' L2' :=
  ⟨h.own1.kept hg (by
    cases e : U1.ownBlock with
    | none => exact .inl rfl
    | some g => exact .inr fun he => h.sep g e (by rw [← he])), ho, fun g h1 h2 => by
      rcases hl with hl | hl
      · exact h.sep g h1 (hl ▸ h2)
      · rw [hl] at h2; cases h2; have := (h.own1.lt _ h1).2; omega⟩
end
theorem take_last {l : Int} {r : List Nd} {q : Nat} (h : q < r.length) : lastL l (r.take (q + 1)) = lastL l (r.take q) ++ [((endsOf l r[q].1).2.1, r[q].2)] := by
  unfold lastL; rw [List.take_succ_eq_append_getElem h, List.map_append]; rfl
theorem take_first {l : Int} {r : List Nd} {q : Nat} (h : q < r.length) : firstL l (r.take (q + 1)) = firstL l (r.take q) ++ [((endsOf l r[q].1).1, r[q].2)] := by
  unfold firstL; rw [List.take_succ_eq_append_getElem h, List.map_append]; rfl
theorem rank_Of_nil (w : World) : Calls Tryz.prog 78 #[.pointer none] w fun e w' => e = .returned (.pointer none) ∧ Below w.heap.size w w' := by
  go_enter Tryz.func78, Tryz.ntmps78
  go_wp2_with fail
  go_ret
  exact ⟨rfl, (by repeat (first | with_reducible exact Below.refl _ _ | with_reducible assumption | ((with_reducible refine Below.setCell ?_ ?_ _); rotate_left; · (first | omega | exact Nat.le_refl _ | (simp <;> omega))) | (with_reducible refine Below.allocW ?_ _) | (with_reducible refine Below.drew ?_) | (with_reducible refine Below.extW ?_ _)))⟩
set_option maxHeartbeats 2000000 in
theorem rank_Of (w : World) (g K l : Nat) (k : Int) (r : List Nd) (F : Nat → Prop) (h : DigAt w g K l k r F) (hn : r.length ≤ 67108864) :
    Calls Tryz.prog 78 #[.pointer (some ⟨g, 0, none⟩)] w (OfPost l r w) := by
  have hf := h.fits
  have hll := h.l_le
  have HD := Lib.hid h
  have hnd := hf.nodes hll
  have hlast : ∀ x ∈ lastL l r, 0 ≤ x.1 ∧ x.1 ≤ 281474976710655 := fun x hx => by
    obtain ⟨y, hy, rfl⟩ := List.mem_map.1 hx
    have := ends_48 hll.2 (hnd y hy); simp only; omega
  have hfirst : ∀ x ∈ firstL l r, 0 ≤ x.1 ∧ x.1 ≤ 281474976710655 := fun x hx => by
    obtain ⟨y, hy, rfl⟩ := List.mem_map.1 hx
    have := ends_48 hll.2 (hnd y hy); simp only; omega
  have hlast1 : ∀ x ∈ lastL l r, 1 ≤ x.2 := fun x hx => by obtain ⟨y, hy, rfl⟩ := List.mem_map.1 hx; exact (hf.roll.2 y hy).2
  have hfirst1 : ∀ x ∈ firstL l r, 1 ≤ x.2 := fun x hx => by obtain ⟨y, hy, rfl⟩ := List.mem_map.1 hx; exact (hf.roll.2 y hy).2
  have ML := Lib.hid (fun W base v (ho : Own W base 187 encN v (lastL l r)) => rank_made W base v (lastL l r) ho hlast hlast1 (by rw [sum_last]; exact hf.sum) (by simpa [lastL] using hn))
  have MF := Lib.hid (fun W base v (ho : Own W base 187 encN v (firstL l r)) => rank_made W base v (firstL l r) ho hfirst hfirst1 (by rw [sum_first]; exact hf.sum) (by simpa [firstL] using hn))
  clear h hlast hfirst hlast1 hfirst1 hnd
  go_enter Tryz.func78, Tryz.ntmps78
  go_wp2_with fail
  refine (digest_Conf _ g K l k r F HD.out).mono ?_
  rintro e w1 ⟨rfl, hb1⟩
  have B1 : Below w.heap.size w w1 := Below.then_ (by repeat (first | with_reducible exact Below.refl _ _ | with_reducible assumption | ((with_reducible refine Below.setCell ?_ ?_ _); rotate_left; · (first | omega | exact Nat.le_refl _ | (simp <;> omega))) | (with_reducible refine Below.allocW ?_ _) | (with_reducible refine Below.drew ?_) | (with_reducible refine Below.extW ?_ _))) hb1
  have s1 : w.heap.size ≤ w1.heap.size := B1.size
  have HD1 := Lib.hid (HD.out.below B1)
  go_wp2_with fail
  refine (digest_Nodes _ g K l k r F HD1.out hn).mono ?_
  rintro e w2 ⟨v, rfl, ho, hb2⟩
  have B2 : Below w.heap.size w w2 := Below.then_ (by repeat (first | with_reducible exact Below.refl _ _ | with_reducible assumption | ((with_reducible refine Below.setCell ?_ ?_ _); rotate_left; · (first | omega | exact Nat.le_refl _ | (simp <;> omega))) | (with_reducible refine Below.allocW ?_ _) | (with_reducible refine Below.drew ?_) | (with_reducible refine Below.extW ?_ _))) hb2
  have s2 : w.heap.size ≤ w2.heap.size := B2.size
  have HO := Lib.hid ho
  have HB2 := Lib.hid B2
  obtain ⟨A, cap, rfl, _⟩ := ho.form
  clear ho hb1 hb2 B1 B2
  go_wp2_with fail
  go_loopw [3, 4, 19] (fun f t i wr => ∃ (q : Nat) (v1 v2 : Value), q ≤ r.length ∧ i = .int .i64 q ∧ f = v1 ∧ t = v2 ∧ TwoR wr w2.heap.size v1 (firstL l (r.take q)) v2 (lastL l (r.take q)) ∧ Own wr w1.heap.size 108 encN (.slice A r.length cap) r ∧ Below w.heap.size w wr ∧ w2.heap.size ≤ wr.heap.size) (fun _ _ i _ => r.length - (intOf i).toNat)
  case atStart => exact ⟨0, .slice none 0 0, .slice none 0 0, Nat.zero_le _, rfl, rfl, rfl, ⟨Own.nil _ _ _ _, Own.nil _ _ _ _, (fun g h => by cases h)⟩, HO.out, HB2.out, Nat.le_refl _⟩
  case round =>
    obtain ⟨q, v1, v2, hq, rfl, rfl, rfl, htwo, hown, hB, hs⟩ := hrel
    have KT := Lib.hid htwo
    have KO := Lib.hid hown
    have KB := Lib.hid hB
    clear htwo hown
    by_cases hlt : q < r.length
    · obtain ⟨c, off, rfl, hc, hcl⟩ := KO.out.sl.at_ hlt
      have d0 := hcl 0 (.int .i64 r[q].1) rfl
      have d1 := hcl 1 (.int .i64 r[q].2) rfl
      simp only [Nat.add_zero] at d0
      have hxl := hf.lt _ (List.getElem_mem hlt)
      have hp := pow_48 (n := l) hll.2
      have TL := Lib.hid (take_last (l := l) hlt)
      have TF := Lib.hid (take_first (l := l) hlt)
      obtain ⟨x, hxe⟩ : ∃ x, x = r[q] := ⟨_, rfl⟩
      rw [← hxe] at d0 d1 hxl TL TF
      have hx1 : x.1 ≤ 562949953421312 := by omega
      have HE := Lib.hid (twig_Ends · l x.1 (by omega))
      have lf : (firstL l (r.take q)).length = q := by simp [firstL]; omega
      have ll : (lastL l (r.take q)).length = q := by simp [lastL]; omega
      have LF := Lib.hid lf
      have LL := Lib.hid ll
      generalize endsOf l x.1 = t at HE TL TF
      obtain ⟨t1, t2, t3⟩ := t
      simp only at TL TF
      unfold endsV at HE
      clear hcl hxe hxl hp lf ll
      go_wp2_with fail
      refine (HE.out _).mono ?_
      rintro e w3 ⟨rfl, hb3⟩
      have c3 := fun o => hb3.cell (p := ⟨wr.heap.size, o, none⟩) (by simp)
      have z3 : wr.heap.size < w3.heap.size := by have := hb3.size; simp at this; omega
      have BW : Below wr.heap.size wr w3 := ((Below.refl wr.heap.size wr).alloc (Nat.le_refl _) _).trans (hb3.mono (by simp))
      have T3 := Lib.hid (KT.out.below BW)
      have O3 := Lib.hid (KO.out.below BW)
      have B3 := Lib.hid (KB.out.trans (BW.mono KB.out.size))
      clear BW hb3
      go_wp2_with ((at_builtin; refine wpList_push tyRd rfl _ _ rfl encN w3 w2.heap.size u3 _ rfl T3.out.own1 (t1, x.2) (by go_simp) rfl ?c1 ?c2 ?c3 ?c4))
      case c1 => have := LF.out; omega
      case c2 => have := LF.out; simp only [maxLen]; omega
      case c3 => omega
      case c4 =>
        intro v1' w4 ho4 hg4 hz4 hl4 hb4 _
        have T4 := Lib.hid (T3.out.app1 hg4 ho4 hl4)
        have O4 := Lib.hid (O3.out.kept hg4 (own_ne O3.out T3.out.own1 (by decide)))
        have s2w : w.heap.size ≤ w2.heap.size := HB2.out.size
        have B4 := Lib.hid (B3.out.trans (hb4.mono s2w))
        have ow1 : ∀ g, (u3 : Value).ownBlock = some g → g < wr.heap.size := fun g hg => (KT.out.own1.lt g hg).2
        have c4 := fun o => (grown_cell hg4 wr.heap.size z3 (fun h => by have := ow1 _ h; omega) o).trans (c3 o)
        have z4 : wr.heap.size < w4.heap.size := by omega
        clear ho4 hg4 hl4 hb4 ow1 c3
        go_wp2_with ((at_builtin; refine wpList_push tyRd rfl _ _ rfl encN w4 w2.heap.size u4 _ rfl T4.out.own2 (t2, x.2) (by go_simp) rfl ?c1 ?c2 ?c3 ?c4))
        case c1 => have := LL.out; omega
        case c2 => have := LL.out; simp only [maxLen]; omega
        case c3 => omega
        case c4 =>
          intro v2' w5 ho5 hg5 hz5 hl5 hb5 _
          have T5 := Lib.hid (T4.out.app2 hg5 ho5 hl5)
          have O5 := Lib.hid (O4.out.kept hg5 (own_ne O4.out T4.out.own2 (by decide)))
          have B5 := Lib.hid (B4.out.trans (hb5.mono s2w))
          have z5 : w2.heap.size ≤ w5.heap.size := by omega
          clear ho5 hg5 hl5 hb5
          go_wp2_with fail
          go_roundw
          case rel => exact ⟨q + 1, v1', v2', by omega, by go_num, rfl, rfl, by rw [TF.out, TL.out]; exact T5.out, O5.out, B5.out, z5⟩
          case measure => simp [intOf]; omega
    · obtain rfl : q = r.length := by omega
      rw [List.take_length] at KT
      have s2w : w.heap.size ≤ w2.heap.size := HB2.out.size
      have HDr := Lib.hid (HD.out.below KB.out)
      go_wp2_with fail
      refine (digest_N _ g K l k r F HDr.out).mono ?_
      rintro e w3 ⟨rfl, hb3⟩
      have B3 : Below w.heap.size w w3 := Below.then_ (by repeat (first | with_reducible exact Below.refl _ _ | with_reducible assumption | ((with_reducible refine Below.setCell ?_ ?_ _); rotate_left; · (first | omega | exact Nat.le_refl _ | (simp <;> omega))) | (with_reducible refine Below.allocW ?_ _) | (with_reducible refine Below.drew ?_) | (with_reducible refine Below.extW ?_ _))) hb3
      have s3 : w.heap.size ≤ w3.heap.size := B3.size
      have T3 := Lib.hid (KT.out.below hb3)
      go_wp2_with fail
      refine (ML.out w3 _ _ T3.out.own2).mono ?_
      rintro e w4 ⟨lt, A1, c1, A2, c2, rfl, htl, hll1, o1, o2, hT4⟩
      have B4 := Lib.hid (hT4.below (base := w2.heap.size) (fun b hb => (T3.out.own2.lt b hb).1) (by have := hb3.size; omega))
      have F4 := Lib.hid (hT4.own T3.out.own1 (fun b hb => T3.out.sep b hb))
      have P1 := Lib.hid o1
      have P2 := Lib.hid o2
      have HTL := Lib.hid htl
      have HLL := Lib.hid hll1
      have hs4 := hT4.size
      have hfb := Lib.hid (fun b hb => (T3.out.own1.lt b hb).2)
      clear o1 o2 htl hll1 hT4
      go_wp2_with fail
      refine (MF.out w4 _ _ F4.out).mono ?_
      rintro e w5 ⟨ft, A3, c3, A4, c4, rfl, htf, hll2, o3, o4, hT5⟩
      have B5 := Lib.hid (hT5.below (base := w2.heap.size) (fun b hb => (F4.out.lt b hb).1) (by have := hb3.size; omega))
      have Q1 := Lib.hid (hT5.own P1.out (fun b hb hf => by have := (P1.out.lt b hb).1; have := hfb.out b hf; omega))
      have Q2 := Lib.hid (hT5.own P2.out (fun b hb hf => by have := (P2.out.lt b hb).1; have := hfb.out b hf; omega))
      have Q3 := Lib.hid o3
      have Q4 := Lib.hid o4
      have HTF := Lib.hid htf
      have HLL2 := Lib.hid hll2
      clear o3 o4 htf hll2 hT5
      go_wp2_with fail
      go_ret
      have BF : Below w.heap.size w w5 := (B3.trans ((B4.out.trans B5.out).mono s2w))
      have l1 := (Q1.out.alloc (.cells #[.int .i64 (sumR r), .slice A1 lt.length c1, .slice A2 lt.length c2, .slice A3 ft.length c3, .slice A4 ft.length c4] 192)).base_le (b := w.heap.size) (by have := BF.size; have := hb3.size; omega)
      have l2 := (Q2.out.alloc (.cells #[.int .i64 (sumR r), .slice A1 lt.length c1, .slice A2 lt.length c2, .slice A3 ft.length c3, .slice A4 ft.length c4] 192)).base_le (b := w.heap.size) (by have := BF.size; have := hb3.size; omega)
      have l3 := (Q3.out.alloc (.cells #[.int .i64 (sumR r), .slice A1 lt.length c1, .slice A2 lt.length c2, .slice A3 ft.length c3, .slice A4 ft.length c4] 192)).base_le (b := w.heap.size) (by have := B4.out.size; have := hb3.size; omega)
      have l4 := (Q4.out.alloc (.cells #[.int .i64 (sumR r), .slice A1 lt.length c1, .slice A2 lt.length c2, .slice A3 ft.length c3, .slice A4 ft.length c4] 192)).base_le (b := w.heap.size) (by have := B4.out.size; have := hb3.size; omega)
      refine ⟨w5.heap.size, lt, ft, rfl, ⟨BF.size, by simp, A1, c1, A2, c2, A3, c3, A4, c4, heap_alloc_new w5 _, ⟨l1, l2, l3, l4⟩, fun A n c hm k hk => ?_⟩, HTL.out, HTF.out, by have := HLL.out; simpa [lastL] using this, by have := HLL2.out; simpa [firstL] using this, BF.alloc (by have := BF.size; omega) _⟩
      simp only [List.mem_cons, List.not_mem_nil, or_false, Prod.mk.injEq] at hm
      rcases hm with ⟨rfl, rfl, rfl⟩ | ⟨rfl, rfl, rfl⟩ | ⟨rfl, rfl, rfl⟩ | ⟨rfl, rfl, rfl⟩
      · exact (l1.lt k hk).2
      · exact (l2.lt k hk).2
      · exact (l3.lt k hk).2
      · exact (l4.lt k hk).2
end Go.Proofs.YtbmmkhbdcaokkaaGreat
/- Reference 5: Same, of two lists that are the same. -/
namespace Go.Proofs.YtbmmkhbdcaokkaaGreat
open Go.ChangeShapes Go.WideShapes Go.ChangeAt Go.RowKit
set_option linter.unusedVariables false
set_option maxRecDepth 100000

theorem ref5_Same (w : World) (A1 A2 : Option Addr) (c1 c2 : Nat) (l : List Int) (h1 : Sl w w.heap.size encZ A1 l) (h2 : Sl w w.heap.size encZ A2 l) (hm : l.length ≤ 67108864) :
    Calls Tryz.prog 29 #[.slice A1 l.length c1, .slice A2 l.length c2] w fun e w' => e = .returned (.bool true) ∧ Below w.heap.size w w' := by
  have H1 := Lib.hid h1
  have H2 := Lib.hid h2
  clear h1 h2
  go_enter Tryz.func29, Tryz.ntmps29
  go_wp2_with fail
  go_loopw [5] (fun i wr => ∃ q : Nat, q ≤ l.length ∧ i = .int .i64 q ∧ Below w.heap.size w wr) (fun i _ => l.length - (intOf i).toNat)
  case atStart => exact ⟨0, Nat.zero_le _, rfl, Below.refl _ _⟩
  case round =>
    obtain ⟨q, hq, rfl, hB⟩ := hrel
    have hsz := hB.size
    by_cases hlt : q < l.length
    · obtain ⟨b1, o1, rfl, hb1, hc1⟩ := H1.out.at_ hlt
      obtain ⟨b2, o2, rfl, hb2, hc2⟩ := H2.out.at_ hlt
      have d1 := hc1 0 (.int .i64 l[q]) rfl
      have d2 := hc2 0 (.int .i64 l[q]) rfl
      simp only [Nat.mul_one, Nat.add_zero] at d1 d2
      have e1 := (hB.cell (p := ⟨b1, o1 + q, none⟩) hb1).trans d1
      have e2 := (hB.cell (p := ⟨b2, o2 + q, none⟩) hb2).trans d2
      have lb1 : b1 < wr.heap.size := Nat.lt_of_lt_of_le hb1 hsz
      have lb2 : b2 < wr.heap.size := Nat.lt_of_lt_of_le hb2 hsz
      clear hc1 hc2 d1 d2
      go_wp2_with fail
      refine wp_region_ext (by kernel_rfl) (by kernel_rfl) ?_
      repeat (go_big_quiet_step (fail))
      refine wpQuiet_nil ?_
      intro w1 hb1
      replace hb1 := below_of_ext hb1
      have B1 : Below w.heap.size w w1 := Below.then_ (by repeat (first | with_reducible exact Below.refl _ _ | with_reducible assumption | ((with_reducible refine Below.setCell ?_ ?_ _); rotate_left; · (first | omega | exact Nat.le_refl _ | (simp <;> omega))) | (with_reducible refine Below.allocW ?_ _) | (with_reducible refine Below.drew ?_) | (with_reducible refine Below.extW ?_ _))) hb1
      have s1 : w.heap.size ≤ w1.heap.size := B1.size
      go_wp2_with fail
      go_roundw
      case rel => exact ⟨q + 1, by omega, by go_num, (by repeat (first | with_reducible exact Below.refl _ _ | with_reducible assumption | ((with_reducible refine Below.setCell ?_ ?_ _); rotate_left; · (first | omega | exact Nat.le_refl _ | (simp <;> omega))) | (with_reducible refine Below.allocW ?_ _) | (with_reducible refine Below.drew ?_) | (with_reducible refine Below.extW ?_ _)))⟩
      case measure => simp [intOf]; omega
    · obtain rfl : q = l.length := by omega
      go_wp2_with fail
      go_ret
      exact ⟨rfl, hB⟩
end Go.Proofs.YtbmmkhbdcaokkaaGreat
/- Package bins, and the reference of layer 19: Heaviest, Bars. -/
namespace Go.Proofs.YtbmmkhbdcaokkaaGreat
open Go.ChangeShapes Go.WideShapes Go.ChangeAt Go.RowKit
set_option linter.unusedVariables false
set_option maxRecDepth 100000

/-- The first of the greatest numbers, of so many of them. -/
def heavAt (l : List Int) : Nat → Nat
  | 0 => 0
  | q + 1 => if l.getD (heavAt l q) 0 < l.getD q 0 then q else heavAt l q
theorem heavAt_lt (l : List Int) (q : Nat) : heavAt l q < max q 1 := by
  induction q with
  | zero => simp [heavAt]
  | succ q ih => simp only [heavAt]; split <;> omega
theorem heavAt_le (l : List Int) (q i : Nat) (hi : i < q) : l.getD i 0 ≤ l.getD (heavAt l q) 0 := by
  induction q with
  | zero => omega
  | succ q ih =>
    simp only [heavAt]
    rcases Nat.lt_or_eq_of_le (Nat.le_of_lt_succ hi) with h | rfl
    · have := ih h
      split <;> omega
    · split <;> omega
theorem getDz_at {l : List Int} {i : Nat} (h : i < l.length) : l.getD i 0 = l[i] := by rw [List.getD_eq_getElem?_getD, List.getElem?_eq_getElem h]; rfl
def heavV (l : List Int) : Value := .tuple #[.int .i64 (heavAt l l.length), .bool (decide (0 < l.length))]
theorem bins_Heaviest (w : World) (A : Option Addr) (cap : Nat) (l : List Int) (hS : Sl w w.heap.size encZ A l) (hm : l.length ≤ 67108864) :
    Calls Tryz.prog 39 #[.slice A l.length cap] w fun e w' => e = .returned (heavV l) ∧ Below w.heap.size w w' := by
  have HS := Lib.hid hS
  clear hS
  unfold heavV
  go_enter Tryz.func39, Tryz.ntmps39
  go_wp2_with fail
  go_loopw [4, 9] (fun a i wr => ∃ q : Nat, q ≤ l.length ∧ i = .int .i64 q ∧ a = .int .i64 (heavAt l q) ∧ Below w.heap.size w wr) (fun _ i _ => l.length - (intOf i).toNat)
  case atStart => exact ⟨0, Nat.zero_le _, rfl, rfl, Below.refl _ _⟩
  case round =>
    obtain ⟨q, hq, rfl, rfl, hB⟩ := hrel
    have hsz := hB.size
    by_cases hlt : q < l.length
    · have hh := heavAt_lt l q
      have hE : heavAt l (q + 1) = if l.getD (heavAt l q) 0 < l.getD q 0 then q else heavAt l q := rfl
      obtain ⟨a, ha⟩ : ∃ a, a = heavAt l q := ⟨_, rfl⟩
      rw [← ha] at hh hE ⊢
      have hal : a < l.length := by omega
      rw [getDz_at hlt, getDz_at hal] at hE
      obtain ⟨b, off, rfl, hb, hc⟩ := HS.out.at_ hlt
      have d0 := (hB.cell (p := ⟨b, off + q, none⟩) hb).trans (by have := hc 0 (.int .i64 l[q]) rfl; simpa using this)
      have hs2 := HS.out
      rcases hs2 with h | ⟨b', off', hA, _, hc'⟩
      · subst h; simp at hlt
      cases hA
      have d1 := (hB.cell (p := ⟨b, off + a, none⟩) hb).trans (by have := hc' a _ (List.getElem?_eq_getElem hal) 0 (.int .i64 l[a]) rfl; simpa using this)
      obtain ⟨x, hx⟩ : ∃ x, x = l[q] := ⟨_, rfl⟩
      obtain ⟨y, hy⟩ : ∃ y, y = l[a] := ⟨_, rfl⟩
      rw [← hx] at d0 hE
      rw [← hy] at d1 hE
      have HE := Lib.hid hE
      have lb : b < wr.heap.size := Nat.lt_of_lt_of_le hb hsz
      clear hc hc' hx hy hE hh ha
      by_cases hxy : y < x
      · have HX := Lib.hid (show heavAt l (q + 1) = q by rw [HE.out, if_pos hxy])
        go_wp2_with fail
        go_roundw
        case rel => exact ⟨q + 1, by omega, by go_num, by rw [HX.out], hB⟩
        case measure => simp [intOf]; omega
      · have HX := Lib.hid (show heavAt l (q + 1) = a by rw [HE.out, if_neg hxy])
        have hn : decide (y < x) = false := by simpa using hxy
        go_wp2_with fail
        go_roundw
        case rel => exact ⟨q + 1, by omega, by go_num, by rw [HX.out], hB⟩
        case measure => simp [intOf]; omega
    · obtain rfl : q = l.length := by omega
      go_wp2_with fail
      go_ret2
      exact ⟨by simp, hB⟩
theorem ref19_Heaviest (w : World) (A : Option Addr) (cap : Nat) (l : List Int) (hS : Sl w w.heap.size encZ A l) (hm : l.length ≤ 67108864) :
    Calls Tryz.prog 40 #[.slice A l.length cap] w fun e w' => e = .returned (heavV l) ∧ Below w.heap.size w w' := by
  have HS := Lib.hid hS
  clear hS
  unfold heavV
  go_enter Tryz.func40, Tryz.ntmps40
  go_wp2_with fail
  go_loopw [4, 5] (fun a i wr => ∃ q : Nat, q ≤ l.length ∧ i = .int .i64 q ∧ a = .int .i64 (heavAt l q) ∧ Below w.heap.size w wr) (fun _ i _ => l.length - (intOf i).toNat)
  case atStart => exact ⟨0, Nat.zero_le _, rfl, rfl, Below.refl _ _⟩
  case round =>
    obtain ⟨q, hq, rfl, rfl, hB⟩ := hrel
    have hsz := hB.size
    by_cases hlt : q < l.length
    · have hh := heavAt_lt l q
      have hE : heavAt l (q + 1) = if l.getD (heavAt l q) 0 < l.getD q 0 then q else heavAt l q := rfl
      obtain ⟨a, ha⟩ : ∃ a, a = heavAt l q := ⟨_, rfl⟩
      rw [← ha] at hh hE ⊢
      have hal : a < l.length := by omega
      rw [getDz_at hlt, getDz_at hal] at hE
      obtain ⟨b, off, rfl, hb, hc⟩ := HS.out.at_ hlt
      have d0 := (hB.cell (p := ⟨b, off + q, none⟩) hb).trans (by have := hc 0 (.int .i64 l[q]) rfl; simpa using this)
      have hs2 := HS.out
      rcases hs2 with h | ⟨b', off', hA, _, hc'⟩
      · subst h; simp at hlt
      cases hA
      have d1 := (hB.cell (p := ⟨b, off + a, none⟩) hb).trans (by have := hc' a _ (List.getElem?_eq_getElem hal) 0 (.int .i64 l[a]) rfl; simpa using this)
      obtain ⟨x, hx⟩ : ∃ x, x = l[q] := ⟨_, rfl⟩
      obtain ⟨y, hy⟩ : ∃ y, y = l[a] := ⟨_, rfl⟩
      rw [← hx] at d0 hE
      rw [← hy] at d1 hE
      have HE := Lib.hid hE
      have lb : b < wr.heap.size := Nat.lt_of_lt_of_le hb hsz
      clear hc hc' hx hy hE hh ha
      by_cases hxy : y < x
      · have HX := Lib.hid (show heavAt l (q + 1) = q by rw [HE.out, if_pos hxy])
        go_wp2_with fail
        refine wp_region_ext (by kernel_rfl) (by kernel_rfl) ?_
        repeat (go_big_quiet_step (fail))
        refine wpQuiet_nil ?_
        intro w1 hb1
        replace hb1 := below_of_ext hb1
        have B1 : Below w.heap.size w w1 := Below.then_ (by repeat (first | with_reducible exact Below.refl _ _ | with_reducible assumption | ((with_reducible refine Below.setCell ?_ ?_ _); rotate_left; · (first | omega | exact Nat.le_refl _ | (simp <;> omega))) | (with_reducible refine Below.allocW ?_ _) | (with_reducible refine Below.drew ?_) | (with_reducible refine Below.extW ?_ _))) hb1
        have s1 : w.heap.size ≤ w1.heap.size := B1.size
        go_wp2_with fail
        go_roundw
        case rel => exact ⟨q + 1, by omega, by go_num, by rw [HX.out], (by repeat (first | with_reducible exact Below.refl _ _ | with_reducible assumption | ((with_reducible refine Below.setCell ?_ ?_ _); rotate_left; · (first | omega | exact Nat.le_refl _ | (simp <;> omega))) | (with_reducible refine Below.allocW ?_ _) | (with_reducible refine Below.drew ?_) | (with_reducible refine Below.extW ?_ _)))⟩
        case measure => simp [intOf]; omega
      · have HX := Lib.hid (show heavAt l (q + 1) = a by rw [HE.out, if_neg hxy])
        have hn : decide (y < x) = false := by simpa using hxy
        go_wp2_with fail
        refine wp_region_ext (by kernel_rfl) (by kernel_rfl) ?_
        repeat (go_big_quiet_step (fail))
        refine wpQuiet_nil ?_
        intro w1 hb1
        replace hb1 := below_of_ext hb1
        have B1 : Below w.heap.size w w1 := Below.then_ (by repeat (first | with_reducible exact Below.refl _ _ | with_reducible assumption | ((with_reducible refine Below.setCell ?_ ?_ _); rotate_left; · (first | omega | exact Nat.le_refl _ | (simp <;> omega))) | (with_reducible refine Below.allocW ?_ _) | (with_reducible refine Below.drew ?_) | (with_reducible refine Below.extW ?_ _))) hb1
        have s1 : w.heap.size ≤ w1.heap.size := B1.size
        go_wp2_with fail
        go_roundw
        case rel => exact ⟨q + 1, by omega, by go_num, by rw [HX.out], (by repeat (first | with_reducible exact Below.refl _ _ | with_reducible assumption | ((with_reducible refine Below.setCell ?_ ?_ _); rotate_left; · (first | omega | exact Nat.le_refl _ | (simp <;> omega))) | (with_reducible refine Below.allocW ?_ _) | (with_reducible refine Below.drew ?_) | (with_reducible refine Below.extW ?_ _)))⟩
        case measure => simp [intOf]; omega
    · obtain rfl : q = l.length := by omega
      go_wp2_with fail
      go_ret2
      exact ⟨by simp, hB⟩

/-- A number as a length. -/
def barV (l : List Int) (width : Nat) (n : Int) : Int := (n.toNat * width / (max (l.getD (heavAt l l.length) 0) 1).toNat : Nat)
/-- What Bars tells. -/
def barsOk (l : List Int) (width : Int) : Bool := decide (0 ≤ width) && l.all fun n => decide (0 ≤ n)
def barsL (l : List Int) (width : Int) : List Int := if barsOk l width = true then l.map (barV l width.toNat) else []
def BarsPost (l : List Int) (width : Int) (w : World) (e : Ending) (w' : World) : Prop := ∃ v, e = .returned (.tuple #[v, .bool (barsOk l width)]) ∧ Own w' w.heap.size 3 encZ v (barsL l width) ∧ Below w.heap.size w w'
theorem bars_no {l : List Int} {width : Int} (h : barsOk l width = false) (w : World) (base : Nat) : Own w base 3 encZ (.slice none 0 0) (barsL l width) := by
  unfold barsL; rw [if_neg (by simp [h])]; exact Own.nil _ _ _ _
theorem bars_neg {l : List Int} {width : Int} {q : Nat} (h : q < l.length) (hn : l[q] < 0) : barsOk l width = false := by
  unfold barsOk
  rw [Bool.and_eq_false_iff]; right
  rw [List.all_eq_false]
  exact ⟨l[q], List.getElem_mem h, by simp; omega⟩
set_option maxHeartbeats 1000000 in
theorem bins_Bars (w : World) (A : Option Addr) (cap : Nat) (l : List Int) (width : Int) (hS : Sl w w.heap.size encZ A l) (hm : l.length ≤ 67108864) (hi : ∀ x ∈ l, i64 x) (hw : i64 width) :
    Calls Tryz.prog 41 #[.slice A l.length cap, .int .i64 width] w (BarsPost l width w) := by
  have HS := Lib.hid hS
  have HI := Lib.hid hi
  have HH := Lib.hid (bins_Heaviest · A cap l · hm)
  unfold heavV at HH
  clear hS hi
  by_cases hw0 : width < 0
  · have HB := Lib.hid (show barsOk l width = false by unfold barsOk; simp; omega)
    go_enter Tryz.func41, Tryz.ntmps41
    go_wp2_with fail
    go_ret2
    exact ⟨_, by rw [HB.out]; rfl, bars_no HB.out _ _, (by repeat (first | with_reducible exact Below.refl _ _ | with_reducible assumption | ((with_reducible refine Below.setCell ?_ ?_ _); rotate_left; · (first | omega | exact Nat.le_refl _ | (simp <;> omega))) | (with_reducible refine Below.allocW ?_ _) | (with_reducible refine Below.drew ?_) | (with_reducible refine Below.extW ?_ _)))⟩
  · obtain ⟨wd, rfl⟩ := Int.eq_ofNat_of_zero_le (show 0 ≤ width by omega)
    have hn0 : decide ((wd : Int) < 0) = false := by simp
    have hwd : wd ≤ 9223372036854775807 := by have := hw.2; omega
    have hal := heavAt_lt l l.length
    have HLE := Lib.hid (heavAt_le l l.length)
    obtain ⟨a, ha⟩ : ∃ a, a = heavAt l l.length := ⟨_, rfl⟩
    have HA := Lib.hid ha
    rw [← ha] at HH HLE hal
    clear hw0 hw ha
    go_enter Tryz.func41, Tryz.ntmps41
    go_wp2_with fail
    refine (HH.out _ HS.out).mono ?_
    rintro e w1 ⟨rfl, hb1⟩
    have B1 : Below w.heap.size w w1 := Below.then_ (by repeat (first | with_reducible exact Below.refl _ _ | with_reducible assumption | ((with_reducible refine Below.setCell ?_ ?_ _); rotate_left; · (first | omega | exact Nat.le_refl _ | (simp <;> omega))) | (with_reducible refine Below.allocW ?_ _) | (with_reducible refine Below.drew ?_) | (with_reducible refine Below.extW ?_ _))) hb1
    have s1 : w.heap.size ≤ w1.heap.size := B1.size
    have HS1 := Lib.hid (HS.out.keep s1 fun p hp => B1.cell hp)
    go_wp2_with fail
    go_loopw [8, 22] (fun o i wr => ∃ q : Nat, q ≤ l.length ∧ i = .int .i64 q ∧ Own wr w.heap.size 3 encZ o ((l.take q).map (barV l wd)) ∧ (∀ x ∈ l.take q, 0 ≤ x) ∧ Below w.heap.size w wr) (fun _ i _ => l.length - (intOf i).toNat)
    case atStart => exact ⟨0, Nat.zero_le _, rfl, Own.nil _ _ _ _, by simp, B1⟩
    case round =>
      obtain ⟨q, hq, rfl, hown, hpos, hB⟩ := hrel
      have HO := Lib.hid hown
      have HP := Lib.hid hpos
      have hsz := hB.size
      clear hown hpos
      by_cases hlt : q < l.length
      · have hs2 := HS.out
        rcases hs2 with h | ⟨b, off, rfl, hb, hc⟩
        · subst h; simp at hlt
        have hal2 : a < l.length := by omega
        have d0 := (hB.cell (p := ⟨b, off + q, none⟩) hb).trans (by have := hc q _ (List.getElem?_eq_getElem hlt) 0 (.int .i64 l[q]) rfl; simpa using this)
        have d1 := (hB.cell (p := ⟨b, off + a, none⟩) hb).trans (by have := hc a _ (List.getElem?_eq_getElem hal2) 0 (.int .i64 l[a]) rfl; simpa using this)
        have lb : b < wr.heap.size := Nat.lt_of_lt_of_le hb hsz
        have hle := HLE.out q hlt
        rw [getDz_at hlt, getDz_at hal2] at hle
        have hxi := HI.out _ (List.getElem_mem hlt)
        have hyi := HI.out _ (List.getElem_mem hal2)
        have et : l.take (q + 1) = l.take q ++ [l[q]] := List.take_succ_eq_append_getElem hlt
        have HBN := Lib.hid (fun h : l[q] < 0 => bars_neg (width := wd) hlt h)
        have EB := Lib.hid (show barV l wd l[q] = ((l[q].toNat * wd / (max l[a] 1).toNat : Nat) : Int) by unfold barV; rw [← HA.out, getDz_at hal2])
        obtain ⟨x, hx⟩ : ∃ x, x = l[q] := ⟨_, rfl⟩
        obtain ⟨y, hy⟩ : ∃ y, y = l[a] := ⟨_, rfl⟩
        rw [← hx] at d0 hle hxi et HBN EB
        rw [← hy] at d1 hle hyi EB
        have ET := Lib.hid et
        clear hc hx hy et
        by_cases hx0 : x < 0
        · have HB := Lib.hid (HBN.out hx0)
          go_wp2_with fail
          go_ret2
          exact ⟨_, by rw [HB.out]; rfl, bars_no HB.out _ _, hB⟩
        · obtain ⟨n, rfl⟩ := Int.eq_ofNat_of_zero_le (show 0 ≤ x by omega)
          obtain ⟨m, hm'⟩ := Int.eq_ofNat_of_zero_le (show 0 ≤ max y 1 by omega)
          have hxn : decide ((n : Int) < 0) = false := by simp
          have HPt := Lib.hid (reckon_Part · n wd m hwd (by omega) (by have := hyi.2; omega) (by omega))
          have hpl := part_le (b := wd) (show n ≤ m by omega) (by omega)
          have EB2 := Lib.hid (show barV l wd n = ((n * wd / m : Nat) : Int) by rw [EB.out, hm']; rfl)
          generalize n * wd / m = p at HPt hpl EB2
          have HM := Lib.hid hm'
          clear hx0 EB hle hxi hyi
          rw [HM.out] at *
          go_wp2_with fail
          refine (HPt.out _).mono ?_
          rintro e w2 ⟨rfl, hb2⟩
          have B2 : Below w.heap.size w w2 := Below.then_ (by repeat (first | with_reducible exact Below.refl _ _ | with_reducible assumption | ((with_reducible refine Below.setCell ?_ ?_ _); rotate_left; · (first | omega | exact Nat.le_refl _ | (simp <;> omega))) | (with_reducible refine Below.allocW ?_ _) | (with_reducible refine Below.drew ?_) | (with_reducible refine Below.extW ?_ _))) hb2
          have s2 : w.heap.size ≤ w2.heap.size := B2.size
          have O2 := Lib.hid (HO.out.below hb2)
          have BW2 : Below w.heap.size w w2 := hB.trans (hb2.mono hsz)
          go_wp2_with ((at_builtin; refine wpList_push tyZ rfl _ _ rfl encZ w2 w.heap.size u8 _ rfl O2.out p (by go_simp) rfl ?c1 ?c2 ?c3 ?c4))
          case c1 => simp; omega
          case c2 => simp [maxLen]; omega
          case c3 => exact BW2.size
          case c4 =>
            intro v' w3 hown3 hgrow _ hlies hb3 _
            have e3 : (l.take q).map (barV l wd) ++ [(p : Int)] = (l.take (q + 1)).map (barV l wd) := by rw [ET.out, List.map_append, List.map_singleton, EB2.out]
            have HO3 := Lib.hid (show Own w3 w.heap.size 3 encZ v' ((l.take (q + 1)).map (barV l wd)) by rw [← e3]; simpa using hown3)
            have BW3 := Below.trans BW2 hb3
            clear hown3
            go_wp2_with fail
            go_roundw
            case rel => exact ⟨q + 1, by omega, by go_num, HO3.out, by
              intro z hz
              rw [ET.out] at hz
              rcases List.mem_append.1 hz with hz | hz
              · exact HP.out z hz
              · rw [List.mem_singleton.1 hz]; omega, BW3⟩
            case measure => simp [intOf]; omega
      · obtain rfl : q = l.length := by omega
        have HOk := Lib.hid (show barsOk l wd = true by
          unfold barsOk
          rw [Bool.and_eq_true]
          refine ⟨by simp, List.all_eq_true.2 fun x hx => ?_⟩
          have := HP.out x (by rw [List.take_length]; exact hx)
          simpa using this)
        have HL := Lib.hid (show barsL l wd = (l.take l.length).map (barV l wd) by unfold barsL; rw [if_pos HOk.out, List.take_length]; rfl)
        go_wp2_with fail
        go_ret2
        exact ⟨_, by rw [HOk.out]; rfl, by rw [HL.out]; exact HO.out, hB⟩
end Go.Proofs.YtbmmkhbdcaokkaaGreat
/- Leaves: package twig, and the reference of layer 2. -/
namespace Go.Proofs.YtbmmkhbdcaokkaaGreat
open Go.ChangeShapes Go.WideShapes Go.ChangeAt Go.RowKit
set_option linter.unusedVariables false
set_option maxRecDepth 100000

/-- Is a number a value of a universe? -/
def isVal (l : Nat) (x : Int) : Bool := decide (0 ≤ x) && decide (x < 2 ^ l)
def leafV (l : Nat) (x : Int) : Value := .tuple #[.int .i64 (if isVal l x = true then 2 ^ l + x else 0), .bool (isVal l x)]
theorem leafV_yes {l : Nat} {x : Int} (h : isVal l x = true) : leafV l x = .tuple #[.int .i64 (2 ^ l + x), .bool true] := by unfold leafV; rw [h]; rfl
theorem leafV_no {l : Nat} {x : Int} (h : isVal l x = false) : leafV l x = .tuple #[.int .i64 0, .bool false] := by unfold leafV; rw [h]; rfl
theorem or_leaf {l : Nat} (h : l ≤ 48) {x : Int} (h0 : 0 ≤ x) (h1 : x < 2 ^ l) : bits .or .i64 (2 ^ l) x = 2 ^ l + x := by
  have p1 := pow_48 h
  have p2 := pow_pos' l
  exact bits_join .i64 63 (by decide) (fun n h0 h1 => by rw [IntKind.wrap_i64]; omega) l (2 ^ l) x (by omega) (Int.emod_self) (by omega) h0 h1 (by omega)
theorem twig_Leaf (w : World) (l : Nat) (x : Int) (h1 : 1 ≤ l) (h2 : l ≤ 48) : Calls Tryz.prog 75 #[.int .i64 l, .int .i64 x] w fun e w' => e = .returned (leafV l x) ∧ Below w.heap.size w w' := by
  have p1 := pow_48 h2
  have p2 := pow_pos' l
  have HU := Lib.hid (show decide (1 ≤ (l : Int) ∧ (l : Int) ≤ 48) = true by simp; omega)
  have l1 : (1 : Int) ≤ (l : Int) := by omega
  have l2 : (l : Int) ≤ 48 := by omega
  by_cases hx0 : x < 0
  · rw [leafV_no (by unfold isVal; simp; omega)]
    go_enter Tryz.func75, Tryz.ntmps75
    go_wp2_with fail
    refine (universe_ _ _).mono ?_
    rintro e w1 ⟨rfl, hb1⟩
    have B1 : Below w.heap.size w w1 := Below.then_ (by repeat (first | with_reducible exact Below.refl _ _ | with_reducible assumption | ((with_reducible refine Below.setCell ?_ ?_ _); rotate_left; · (first | omega | exact Nat.le_refl _ | (simp <;> omega))) | (with_reducible refine Below.allocW ?_ _) | (with_reducible refine Below.drew ?_) | (with_reducible refine Below.extW ?_ _))) hb1
    have s1 : w.heap.size ≤ w1.heap.size := B1.size
    rw [HU.out]
    go_wp2_with fail
    go_ret2
    exact ⟨rfl, B1⟩
  · have k0 : decide (x < 0) = false := by simpa using hx0
    by_cases hx1 : x < 2 ^ l
    · rw [leafV_yes (by unfold isVal; simp; omega)]
      have HO := Lib.hid (or_leaf h2 (show 0 ≤ x by omega) hx1)
      have k1 : decide ((2 : Int) ^ l ≤ x) = false := by simp; omega
      go_enter Tryz.func75, Tryz.ntmps75
      go_wp2_with fail
      refine (universe_ _ _).mono ?_
      rintro e w1 ⟨rfl, hb1⟩
      have B1 : Below w.heap.size w w1 := Below.then_ (by repeat (first | with_reducible exact Below.refl _ _ | with_reducible assumption | ((with_reducible refine Below.setCell ?_ ?_ _); rotate_left; · (first | omega | exact Nat.le_refl _ | (simp <;> omega))) | (with_reducible refine Below.allocW ?_ _) | (with_reducible refine Below.drew ?_) | (with_reducible refine Below.extW ?_ _))) hb1
      have s1 : w.heap.size ≤ w1.heap.size := B1.size
      rw [HU.out]
      go_wp2_with fail
      go_ret2
      exact ⟨by simp [HO.out], B1⟩
    · rw [leafV_no (by unfold isVal; simp; omega)]
      have k1 : decide ((2 : Int) ^ l ≤ x) = true := by simp; omega
      go_enter Tryz.func75, Tryz.ntmps75
      go_wp2_with fail
      refine (universe_ _ _).mono ?_
      rintro e w1 ⟨rfl, hb1⟩
      have B1 : Below w.heap.size w w1 := Below.then_ (by repeat (first | with_reducible exact Below.refl _ _ | with_reducible assumption | ((with_reducible refine Below.setCell ?_ ?_ _); rotate_left; · (first | omega | exact Nat.le_refl _ | (simp <;> omega))) | (with_reducible refine Below.allocW ?_ _) | (with_reducible refine Below.drew ?_) | (with_reducible refine Below.extW ?_ _))) hb1
      have s1 : w.heap.size ≤ w1.heap.size := B1.size
      rw [HU.out]
      go_wp2_with fail
      go_ret2
      exact ⟨rfl, B1⟩
theorem ref2_Leaf (w : World) (l : Nat) (x : Int) (h1 : 1 ≤ l) (h2 : l ≤ 48) : Calls Tryz.prog 83 #[.int .i64 l, .int .i64 x] w fun e w' => e = .returned (leafV l x) ∧ Below w.heap.size w w' := by
  have p1 := pow_48 h2
  have p2 := pow_pos' l
  have HU := Lib.hid (show decide (1 ≤ (l : Int) ∧ (l : Int) ≤ 48) = true by simp; omega)
  have HP := Lib.hid (ref2_Power · l (by omega))
  by_cases hx0 : x < 0
  · rw [leafV_no (by unfold isVal; simp; omega)]
    go_enter Tryz.func83, Tryz.ntmps83
    go_wp2_with fail
    refine (ref2_Is _ _).mono ?_
    rintro e w1 ⟨rfl, hb1⟩
    have B1 : Below w.heap.size w w1 := Below.then_ (by repeat (first | with_reducible exact Below.refl _ _ | with_reducible assumption | ((with_reducible refine Below.setCell ?_ ?_ _); rotate_left; · (first | omega | exact Nat.le_refl _ | (simp <;> omega))) | (with_reducible refine Below.allocW ?_ _) | (with_reducible refine Below.drew ?_) | (with_reducible refine Below.extW ?_ _))) hb1
    have s1 : w.heap.size ≤ w1.heap.size := B1.size
    rw [HU.out]
    go_wp2_with fail
    go_ret2
    exact ⟨rfl, B1⟩
  · have k0 : decide (x < 0) = false := by simpa using hx0
    by_cases hx1 : x < 2 ^ l
    · rw [leafV_yes (by unfold isVal; simp; omega)]
      have k1 : decide ((2 : Int) ^ l ≤ x) = false := by simp; omega
      go_enter Tryz.func83, Tryz.ntmps83
      go_wp2_with fail
      refine (ref2_Is _ _).mono ?_
      rintro e w1 ⟨rfl, hb1⟩
      have B1 : Below w.heap.size w w1 := Below.then_ (by repeat (first | with_reducible exact Below.refl _ _ | with_reducible assumption | ((with_reducible refine Below.setCell ?_ ?_ _); rotate_left; · (first | omega | exact Nat.le_refl _ | (simp <;> omega))) | (with_reducible refine Below.allocW ?_ _) | (with_reducible refine Below.drew ?_) | (with_reducible refine Below.extW ?_ _))) hb1
      have s1 : w.heap.size ≤ w1.heap.size := B1.size
      rw [HU.out]
      go_wp2_with fail
      refine (HP.out _).mono ?_
      rintro e w2 ⟨rfl, hb2⟩
      have B2 : Below w.heap.size w w2 := Below.then_ (by repeat (first | with_reducible exact Below.refl _ _ | with_reducible assumption | ((with_reducible refine Below.setCell ?_ ?_ _); rotate_left; · (first | omega | exact Nat.le_refl _ | (simp <;> omega))) | (with_reducible refine Below.allocW ?_ _) | (with_reducible refine Below.drew ?_) | (with_reducible refine Below.extW ?_ _))) hb2
      have s2 : w.heap.size ≤ w2.heap.size := B2.size
      go_wp2_with fail
      refine (HP.out _).mono ?_
      rintro e w3 ⟨rfl, hb3⟩
      have B3 : Below w.heap.size w w3 := Below.then_ (by repeat (first | with_reducible exact Below.refl _ _ | with_reducible assumption | ((with_reducible refine Below.setCell ?_ ?_ _); rotate_left; · (first | omega | exact Nat.le_refl _ | (simp <;> omega))) | (with_reducible refine Below.allocW ?_ _) | (with_reducible refine Below.drew ?_) | (with_reducible refine Below.extW ?_ _))) hb3
      have s3 : w.heap.size ≤ w3.heap.size := B3.size
      go_wp2_with fail
      go_ret2
      exact ⟨rfl, B3⟩
    · rw [leafV_no (by unfold isVal; simp; omega)]
      have k1 : decide ((2 : Int) ^ l ≤ x) = true := by simp; omega
      go_enter Tryz.func83, Tryz.ntmps83
      go_wp2_with fail
      refine (ref2_Is _ _).mono ?_
      rintro e w1 ⟨rfl, hb1⟩
      have B1 : Below w.heap.size w w1 := Below.then_ (by repeat (first | with_reducible exact Below.refl _ _ | with_reducible assumption | ((with_reducible refine Below.setCell ?_ ?_ _); rotate_left; · (first | omega | exact Nat.le_refl _ | (simp <;> omega))) | (with_reducible refine Below.allocW ?_ _) | (with_reducible refine Below.drew ?_) | (with_reducible refine Below.extW ?_ _))) hb1
      have s1 : w.heap.size ≤ w1.heap.size := B1.size
      rw [HU.out]
      go_wp2_with fail
      refine (HP.out _).mono ?_
      rintro e w2 ⟨rfl, hb2⟩
      have B2 : Below w.heap.size w w2 := Below.then_ (by repeat (first | with_reducible exact Below.refl _ _ | with_reducible assumption | ((with_reducible refine Below.setCell ?_ ?_ _); rotate_left; · (first | omega | exact Nat.le_refl _ | (simp <;> omega))) | (with_reducible refine Below.allocW ?_ _) | (with_reducible refine Below.drew ?_) | (with_reducible refine Below.extW ?_ _))) hb2
      have s2 : w.heap.size ≤ w2.heap.size := B2.size
      go_wp2_with fail
      go_ret2
      exact ⟨rfl, B2⟩
end Go.Proofs.YtbmmkhbdcaokkaaGreat
/- Appends inside a fence; what a round keeps. -/
namespace Go.Proofs.YtbmmkhbdcaokkaaGreat
open Go.ChangeShapes Go.WideShapes Go.ChangeAt Go.RowKit
set_option linter.unusedVariables false

section
variable {α : Type} {P : Program} {t e : TypeId} {size bytes : Nat} {z : Value} {F : Fence} {n : Nat}
theorem wpListIn_app {w : World} {ops : Array Oper} {rest : List Oper} {o : Oper} {a : Act} {Q : Exit → Act → World → Prop} (T : SliceTy P t e size bytes z) (hgd : o.guard = none) (s x : Operand)
    (ho : o.op = .call { callee := .builtin .append, args := #[s, x], argTypes := #[t, t] }) (E : Enc α size) (base : Nat) (v : Value) (l : List α) (hs : a.eval s = v) (hown : Own w base e E v l)
    (A : Option Addr) (c : Nat) (l2 : List α) (B : Nat) (hx : a.eval x = .slice A l2.length c) (hsrc : Sl w B E A l2) (hn : (l.length + l2.length) * bytes ≤ 140737488355328) (hm : l.length + l2.length ≤ maxLen) (hbase : base ≤ w.heap.size)
    (h : ∀ v' w', Own w' base e E v' (l ++ l2) → w.grownBy w' v.ownBlock → (v'.ownBlock = v.ownBlock ∨ v'.ownBlock = some w.heap.size) → Below base w w' → (l2 ≠ [] → v' ≠ .slice none 0 0) →
      wpListIn F n P ops Q rest (a.put o.dst v') w') : wpListIn F n P ops Q (o :: rest) a w := by
  refine wpListIn_plain hgd fun K hK => ?_
  obtain ⟨v', w', hr, h2, h3, h4, h5⟩ := app_run T o.type w base v l hown A c l2 B hsrc hn hm hbase
  unfold Oper.wpIn
  refine ⟨?_, ?_⟩
  · simp [Oper.about, ho, resolve, Target.leads, Sem.run_pure]
  · rw [Oper.semAt_plain F _ _ (by rw [ho]; intro c hc'; cases hc')]
    simp only [execOp, ho, resolve, invoke, builtin, Sem.run_bind, Sem.run_pure, Result.andThen_ok, List.map_toArray, List.map_cons, List.map_nil, hs, hx, hr]
    exact hK _ _ (h v' w' h2 h3 h4 ((Below.refl base w).grown h3 hbase fun k hk => (hown.lt k hk).1) h5)
theorem wpListIn_push {w : World} {ops : Array Oper} {rest : List Oper} {o : Oper} {a : Act} {Q : Exit → Act → World → Prop} (T : SliceTy P t e size bytes z) (hgd : o.guard = none) (s x : Operand)
    (ho : o.op = .call { callee := .builtin .append, args := #[s, x], argTypes := #[t, t] }) (E : Enc α size) (W : World) (base : Nat) (v : Value) (l : List α) (hs : a.eval s = v) (hown : Own W base e E v l)
    (x0 : α) (hx : a.eval x = .slice (some ⟨W.heap.size, 0, none⟩) 1 1) (hw : w = W.alloc (.cells (E.enc x0).toArray e)) (hn : (l.length + 1) * bytes ≤ 140737488355328) (hm : l.length + 1 ≤ maxLen) (hbase : base ≤ W.heap.size)
    (h : ∀ v' w', Own w' base e E v' (l ++ [x0]) → W.grownBy w' v.ownBlock → W.heap.size < w'.heap.size → (v'.ownBlock = v.ownBlock ∨ v'.ownBlock = some (W.heap.size + 1)) → Below base W w' → v' ≠ .slice none 0 0 →
      wpListIn F n P ops Q rest (a.put o.dst v') w') : wpListIn F n P ops Q (o :: rest) a w := by
  subst hw
  have hsl := sl_lit W E [x0] e _ rfl
  simp only [List.flatMap_cons, List.flatMap_nil, List.append_nil] at hsl
  refine wpListIn_app T hgd s x ho E base v l hs (hown.alloc _) (some ⟨W.heap.size, 0, none⟩) 1 [x0] _ (by simpa using hx) hsl (by simpa using hn) (by simpa using hm) (by simp; omega) fun v' w' h2 h3 h4 h5 h6 => ?_
  have hs := h3.size
  simp at hs
  refine h v' w' h2 ⟨h3.os, h3.tape, h3.output, by omega, fun i hi hne => (h3.block i (by simp; omega) hne).trans (Below.heap_alloc W _ i hi)⟩ (by omega) ?_ ?_ (h6 (by simp))
  · rcases h4 with h4 | h4
    · exact .inl h4
    · right; rw [h4]; simp
  · exact ((Below.refl base W).alloc hbase _).trans h5
end

/-- A round keeps the rows below z, but for those in X. -/
def KeepX (z : Nat) (X : Nat → Prop) (A B : World) : Prop := A.heap.size ≤ B.heap.size ∧ ∀ (b : Nat) (cs : Array Value) (t : TypeId) (fr : Nat × Nat), b < z → ¬ X b → A.heap[b]? = some (.cells cs t fr) → B.heap[b]? = some (.cells cs t fr)
section
variable {z : Nat} {X : Nat → Prop} {A B C : World}
theorem keepX_t (h : KeepX z X A B) (k : KeepX z X B C) : KeepX z X A C := ⟨Nat.le_trans h.1 k.1, fun b cs t fr hz hx hb => k.2 b cs t fr hz hx (h.2 b cs t fr hz hx hb)⟩
theorem keepX_b (W : World) (l : Nat) (o o' : Obj) (h : W.heap[l]? = some o) (hc : o.isCells = false) : KeepX z X W (W.putObj l o') := by
  refine ⟨(grownBy_putObj' W l o').size, fun b cs t fr _ _ hb => ?_⟩
  have hne : b ≠ l := by
    rintro rfl
    rw [h] at hb
    cases hb
    simp [Obj.isCells] at hc
  rw [World.putObj_heap_other hne]
  exact hb
theorem KeepX.refl (W : World) : KeepX z X W W := ⟨Nat.le_refl _, fun _ _ _ _ _ _ h => h⟩
theorem KeepX.of_below (h : Below A.heap.size A B) : KeepX z X A B := ⟨h.size, fun b cs t fr _ _ hb => (h.block b (lt_of_block hb)).trans hb⟩
/-- A store to a block of X, or beyond z. -/
theorem KeepX.set (h : KeepX z X A B) {p : Addr} (hp : X p.block ∨ z ≤ p.block) (u : Value) : KeepX z X A (B.setCell p u) :=
  keepX_t h ⟨by simp [World.setCell], fun b cs t fr hz hx hb => by
    rw [Below.heap_setCell _ _ _ _ (by
      rintro rfl
      rcases hp with hp | hp
      · exact hx hp
      · omega)]
    exact hb⟩
theorem KeepX.grown (h : KeepX z X A B) {row : Option Nat} (hg : B.grownBy C row) (hr : ∀ b, row = some b → z ≤ b) : KeepX z X A C :=
  keepX_t h ⟨hg.size, fun b cs t fr hz hx hb => (hg.block b (lt_of_block hb) (fun e => by have := hr b e.symm; omega)).trans hb⟩
theorem KeepX.cell (h : KeepX z X A B) {b o : Nat} {v : Value} (hz : b < z) (hx : ¬ X b) (hc : A.cell? ⟨b, o, none⟩ = some v) : B.cell? ⟨b, o, none⟩ = some v := by
  obtain ⟨ob, h1, h2⟩ := cells_of_cell hc
  cases ob with
  | cells cs t fr => exact (World.cell?_of_block ((h.2 b cs t fr hz hx h1).trans h1.symm)).trans hc
  | _ => simp [Obj.isCells] at h2
/-- A row is kept where what is no row turns. -/
theorem row_grown {row : Option Nat} {b : Nat} {cs : Array Value} {t : TypeId} {fr : Nat × Nat} (h : A.heap[b]? = some (.cells cs t fr)) (hg : A.grownBy B row) (hr : ∀ r, row = some r → ∃ o : Obj, A.heap[r]? = some o ∧ o.isCells = false) : B.heap[b]? = some (.cells cs t fr) :=
  (grownBy_keeps_cells hg hr h rfl).trans h
theorem own_grown {α : Type} {size base e : Nat} {E : Enc α size} {v : Value} {l : List α} {row : Option Nat} (h : Own A base e E v l) (hg : A.grownBy B row) (hr : ∀ r, row = some r → ∃ o : Obj, A.heap[r]? = some o ∧ o.isCells = false) : Own B base e E v l :=
  h.of_block fun g hv => by
    rcases h with ⟨rfl, _⟩ | ⟨g1, o1, c1, u1, rfl, _, hh1, _⟩
    · cases hv
    · have : g1 = g := by simpa [Value.ownBlock] using hv
      subst this
      exact grownBy_keeps_cells hg hr hh1 rfl
end
/-- A slice of ints that reads as a list, in a block below z that is none of X. -/
def SlX (w : World) (z : Nat) (X : Nat → Prop) (A : Option Addr) (es : List Int) : Prop := es = [] ∨ ∃ b off, A = some ⟨b, off, none⟩ ∧ b < z ∧ ¬ X b ∧ ∀ i x, es[i]? = some x → w.cell? ⟨b, off + i, none⟩ = some (.int .i64 x)
theorem SlX.keep {w w' : World} {z : Nat} {X : Nat → Prop} {A : Option Addr} {es : List Int} (h : SlX w z X A es) (k : KeepX z X w w') : SlX w' z X A es := by
  rcases h with h | ⟨b, off, rfl, hz, hx, hc⟩
  · exact .inl h
  · exact .inr ⟨b, off, rfl, hz, hx, fun i x hi => k.cell hz hx (hc i x hi)⟩
theorem SlX.below {w w' : World} {z : Nat} {X : Nat → Prop} {A : Option Addr} {es : List Int} (h : SlX w z X A es) (hb : Below z w w') : SlX w' z X A es := by
  rcases h with h | ⟨b, off, rfl, hz, hx, hc⟩
  · exact .inl h
  · exact .inr ⟨b, off, rfl, hz, hx, fun i x hi => (hb.cell (p := ⟨b, off + i, none⟩) hz).trans (hc i x hi)⟩
theorem SlX.of {w : World} {B z : Nat} {X : Nat → Prop} {A : Option Addr} {es : List Int} (h : Sl w B encZ A es) (hB : B ≤ z) (hX : ∀ b, b < B → ¬ X b) : SlX w z X A es := by
  rcases h with h | ⟨b, off, rfl, hb, hc⟩
  · exact .inl h
  · refine .inr ⟨b, off, rfl, by omega, hX b hb, fun i x hi => ?_⟩
    have := hc i x hi 0 (.int .i64 x) rfl
    simpa using this
theorem SlX.at_ {w : World} {z : Nat} {X : Nat → Prop} {A : Option Addr} {es : List Int} (h : SlX w z X A es) {i : Nat} (hi : i < es.length) : ∃ b off, A = some ⟨b, off, none⟩ ∧ b < z ∧ w.cell? ⟨b, off + i, none⟩ = some (.int .i64 es[i]) := by
  rcases h with h | ⟨b, off, rfl, hz, hx, hc⟩
  · subst h; simp at hi
  · exact ⟨b, off, rfl, hz, hc i _ (List.getElem?_eq_getElem hi)⟩
end Go.Proofs.YtbmmkhbdcaokkaaGreat
/- Chapter 19: bins: plain laws. -/
namespace Go.Proofs.YtbmmkhbdcaokkaaGreat
open Go.ChangeShapes Go.WideShapes Go.ChangeAt Go.RowKit
set_option linter.unusedVariables false

/-- Are numbers edges of a universe, behind a number? -/
def rightE (l : Nat) (p : Int) : List Int → Bool
  | [] => true
  | x :: r => (decide (0 ≤ x) && decide (x < 2 ^ l) && decide (p < x)) && rightE l x r
/-- The edge ahead of a place. -/
def prevE (es : List Int) (q : Nat) : Int := if q = 0 then -1 else es.getD (q - 1) 0
theorem prevE_succ {es : List Int} {q : Nat} (h : q < es.length) : prevE es (q + 1) = es[q] := by
  unfold prevE
  rw [if_neg (by omega), Nat.add_sub_cancel, List.getD_eq_getElem?_getD, List.getElem?_eq_getElem h]; rfl
theorem prevE_at {es : List Int} {q : Nat} (h : q < es.length) (h0 : 0 < q) : prevE es q = es[q - 1] := by
  unfold prevE
  rw [if_neg (by omega), List.getD_eq_getElem?_getD, List.getElem?_eq_getElem (by omega)]; rfl
theorem rightE_drop {l : Nat} {es : List Int} {q : Nat} (h : q < es.length) : rightE l (prevE es q) (es.drop q) = ((decide (0 ≤ es[q]) && decide (es[q] < 2 ^ l) && decide (prevE es q < es[q])) && rightE l (prevE es (q + 1)) (es.drop (q + 1))) := by
  rw [List.drop_eq_getElem_cons h, prevE_succ h]; rfl
/-- What weighs at least ahead of a bin. -/
def lowN (l : Int) (r : List Nd) (es : List Int) : Nat → Int
  | 0 => 0
  | q + 1 => if h : q < es.length then lowOf l r es[q] else sumR r
def binAt (l : Int) (r : List Nd) (es : List Int) (q : Nat) : Int := lowN l r es (q + 1) - lowN l r es q
def binsL (l : Int) (r : List Nd) (es : List Int) : List Int := (List.range (es.length + 1)).map (binAt l r es)
/-- A bin's first and last value. -/
def runAt (l : Nat) (es : List Int) (q : Nat) : Int × Int := (if q = 0 then 0 else es.getD (q - 1) 0 + 1, if q < es.length then es.getD q 0 else 2 ^ l - 1)
def runsL (l : Nat) (es : List Int) : List (Int × Int) := (List.range (es.length + 1)).map (runAt l es)
theorem binsL_len (l : Int) (r : List Nd) (es : List Int) : (binsL l r es).length = es.length + 1 := by simp [binsL]
theorem runsL_len (l : Nat) (es : List Int) : (runsL l es).length = es.length + 1 := by simp [runsL]
theorem binsL_at {l : Int} {r : List Nd} {es : List Int} {q : Nat} (h : q < (binsL l r es).length) : (binsL l r es)[q] = binAt l r es q := by simp [binsL]
theorem map_range_succ {α : Type} (f : Nat → α) (q : Nat) : (List.range (q + 1)).map f = (List.range q).map f ++ [f q] := by rw [List.range_succ, List.map_append]; rfl
/-- The program's sums: run by run. -/
def binStep (l : Int) (r : List Nd) (a : List Int × Int) (p : Int × Int) : List Int × Int := (a.1 ++ [lowOf l r p.2 - a.2], lowOf l r p.2)
def binFold (l : Int) (r : List Nd) (ps : List (Int × Int)) : List Int × Int := ps.foldl (binStep l r) ([], 0)
theorem binFold_snoc (l : Int) (r : List Nd) (ps : List (Int × Int)) (p : Int × Int) : binFold l r (ps ++ [p]) = binStep l r (binFold l r ps) p := by
  unfold binFold
  rw [List.foldl_append]; rfl
theorem binFold_len (l : Int) (r : List Nd) (ps : List (Int × Int)) : (binFold l r ps).1.length = ps.length := by
  suffices h : ∀ (a : List Int × Int), (ps.foldl (binStep l r) a).1.length = a.1.length + ps.length by
    have := h ([], 0)
    unfold binFold
    simpa using this
  induction ps with
  | nil => intro a; simp
  | cons p ps ih => intro a; rw [List.foldl_cons, ih]; simp [binStep]; omega
theorem binFold_range {l : Nat} {r : List Nd} (hr : rightOf l r = true) (es : List Int) (q : Nat) (hq : q ≤ es.length + 1) : binFold l r ((List.range q).map (runAt l es)) = ((List.range q).map (binAt l r es), lowN l r es q) := by
  induction q with
  | zero => rfl
  | succ q ih =>
    rw [map_range_succ, binFold_snoc, ih (by omega), map_range_succ]
    have e : lowOf l r (runAt l es q).2 = lowN l r es (q + 1) := by
      unfold runAt
      simp only [lowN]
      by_cases h : q < es.length
      · rw [dif_pos h, if_pos h, List.getD_eq_getElem?_getD, List.getElem?_eq_getElem h]; rfl
      · rw [dif_neg h, if_neg h]
        exact low_top hr (by omega)
    simp only [binStep, binAt, e]
theorem binFold_runs {l : Nat} {r : List Nd} (hr : rightOf l r = true) (es : List Int) : (binFold l r (runsL l es)).1 = binsL l r es := by
  unfold runsL
  rw [binFold_range hr es _ (Nat.le_refl _)]; rfl
/-- An edge less. -/
def lessE (es : List Int) (at_ : Nat) : List Int := es.take at_ ++ es.drop (at_ + 1)
theorem lessE_len {es : List Int} {at_ : Nat} (h : at_ < es.length) : (lessE es at_).length = es.length - 1 := by
  unfold lessE
  rw [List.length_append, List.length_take, List.length_drop]; omega
theorem lessE_get (es : List Int) (at_ i : Nat) (h : at_ < es.length) : (lessE es at_)[i]? = if i < at_ then es[i]? else es[i + 1]? := by
  unfold lessE
  by_cases hi : i < at_
  · rw [if_pos hi, List.getElem?_append_left (by rw [List.length_take]; omega), List.getElem?_take, if_pos hi]
  · rw [if_neg hi, List.getElem?_append_right (by rw [List.length_take]; omega), List.getElem?_drop, List.length_take]
    congr 1; omega
theorem lowN_get (l : Int) (r : List Nd) (es : List Int) (q : Nat) : lowN l r es (q + 1) = match es[q]? with | some x => lowOf l r x | none => sumR r := by
  simp only [lowN]
  by_cases h : q < es.length
  · rw [dif_pos h, List.getElem?_eq_getElem h]
  · rw [dif_neg h, List.getElem?_eq_none (by omega)]
theorem lowN_less {l : Int} {r : List Nd} {es : List Int} {at_ : Nat} (h : at_ < es.length) (j : Nat) : lowN l r (lessE es at_) j = if j ≤ at_ then lowN l r es j else lowN l r es (j + 1) := by
  cases j with
  | zero => rw [if_pos (Nat.zero_le _)]; rfl
  | succ j =>
    rw [lowN_get, lessE_get _ _ _ h, lowN_get, lowN_get]
    by_cases hj : j < at_
    · rw [if_pos hj, if_pos (by omega)]
    · rw [if_neg hj, if_neg (by omega)]
theorem bins_join {l : Int} {r : List Nd} {es : List Int} {at_ : Nat} (h : at_ < es.length) :
    binsL l r (lessE es at_) = (binsL l r es).take at_ ++ [binAt l r es at_ + binAt l r es (at_ + 1)] ++ (binsL l r es).drop (at_ + 2) := by
  have hl := lessE_len h
  apply List.ext_getElem
  · rw [binsL_len, hl, List.length_append, List.length_append, List.length_take, List.length_drop, binsL_len]; simp only [List.length_singleton]; omega
  · intro i h1 h2
    rw [binsL_at]
    rw [binsL_len] at h1
    have hb : ∀ j, binAt l r (lessE es at_) j = (if j + 1 ≤ at_ then lowN l r es (j + 1) else lowN l r es (j + 1 + 1)) - (if j ≤ at_ then lowN l r es j else lowN l r es (j + 1)) := fun j => by
      unfold binAt; rw [lowN_less h, lowN_less h]
    rw [hb]
    have ht : ((binsL l r es).take at_).length = at_ := by rw [List.length_take, binsL_len]; omega
    rcases Nat.lt_trichotomy i at_ with hi | hi | hi
    · rw [if_pos (by omega), if_pos (by omega), List.getElem_append_left (by rw [List.length_append, ht]; omega), List.getElem_append_left (by rw [ht]; omega), List.getElem_take, binsL_at]; rfl
    · subst hi
      rw [if_neg (by omega), if_pos (by omega), List.getElem_append_left (by rw [List.length_append, ht]; simp), List.getElem_append_right (by rw [ht]; omega)]
      simp only [ht, Nat.sub_self, List.getElem_singleton, binAt]; omega
    · rw [if_neg (by omega), if_neg (by omega), List.getElem_append_right (by rw [List.length_append, ht]; simp; omega), List.getElem_drop, binsL_at]
      unfold binAt
      have e : at_ + 2 + (i - ((binsL l r es).take at_ ++ [binAt l r es at_ + binAt l r es (at_ + 1)]).length) = i + 1 := by
        rw [List.length_append, ht]; simp only [List.length_singleton]; omega
      simp only [binAt] at e
      rw [e]
theorem rightE_less {l : Nat} (es : List Int) : ∀ (p : Int) (at_ : Nat), rightE l p es = true → rightE l p (lessE es at_) = true := by
  induction es with
  | nil => intro p at_ h; simp [lessE, rightE]
  | cons x es ih =>
    intro p at_ h
    simp only [rightE, Bool.and_eq_true, decide_eq_true_eq] at h
    obtain ⟨⟨⟨h1, h2⟩, h3⟩, h4⟩ := h
    cases at_ with
    | zero =>
      show rightE l p es = true
      cases es with
      | nil => rfl
      | cons y es =>
        simp only [rightE, Bool.and_eq_true, decide_eq_true_eq] at h4 ⊢
        obtain ⟨⟨⟨h5, h6⟩, h7⟩, h8⟩ := h4
        exact ⟨⟨⟨h5, h6⟩, by omega⟩, h8⟩
    | succ a =>
      show rightE l p (x :: lessE es a) = true
      simp only [rightE, Bool.and_eq_true, decide_eq_true_eq]
      exact ⟨⟨⟨h1, h2⟩, h3⟩, ih x a h4⟩
end Go.Proofs.YtbmmkhbdcaokkaaGreat
/- Package bins: runs, an iterator over where bins begin and end. -/
namespace Go.Proofs.YtbmmkhbdcaokkaaGreat
open Go.ChangeShapes Go.WideShapes Go.ChangeAt Go.RowKit
set_option linter.unusedVariables false
attribute [local go_sem] Oper.semAt_some

theorem bins_runs (w : World) (l : Int) (A : Option Addr) (n cap : Nat) : Calls Tryz.prog 79 #[.int .i64 l, .slice A n cap] w fun e w' => e = .returned (.func (.func 151) #[] #[.pointer (some ⟨w.heap.size + 1, 0, none⟩), .pointer (some ⟨w.heap.size, 0, none⟩)]) ∧ (w.alloc (.cells #[.int .i64 l] 3)).alloc (.cells #[.slice A n cap] 27) = w' := by
  go_enter Tryz.func79, Tryz.ntmps79
  go_wp2_with fail
  go_ret
  exact ⟨rfl, rfl⟩
theorem runAt_fst_succ {l : Nat} {es : List Int} {q : Nat} (h : q < es.length) : (runAt l es (q + 1)).1 = es[q] + 1 := by
  unfold runAt
  simp only
  rw [if_neg (by omega), Nat.add_sub_cancel, List.getD_eq_getElem?_getD, List.getElem?_eq_getElem h]; rfl
theorem runAt_in {l : Nat} {es : List Int} {q : Nat} (h : q < es.length) : (runAt l es q).2 = es[q] := by
  unfold runAt
  simp only
  rw [if_pos h, List.getD_eq_getElem?_getD, List.getElem?_eq_getElem h]; rfl
theorem runAt_last (l : Nat) (es : List Int) : (runAt l es es.length).2 = 2 ^ l - 1 := by
  unfold runAt
  simp
theorem runs_take (l : Nat) (es : List Int) {q : Nat} (h : q ≤ es.length) : (runsL l es).take q ++ [((runAt l es q).1, (runAt l es q).2)] = (runsL l es).take (q + 1) := by
  have hq : q < (runsL l es).length := by rw [runsL_len]; omega
  rw [List.take_succ_eq_append_getElem hq]
  congr 1
  simp [runsL]
set_option maxRecDepth 100000 in
set_option maxHeartbeats 2000000 in
/-- All runs come, or a part of them. -/
theorem runs_stops (n be bl z : Nat) (X : Nat → Prop) (l : Nat) (A : Option Addr) (cap : Nat) (es : List Int) (w : World) (hn : 1 ≤ n) (hl : 1 ≤ l ∧ l ≤ 48) (hz : z ≤ w.heap.size)
    (hbe : w.heap[be]? = some (.cells #[.slice A es.length cap] 27 (0, 0))) (hbl : w.heap[bl]? = some (.cells #[.int .i64 l] 3 (0, 0))) (hS : SlX w z X A es) (be1 : be < z) (be2 : ¬ X be) (bl1 : bl < z) (bl2 : ¬ X bl) (hes : ∀ x ∈ es, x ≤ 281474976710656) (hes0 : ∀ x ∈ es, 0 ≤ x) (hlen : es.length ≤ 67108864) :
    SeqStopsK Fence.wide n Tryz.prog 151 #[.pointer (some ⟨be, 0, none⟩), .pointer (some ⟨bl, 0, none⟩)] (fun x : Int × Int => #[Value.int .i64 x.1, Value.int .i64 x.2]) (KeepX z X) (fun ys => ys = runsL l es) (fun pre => pre <+: runsL l es) (runsL l es).length w := fun q J Jx W hW hJ hJx hY h0 => by
  have hWz : Below z w W := hW.mono hz
  have ke := Lib.hid (blk_below hbe hW)
  have kl := Lib.hid (blk_below hbl hW)
  have KS := Lib.hid (hS.below hWz)
  have ce := blk_cell ke.out
  have HY := Lib.hid hY
  have H0 := Lib.hid h0
  have HES := Lib.hid (And.intro hes hes0)
  have p1 := pow_pos' l
  have p2 := pow_48 hl.2
  clear hbe hbl hS hY hJ hJx h0 hes hes0
  refine callsIn_of_wp Tryz.func151 rfl trivial ?_ rfl
  simp only [Tryz.ntmps151, List.size_toArray, List.length_cons, List.length_nil, Nat.reduceAdd, Nat.reduceSub, Array.replicate_succ, Array.replicate_zero, List.push_toArray, List.append_toArray, List.nil_append, List.cons_append]
  gi_wp2_with fail
  gi_loopw [4, 9] (fun f i wr => ∃ k : Nat, k ≤ es.length ∧ i = .int .i64 k ∧ f = .int .i64 (runAt l es k).1 ∧ J ((runsL l es).take k) wr ∧ KeepX z X W wr) (fun _ i _ => es.length - (intOf i).toNat)
  case atStart => exact ⟨0, Nat.zero_le _, rfl, rfl, H0.out, KeepX.refl _⟩
  case round =>
    obtain ⟨k, hk, rfl, rfl, hJk, hK⟩ := hrel
    have KJ := Lib.hid hJk
    have KK := Lib.hid hK
    have hT := runs_take l es hk
    have HT := Lib.hid hT
    by_cases hlt : k < es.length
    · obtain ⟨b, off, rfl, hb, hc⟩ := (KS.out.keep hK).at_ hlt
      have e1 := runAt_in (l := l) hlt
      have e2 := runAt_fst_succ (l := l) hlt
      have hx1 := HES.out.1 _ (List.getElem_mem hlt)
      have hx0 := HES.out.2 _ (List.getElem_mem hlt)
      rw [e1] at hT
      obtain ⟨x, hx⟩ : ∃ x, x = es[k] := ⟨_, rfl⟩
      rw [← hx] at hc e1 e2 hx1 hx0 hT
      have E2 := Lib.hid e2
      obtain ⟨fn, tmps, assign, body, hy, hR⟩ := HY.out _ ((runAt l es k).1, x) _ KJ.out (by rw [List.length_take, runsL_len]; omega)
      rw [hT] at hR
      clear hx e1 e2 hT hJk hK
      gi_wp2_with fail
      refine hR.mono ?_
      rintro e w3 (⟨rfl, hJ3, hk3⟩ | ⟨rfl, hJx3⟩)
      · have K3 := Lib.hid (keepX_t KK.out hk3)
        have J3 := Lib.hid hJ3
        clear hJ3 hk3
        gi_wp2_with fail
        go_roundw
        case rel => exact ⟨k + 1, by omega, by go_num, by rw [E2.out], J3.out, K3.out⟩
        case measure => simp [intOf]; omega
      · have J3 := Lib.hid hJx3
        clear hJx3
        gi_wp2_with fail
        refine bodyPost_ret (results_none rfl _ _ _) rfl ?_
        exact ⟨⟨_, rfl⟩, .inr ⟨_, List.take_prefix _ _, J3.out⟩⟩
    · obtain rfl : k = es.length := by omega
      have cl := hK.cell bl1 bl2 (blk_cell kl.out 0)
      have e1 := runAt_last l es
      rw [e1] at hT
      obtain ⟨fn, tmps, assign, body, hy, hR⟩ := HY.out _ ((runAt l es es.length).1, 2 ^ l - 1) _ KJ.out (by rw [List.length_take, runsL_len]; omega)
      rw [hT, show es.length + 1 = (runsL l es).length by rw [runsL_len], List.take_length] at hR
      clear hT hJk hK e1
      gi_wp2_with fail
      refine hR.mono ?_
      rintro e w3 (⟨rfl, hJ3, hk3⟩ | ⟨rfl, hJx3⟩)
      · have J3 := Lib.hid hJ3
        clear hJ3 hk3
        gi_wp2_with fail
        go_end0
        exact ⟨⟨_, rfl⟩, .inl ⟨_, rfl, J3.out⟩⟩
      · have J3 := Lib.hid hJx3
        clear hJx3
        gi_wp2_with fail
        go_end0
        exact ⟨⟨_, rfl⟩, .inr ⟨_, List.prefix_refl _, J3.out⟩⟩
end Go.Proofs.YtbmmkhbdcaokkaaGreat
/- The reference of layer 18 (reach): Between, Share. -/
namespace Go.Proofs.YtbmmkhbdcaokkaaGreat
open Go.ChangeShapes Go.WideShapes Go.ChangeAt Go.RowKit
set_option linter.unusedVariables false
set_option maxRecDepth 100000

theorem three (p q : Prop) [Decidable p] [Decidable q] : (p ∧ q) ∨ (p ∧ decide q = false) ∨ decide p = false := by
  by_cases hp : p
  · by_cases hq : q
    · exact .inl ⟨hp, hq⟩
    · exact .inr (.inl ⟨hp, decide_eq_false hq⟩)
  · exact .inr (.inr (decide_eq_false hp))
theorem drew_heap (W : World) : W.drew.heap = W.heap := rfl
set_option maxHeartbeats 8000000 in
theorem ref18_Between (w : World) (k u : Int) (A : Option Addr) (cap : Nat) (l : List Nd) (a b : Int) (hS : Sl w w.heap.size encN A l) (hI : ints l) (hm : l.length ≤ 67108864) (hr : Roll l) (hs : sumR l ≤ 72057594037927935) :
    Calls Tryz.prog 101 #[.agg #[.int .i64 k, .int .i64 u, .slice A l.length cap], .int .i64 a, .int .i64 b] w fun e w' => e = .returned (bothV (betw u l a b)) ∧ Below w.heap.size w w' := by
  have HS := Lib.hid hS
  have HI := Lib.hid hI
  clear hS hI
  by_cases hab : b < a
  · rw [betw_no hab]
    go_enter Tryz.func101, Tryz.ntmps101
    go_wp2_with fail
    exact bodyPost_ret (v := .tuple #[.agg #[.int .i64 0, .int .i64 0], .int .i64 2]) (by simp only [results, Tryz.results101]; go_simp) rfl ⟨rfl, (by repeat (first | with_reducible exact Below.refl _ _ | with_reducible assumption | ((with_reducible refine Below.setCell ?_ ?_ _); rotate_left; · (first | omega | exact Nat.le_refl _ | (simp <;> omega))) | (with_reducible refine Below.allocW ?_ _) | (with_reducible refine Below.drew ?_) | (with_reducible refine Below.extW ?_ _)))⟩
  · rw [betw_yes hab]
    have h1 : decide (b < a) = false := by simpa using hab
    clear hab
    go_enter Tryz.func101, Tryz.ntmps101
    go_wp2_with fail
    have K0 : Hid ((((w.alloc (.cells #[.int .i64 k, .int .i64 u, .slice A l.length cap] 37)).alloc (.cells #[.int .i64 0, .int .i64 0] 29)).alloc (.cells #[.int .i64 0, .int .i64 0] 29)).heap[w.heap.size]? = some (.cells #[.int .i64 k, .int .i64 u, .slice A l.length cap] 37 (0, 0))) := Lib.hid (by
      rw [Below.heap_alloc _ _ _ (by simp; omega), Below.heap_alloc _ _ _ (by simp)]; exact heap_alloc_new _ _)
    have K1 := Lib.hid ((bothAt.new (w.alloc (.cells #[.int .i64 k, .int .i64 u, .slice A l.length cap] 37)) 0 0).alloc (.cells #[.int .i64 0, .int .i64 0] 29))
    have K2 := Lib.hid (bothAt.new ((w.alloc (.cells #[.int .i64 k, .int .i64 u, .slice A l.length cap] 37)).alloc (.cells #[.int .i64 0, .int .i64 0] 29)) 0 0)
    simp only [World.size_alloc] at K1 K2
    go_loopw [9] (fun i wr => ∃ q : Nat, q ≤ l.length ∧ i = .int .i64 q ∧ wr.heap[w.heap.size]? = some (.cells #[.int .i64 k, .int .i64 u, .slice A l.length cap] 37 (0, 0)) ∧ bothAt wr (w.heap.size + 1) 0 0 ∧ bothAt wr (w.heap.size + 1 + 1) (betwLow u (l.take q) a b) (betwHigh u (l.take q) a b) ∧ Below w.heap.size w wr) (fun i _ => l.length - (intOf i).toNat)
    case atStart => exact ⟨0, Nat.zero_le _, rfl, K0.out, K1.out, K2.out, (by repeat (first | with_reducible exact Below.refl _ _ | with_reducible assumption | ((with_reducible refine Below.setCell ?_ ?_ _); rotate_left; · (first | omega | exact Nat.le_refl _ | (simp <;> omega))) | (with_reducible refine Below.allocW ?_ _) | (with_reducible refine Below.drew ?_) | (with_reducible refine Below.extW ?_ _)))⟩
    case round =>
      obtain ⟨j, hj, rfl, hm0, hm1, hm2, hB⟩ := hrel
      have N0 := Lib.hid hm0
      have N1 := Lib.hid hm1
      have N2 := Lib.hid hm2
      have hs0 := hB.size
      have zn2 := lt_of_block hm2
      have zn0 := lt_of_block hm0
      have cb := blk_cell hm0
      have cc := blk_cell hm2
      have cf := blk_frozen hm2
      by_cases hlt : j < l.length
      · obtain ⟨c, off, rfl, hc, hcl⟩ := (HS.out.below hB).at_ hlt
        have d0 := hcl 0 (.int .i64 l[j].1) rfl
        have d1 := hcl 1 (.int .i64 l[j].2) rfl
        simp only [Nat.add_zero] at d0
        have zc : c < wr.heap.size := by omega
        have hx := hr.2 _ (List.getElem_mem hlt)
        have hxi := (HI.out _ (List.getElem_mem hlt)).1
        have e1 := sumR_take_succ hlt
        have e2 := sumR_take_le hr (j + 1)
        have e5 := weighR_le (l := u) (f := inLow a b) (hr.take j)
        have e6 := weighR_le (l := u) (f := inHigh a b) (hr.take j)
        have E7 : betwLow u (l.take (j + 1)) a b = _ := weighR_take hlt
        have E8 : betwHigh u (l.take (j + 1)) a b = _ := weighR_take hlt
        have i1 : (j : Int) < (l.length : Int) := by omega
        unfold betwLow at N2 E7 cc hm2 ⊢
        unfold betwHigh at N2 E8 cc hm2 ⊢
        obtain ⟨x, hxe⟩ : ∃ x, x = l[j] := ⟨_, rfl⟩
        rw [← hxe] at d0 d1 hx hxi e1 E7 E8
        have n2 : weighR u (inLow a b) (l.take j) + x.2 ≤ 72057594037927935 := by omega
        have n3 : weighR u (inHigh a b) (l.take j) + x.2 ≤ 72057594037927935 := by omega
        have n0 := e5.1
        have n1 := e6.1
        have hx2 := hx.2
        have HE := Lib.hid (ref2_Ends · u x.1 hxi.2)
        generalize weighR u (inLow a b) (l.take j) = m at n0 n2 E7 N2 cc hm2
        generalize weighR u (inHigh a b) (l.take j) = n at n1 n3 E8 N2 cc hm2
        generalize endsOf u x.1 = t at E7 E8 HE
        obtain ⟨lo, hi, ok⟩ := t
        unfold endsV at HE
        simp only [inLow, inHigh] at E7 E8
        have E7 := Lib.hid E7
        have E8 := Lib.hid E8
        clear hcl e1 e2 e5 e6 hxe hx hxi hm0 hm1 hm2
        rcases three (a ≤ lo) (hi ≤ b) with ⟨k1, k2⟩ | ⟨k1, k2⟩ | k1
        all_goals rcases three (lo ≤ b) (a ≤ hi) with ⟨k3, k4⟩ | ⟨k3, k4⟩ | k3
        all_goals (
          go_wp2_with fail
          refine wp_region_ext (by kernel_rfl) (by kernel_rfl) ?_
          repeat (go_big_quiet_step ((go_at_call 65; exact quiet_ext (HE.out _))))
          refine wpQuiet_nil ?_
          intro w1 hb1
          replace hb1 := below_of_ext hb1
          have B1 : Below w.heap.size w w1 := Below.then_ (by repeat (first | with_reducible exact Below.refl _ _ | with_reducible assumption | ((with_reducible refine Below.setCell ?_ ?_ _); rotate_left; · (first | omega | exact Nat.le_refl _ | (simp <;> omega))) | (with_reducible refine Below.allocW ?_ _) | (with_reducible refine Below.drew ?_) | (with_reducible refine Below.extW ?_ _))) hb1
          have s1 : w.heap.size ≤ w1.heap.size := B1.size
          have z1_0 : c < w1.heap.size := by have := hb1.size; (try simp at this); omega
          have y1_0 : c ≤ w1.heap.size := Nat.le_of_lt z1_0
          have c1_0 := fun o => hb1.cell (p := ⟨c, o, none⟩) (by first | omega | (simp <;> omega))
          have f1_0 := fun o => hb1.frozen (p := ⟨c, o, none⟩) (by first | omega | (simp <;> omega))
          have l0 := blk_below N0.out hb1
          have l2 := N2.out.below hb1
          have L0 := Lib.hid l0
          have L1 := Lib.hid (N1.out.below hb1)
          have L2 := Lib.hid l2
          have cb1 := blk_cell l0
          have cc1 := blk_cell l2
          have cf1 := blk_frozen l2
          have zl2 := lt_of_block l2
          have zl0 := lt_of_block l0
          have hne0 : w.heap.size ≠ w.heap.size + 1 + 1 := by omega
          have hne1 : w.heap.size + 1 ≠ w.heap.size + 1 + 1 := by omega
          clear l0 l2 hb1 cb cc cf
          go_wp2_with fail
          try (go_region; go_wp2_with fail)
          try (go_region; go_wp2_with fail)
          have F7 := E7.out
          have F8 := E8.out
          first
            | simp [k1, k2] at F7
            | simp [k1] at F7
          first
            | simp [k3, k4] at F8
            | simp [k3] at F8
          have f7 := Lib.hid F7
          have f8 := Lib.hid F8
          clear F7 F8
          go_roundw
          case rel =>
            refine ⟨j + 1, by omega, by go_num, ?_, ?_, ?_, (by repeat (first | with_reducible exact Below.refl _ _ | with_reducible assumption | ((with_reducible refine Below.setCell ?_ ?_ _); rotate_left; · (first | omega | exact Nat.le_refl _ | (simp <;> omega))) | (with_reducible refine Below.allocW ?_ _) | (with_reducible refine Below.drew ?_) | (with_reducible refine Below.extW ?_ _)))⟩
            · try simp only [drew_heap]
              first
                | exact L0.out
                | exact (Below.heap_setCell _ _ _ _ hne0).trans L0.out
                | exact (Below.heap_setCell _ _ _ _ hne0).trans ((Below.heap_setCell _ _ _ _ hne0).trans L0.out)
            · first
                | exact L1.out
                | exact (L1.out.set hne1 _).drew
                | exact ((L1.out.set hne1 _).set hne1 _).drew.drew
            · rw [f7.out, f8.out]
              first
                | exact L2.out
                | exact (L2.out.set0 _).drew
                | exact (L2.out.set1 _).drew
                | exact ((L2.out.set0 _).set1 _).drew.drew
          case measure => simp [intOf]; omega)
      · obtain rfl : j = l.length := by omega
        rw [List.take_length] at N2 hm2 cc
        have cf1 := blk_frozen hm1
        have cc1 := blk_cell hm1
        have zn1 := lt_of_block hm1
        clear hm0 hm1 hm2
        go_wp2_with fail
        exact bodyPost_ret (v := .tuple #[.agg #[.int .i64 (betwLow u l a b), .int .i64 (betwHigh u l a b)], .int .i64 0]) (by simp only [results, Tryz.results101]; go_simp) rfl ⟨rfl, (by repeat (first | with_reducible exact Below.refl _ _ | with_reducible assumption | ((with_reducible refine Below.setCell ?_ ?_ _); rotate_left; · (first | omega | exact Nat.le_refl _ | (simp <;> omega))) | (with_reducible refine Below.allocW ?_ _) | (with_reducible refine Below.drew ?_) | (with_reducible refine Below.extW ?_ _)))⟩
end Go.Proofs.YtbmmkhbdcaokkaaGreat
/- Edges of bins: package bins, and the reference of layer 19: Right. -/
namespace Go.Proofs.YtbmmkhbdcaokkaaGreat
open Go.ChangeShapes Go.WideShapes Go.ChangeAt Go.RowKit
set_option linter.unusedVariables false
set_option maxRecDepth 100000

theorem isNode_one {l : Nat} (h1 : 1 ≤ l) (h2 : l ≤ 48) : isNode l 1 = true := by
  have := pow_pos' l
  simp only [isNode, decide_eq_true_eq, Int.toNat_natCast]; omega
/-- One edge more. -/
theorem right_step {l : Nat} {es : List Int} {q : Nat} (h : q < es.length) :
    (isVal l es[q] = true ∧ (q = 0 ∨ prevE es q < es[q]) → rightE l (prevE es q) (es.drop q) = rightE l (prevE es (q + 1)) (es.drop (q + 1))) ∧
    (isVal l es[q] = false ∨ (0 < q ∧ es[q] ≤ prevE es q) → rightE l (prevE es q) (es.drop q) = false) := by
  rw [rightE_drop h]
  unfold isVal
  constructor
  · rintro ⟨h1, h2⟩
    simp only [Bool.and_eq_true, decide_eq_true_eq] at h1
    have : prevE es q < es[q] := by
      rcases h2 with rfl | h2
      · unfold prevE; simp; omega
      · exact h2
    simp [h1.1, h1.2, this]
  · rintro (h1 | ⟨h1, h2⟩)
    · rw [h1]; simp
    · have : decide (prevE es q < es[q]) = false := by simp; omega
      rw [this]; simp
set_option maxHeartbeats 1000000 in
theorem bins_Right (w : World) (l : Nat) (A : Option Addr) (cap : Nat) (es : List Int) (h1 : 1 ≤ l) (h2 : l ≤ 48) (hS : Sl w w.heap.size encZ A es) (hm : es.length ≤ 67108864) :
    Calls Tryz.prog 30 #[.int .i64 l, .slice A es.length cap] w fun e w' => e = .returned (.bool (rightE l (-1) es)) ∧ Below w.heap.size w w' := by
  have HS := Lib.hid hS
  have HL := Lib.hid (twig_Leaf · l · h1 h2)
  have HU := Lib.hid (isNode_one h1 h2)
  have HR := Lib.hid (show rightE l (-1) es = rightE l (prevE es 0) (es.drop 0) by simp [prevE])
  clear hS
  go_enter Tryz.func30, Tryz.ntmps30
  go_wp2_with fail
  go_loopw [11] (fun i wr => ∃ q : Nat, q ≤ es.length ∧ i = .int .i64 q ∧ rightE l (-1) es = rightE l (prevE es q) (es.drop q) ∧ Below w.heap.size w wr) (fun i _ => es.length - (intOf i).toNat)
  case atStart => exact ⟨0, Nat.zero_le _, rfl, HR.out, Below.refl _ _⟩
  case round =>
    obtain ⟨q, hq, rfl, hr, hB⟩ := hrel
    have hsz := hB.size
    by_cases hlt : q < es.length
    · obtain ⟨b, off, rfl, hb, hc⟩ := HS.out.at_ hlt
      have d0 := (hB.cell (p := ⟨b, off + q, none⟩) hb).trans (by have := hc 0 (.int .i64 es[q]) rfl; simpa using this)
      have lb : b < wr.heap.size := Nat.lt_of_lt_of_le hb hsz
      obtain ⟨g1, g2⟩ := right_step (l := l) hlt
      have dp : 0 < q → wr.cell? ⟨b, off + (q - 1), none⟩ = some (.int .i64 (prevE es q)) := fun h0 => by
        rcases HS.out with h | ⟨b', off', hA, _, hc'⟩
        · subst h; simp at hlt
        cases hA
        rw [prevE_at (by omega) h0]
        exact (hB.cell (p := ⟨b, off + (q - 1), none⟩) hb).trans (by have := hc' (q - 1) _ (List.getElem?_eq_getElem (show q - 1 < es.length by omega)) 0 (.int .i64 es[q - 1]) rfl; simpa using this)
      obtain ⟨x, hx⟩ : ∃ x, x = es[q] := ⟨_, rfl⟩
      rw [← hx] at d0 g1 g2
      have HX := Lib.hid (HL.out · x)
      have G1 := Lib.hid (fun h => hr.trans (g1 h))
      have G2 := Lib.hid (fun h => hr.trans (g2 h))
      clear hc hx hr g1 g2
      cases hv : isVal l x
      · have HF := Lib.hid (G2.out (.inl hv))
        rw [leafV_no hv] at HX
        clear hv dp
        go_wp2_with fail
        refine (HX.out _).mono ?_
        rintro e w1 ⟨rfl, hb1⟩
        have B1 : Below w.heap.size w w1 := Below.then_ (by repeat (first | with_reducible exact Below.refl _ _ | with_reducible assumption | ((with_reducible refine Below.setCell ?_ ?_ _); rotate_left; · (first | omega | exact Nat.le_refl _ | (simp <;> omega))) | (with_reducible refine Below.allocW ?_ _) | (with_reducible refine Below.drew ?_) | (with_reducible refine Below.extW ?_ _))) hb1
        have s1 : w.heap.size ≤ w1.heap.size := B1.size
        go_wp2_with fail
        go_ret
        exact ⟨by rw [HF.out]; rfl, (by repeat (first | with_reducible exact Below.refl _ _ | with_reducible assumption | ((with_reducible refine Below.setCell ?_ ?_ _); rotate_left; · (first | omega | exact Nat.le_refl _ | (simp <;> omega))) | (with_reducible refine Below.allocW ?_ _) | (with_reducible refine Below.drew ?_) | (with_reducible refine Below.extW ?_ _)))⟩
      · rw [leafV_yes hv] at HX
        rcases Nat.eq_zero_or_pos q with rfl | h0
        · have HF := Lib.hid (G1.out ⟨hv, .inl rfl⟩)
          simp only [Nat.add_zero] at d0
          clear hv dp
          go_wp2_with fail
          refine (HX.out _).mono ?_
          rintro e w1 ⟨rfl, hb1⟩
          have B1 : Below w.heap.size w w1 := Below.then_ (by repeat (first | with_reducible exact Below.refl _ _ | with_reducible assumption | ((with_reducible refine Below.setCell ?_ ?_ _); rotate_left; · (first | omega | exact Nat.le_refl _ | (simp <;> omega))) | (with_reducible refine Below.allocW ?_ _) | (with_reducible refine Below.drew ?_) | (with_reducible refine Below.extW ?_ _))) hb1
          have s1 : w.heap.size ≤ w1.heap.size := B1.size
          go_wp2_with fail
          go_roundw
          case rel => exact ⟨1, by omega, by go_num, HF.out, (by repeat (first | with_reducible exact Below.refl _ _ | with_reducible assumption | ((with_reducible refine Below.setCell ?_ ?_ _); rotate_left; · (first | omega | exact Nat.le_refl _ | (simp <;> omega))) | (with_reducible refine Below.allocW ?_ _) | (with_reducible refine Below.drew ?_) | (with_reducible refine Below.extW ?_ _)))⟩
          case measure => simp [intOf]; omega
        · have d1 := dp h0
          have i0 : (0 : Int) < (q : Int) := by omega
          have i1 : (q : Int) - 1 = ((q - 1 : Nat) : Int) := by omega
          have i2 : ((q : Int) - 1) < (es.length : Int) := by omega
          have i3 : 0 ≤ (q : Int) - 1 := by omega
          obtain ⟨q', rfl⟩ : ∃ q', q = q' + 1 := ⟨q - 1, by omega⟩
          simp only [Nat.add_sub_cancel] at d1
          have hql : q' + 1 < 67108864 := by omega
          by_cases hle : x ≤ prevE es (q' + 1)
          · have HF := Lib.hid (G2.out (.inr ⟨h0, hle⟩))
            clear hv dp
            generalize prevE es (q' + 1) = p at d1 hle
            go_wp2_with fail
            refine (HX.out _).mono ?_
            rintro e w1 ⟨rfl, hb1⟩
            have B1 : Below w.heap.size w w1 := Below.then_ (by repeat (first | with_reducible exact Below.refl _ _ | with_reducible assumption | ((with_reducible refine Below.setCell ?_ ?_ _); rotate_left; · (first | omega | exact Nat.le_refl _ | (simp <;> omega))) | (with_reducible refine Below.allocW ?_ _) | (with_reducible refine Below.drew ?_) | (with_reducible refine Below.extW ?_ _))) hb1
            have s1 : w.heap.size ≤ w1.heap.size := B1.size
            have d2 := (hb1.cell (p := ⟨b, off + q', none⟩) lb).trans d1
            have lb2 := Nat.lt_of_lt_of_le lb hb1.size
            go_wp2_with fail
            go_ret
            exact ⟨by rw [HF.out]; rfl, (by repeat (first | with_reducible exact Below.refl _ _ | with_reducible assumption | ((with_reducible refine Below.setCell ?_ ?_ _); rotate_left; · (first | omega | exact Nat.le_refl _ | (simp <;> omega))) | (with_reducible refine Below.allocW ?_ _) | (with_reducible refine Below.drew ?_) | (with_reducible refine Below.extW ?_ _)))⟩
          · have HF := Lib.hid (G1.out ⟨hv, .inr (by omega)⟩)
            have hn : decide (x ≤ prevE es (q' + 1)) = false := by simpa using hle
            clear hv dp
            generalize prevE es (q' + 1) = p at d1 hle hn
            go_wp2_with fail
            refine (HX.out _).mono ?_
            rintro e w1 ⟨rfl, hb1⟩
            have B1 : Below w.heap.size w w1 := Below.then_ (by repeat (first | with_reducible exact Below.refl _ _ | with_reducible assumption | ((with_reducible refine Below.setCell ?_ ?_ _); rotate_left; · (first | omega | exact Nat.le_refl _ | (simp <;> omega))) | (with_reducible refine Below.allocW ?_ _) | (with_reducible refine Below.drew ?_) | (with_reducible refine Below.extW ?_ _))) hb1
            have s1 : w.heap.size ≤ w1.heap.size := B1.size
            have d2 := (hb1.cell (p := ⟨b, off + q', none⟩) lb).trans d1
            have lb2 := Nat.lt_of_lt_of_le lb hb1.size
            go_wp2_with fail
            go_roundw
            case rel => exact ⟨q' + 1 + 1, by omega, by go_num, HF.out, (by repeat (first | with_reducible exact Below.refl _ _ | with_reducible assumption | ((with_reducible refine Below.setCell ?_ ?_ _); rotate_left; · (first | omega | exact Nat.le_refl _ | (simp <;> omega))) | (with_reducible refine Below.allocW ?_ _) | (with_reducible refine Below.drew ?_) | (with_reducible refine Below.extW ?_ _)))⟩
            case measure => simp [intOf]; omega
    · obtain rfl : q = es.length := by omega
      rw [List.drop_length] at hr
      have HF := Lib.hid (show rightE l (-1) es = true from hr)
      clear hr
      go_wp2_with fail
      refine (twig_Right _ l 1).mono ?_
      rintro e w1 ⟨rfl, hb1⟩
      have B1 : Below w.heap.size w w1 := Below.then_ (by repeat (first | with_reducible exact Below.refl _ _ | with_reducible assumption | ((with_reducible refine Below.setCell ?_ ?_ _); rotate_left; · (first | omega | exact Nat.le_refl _ | (simp <;> omega))) | (with_reducible refine Below.allocW ?_ _) | (with_reducible refine Below.drew ?_) | (with_reducible refine Below.extW ?_ _))) hb1
      have s1 : w.heap.size ≤ w1.heap.size := B1.size
      rw [HU.out]
      go_wp2_with fail
      go_ret
      exact ⟨by rw [HF.out]; rfl, (by repeat (first | with_reducible exact Below.refl _ _ | with_reducible assumption | ((with_reducible refine Below.setCell ?_ ?_ _); rotate_left; · (first | omega | exact Nat.le_refl _ | (simp <;> omega))) | (with_reducible refine Below.allocW ?_ _) | (with_reducible refine Below.drew ?_) | (with_reducible refine Below.extW ?_ _)))⟩
set_option maxHeartbeats 1000000 in
theorem ref19_Right (w : World) (l : Nat) (A : Option Addr) (cap : Nat) (es : List Int) (h1 : 1 ≤ l) (h2 : l ≤ 48) (hS : Sl w w.heap.size encZ A es) (hm : es.length ≤ 67108864) :
    Calls Tryz.prog 31 #[.int .i64 l, .slice A es.length cap] w fun e w' => e = .returned (.bool (rightE l (-1) es)) ∧ Below w.heap.size w w' := by
  have HS := Lib.hid hS
  have HL := Lib.hid (ref2_Leaf · l · h1 h2)
  have HU := Lib.hid (show decide (1 ≤ (l : Int) ∧ (l : Int) ≤ 48) = true by simp; omega)
  have HR := Lib.hid (show rightE l (-1) es = rightE l (prevE es 0) (es.drop 0) by simp [prevE])
  clear hS
  go_enter Tryz.func31, Tryz.ntmps31
  go_wp2_with fail
  go_loopw [5] (fun i wr => ∃ q : Nat, q ≤ es.length ∧ i = .int .i64 q ∧ rightE l (-1) es = rightE l (prevE es q) (es.drop q) ∧ Below w.heap.size w wr) (fun i _ => es.length - (intOf i).toNat)
  case atStart => exact ⟨0, Nat.zero_le _, rfl, HR.out, Below.refl _ _⟩
  case round =>
    obtain ⟨q, hq, rfl, hr, hB⟩ := hrel
    have hsz := hB.size
    by_cases hlt : q < es.length
    · obtain ⟨b, off, rfl, hb, hc⟩ := HS.out.at_ hlt
      have d0 := (hB.cell (p := ⟨b, off + q, none⟩) hb).trans (by have := hc 0 (.int .i64 es[q]) rfl; simpa using this)
      have lb : b < wr.heap.size := Nat.lt_of_lt_of_le hb hsz
      obtain ⟨g1, g2⟩ := right_step (l := l) hlt
      have dp : 0 < q → wr.cell? ⟨b, off + (q - 1), none⟩ = some (.int .i64 (prevE es q)) := fun h0 => by
        rcases HS.out with h | ⟨b', off', hA, _, hc'⟩
        · subst h; simp at hlt
        cases hA
        rw [prevE_at (by omega) h0]
        exact (hB.cell (p := ⟨b, off + (q - 1), none⟩) hb).trans (by have := hc' (q - 1) _ (List.getElem?_eq_getElem (show q - 1 < es.length by omega)) 0 (.int .i64 es[q - 1]) rfl; simpa using this)
      obtain ⟨x, hx⟩ : ∃ x, x = es[q] := ⟨_, rfl⟩
      rw [← hx] at d0 g1 g2
      have HX := Lib.hid (HL.out · x)
      have G1 := Lib.hid (fun h => hr.trans (g1 h))
      have G2 := Lib.hid (fun h => hr.trans (g2 h))
      clear hc hx hr g1 g2
      cases hv : isVal l x
      · have HF := Lib.hid (G2.out (.inl hv))
        rw [leafV_no hv] at HX
        clear hv dp
        go_wp2_with fail
        refine (HX.out _).mono ?_
        rintro e w1 ⟨rfl, hb1⟩
        have B1 : Below w.heap.size w w1 := Below.then_ (by repeat (first | with_reducible exact Below.refl _ _ | with_reducible assumption | ((with_reducible refine Below.setCell ?_ ?_ _); rotate_left; · (first | omega | exact Nat.le_refl _ | (simp <;> omega))) | (with_reducible refine Below.allocW ?_ _) | (with_reducible refine Below.drew ?_) | (with_reducible refine Below.extW ?_ _))) hb1
        have s1 : w.heap.size ≤ w1.heap.size := B1.size
        have d9 := (hb1.cell (p := ⟨b, off + q, none⟩) lb).trans d0
        have lb2 := Nat.lt_of_lt_of_le lb hb1.size
        go_wp2_with fail
        refine wp_region_ext (by kernel_rfl) (by kernel_rfl) ?_
        repeat (go_big_quiet_step (fail))
        refine wpQuiet_nil ?_
        intro w2 hb2
        replace hb2 := below_of_ext hb2
        have B2 : Below w.heap.size w w2 := Below.then_ (by repeat (first | with_reducible exact Below.refl _ _ | with_reducible assumption | ((with_reducible refine Below.setCell ?_ ?_ _); rotate_left; · (first | omega | exact Nat.le_refl _ | (simp <;> omega))) | (with_reducible refine Below.allocW ?_ _) | (with_reducible refine Below.drew ?_) | (with_reducible refine Below.extW ?_ _))) hb2
        have s2 : w.heap.size ≤ w2.heap.size := B2.size
        go_wp2_with fail
        go_ret
        exact ⟨by rw [HF.out]; rfl, (by repeat (first | with_reducible exact Below.refl _ _ | with_reducible assumption | ((with_reducible refine Below.setCell ?_ ?_ _); rotate_left; · (first | omega | exact Nat.le_refl _ | (simp <;> omega))) | (with_reducible refine Below.allocW ?_ _) | (with_reducible refine Below.drew ?_) | (with_reducible refine Below.extW ?_ _)))⟩
      · rw [leafV_yes hv] at HX
        rcases Nat.eq_zero_or_pos q with rfl | h0
        · have HF := Lib.hid (G1.out ⟨hv, .inl rfl⟩)
          simp only [Nat.add_zero] at d0
          clear hv dp
          go_wp2_with fail
          refine (HX.out _).mono ?_
          rintro e w1 ⟨rfl, hb1⟩
          have B1 : Below w.heap.size w w1 := Below.then_ (by repeat (first | with_reducible exact Below.refl _ _ | with_reducible assumption | ((with_reducible refine Below.setCell ?_ ?_ _); rotate_left; · (first | omega | exact Nat.le_refl _ | (simp <;> omega))) | (with_reducible refine Below.allocW ?_ _) | (with_reducible refine Below.drew ?_) | (with_reducible refine Below.extW ?_ _))) hb1
          have s1 : w.heap.size ≤ w1.heap.size := B1.size
          go_wp2_with fail
          refine wp_region_ext (by kernel_rfl) (by kernel_rfl) ?_
          repeat (go_big_quiet_step (fail))
          refine wpQuiet_nil ?_
          intro w2 hb2
          replace hb2 := below_of_ext hb2
          have B2 : Below w.heap.size w w2 := Below.then_ (by repeat (first | with_reducible exact Below.refl _ _ | with_reducible assumption | ((with_reducible refine Below.setCell ?_ ?_ _); rotate_left; · (first | omega | exact Nat.le_refl _ | (simp <;> omega))) | (with_reducible refine Below.allocW ?_ _) | (with_reducible refine Below.drew ?_) | (with_reducible refine Below.extW ?_ _))) hb2
          have s2 : w.heap.size ≤ w2.heap.size := B2.size
          go_wp2_with fail
          go_roundw
          case rel => exact ⟨1, by omega, by go_num, HF.out, (by repeat (first | with_reducible exact Below.refl _ _ | with_reducible assumption | ((with_reducible refine Below.setCell ?_ ?_ _); rotate_left; · (first | omega | exact Nat.le_refl _ | (simp <;> omega))) | (with_reducible refine Below.allocW ?_ _) | (with_reducible refine Below.drew ?_) | (with_reducible refine Below.extW ?_ _)))⟩
          case measure => simp [intOf]; omega
        · have d1 := dp h0
          have i0 : (0 : Int) < (q : Int) := by omega
          obtain ⟨q', rfl⟩ : ∃ q', q = q' + 1 := ⟨q - 1, by omega⟩
          simp only [Nat.add_sub_cancel] at d1
          have hql : q' + 1 < 67108864 := by omega
          by_cases hle : x ≤ prevE es (q' + 1)
          · have HF := Lib.hid (G2.out (.inr ⟨h0, hle⟩))
            clear hv dp
            generalize prevE es (q' + 1) = p at d1 hle
            go_wp2_with fail
            refine (HX.out _).mono ?_
            rintro e w1 ⟨rfl, hb1⟩
            have B1 : Below w.heap.size w w1 := Below.then_ (by repeat (first | with_reducible exact Below.refl _ _ | with_reducible assumption | ((with_reducible refine Below.setCell ?_ ?_ _); rotate_left; · (first | omega | exact Nat.le_refl _ | (simp <;> omega))) | (with_reducible refine Below.allocW ?_ _) | (with_reducible refine Below.drew ?_) | (with_reducible refine Below.extW ?_ _))) hb1
            have s1 : w.heap.size ≤ w1.heap.size := B1.size
            have d2 := (hb1.cell (p := ⟨b, off + q', none⟩) lb).trans d1
            have d3 := (hb1.cell (p := ⟨b, off + (q' + 1), none⟩) lb).trans d0
            have lb2 := Nat.lt_of_lt_of_le lb hb1.size
            go_wp2_with fail
            refine wp_region_ext (by kernel_rfl) (by kernel_rfl) ?_
            repeat (go_big_quiet_step (fail))
            refine wpQuiet_nil ?_
            intro w2 hb2
            replace hb2 := below_of_ext hb2
            have B2 : Below w.heap.size w w2 := Below.then_ (by repeat (first | with_reducible exact Below.refl _ _ | with_reducible assumption | ((with_reducible refine Below.setCell ?_ ?_ _); rotate_left; · (first | omega | exact Nat.le_refl _ | (simp <;> omega))) | (with_reducible refine Below.allocW ?_ _) | (with_reducible refine Below.drew ?_) | (with_reducible refine Below.extW ?_ _))) hb2
            have s2 : w.heap.size ≤ w2.heap.size := B2.size
            go_wp2_with fail
            go_ret
            exact ⟨by rw [HF.out]; rfl, (by repeat (first | with_reducible exact Below.refl _ _ | with_reducible assumption | ((with_reducible refine Below.setCell ?_ ?_ _); rotate_left; · (first | omega | exact Nat.le_refl _ | (simp <;> omega))) | (with_reducible refine Below.allocW ?_ _) | (with_reducible refine Below.drew ?_) | (with_reducible refine Below.extW ?_ _)))⟩
          · have HF := Lib.hid (G1.out ⟨hv, .inr (by omega)⟩)
            have hn : decide (x ≤ prevE es (q' + 1)) = false := by simpa using hle
            clear hv dp
            generalize prevE es (q' + 1) = p at d1 hle hn
            go_wp2_with fail
            refine (HX.out _).mono ?_
            rintro e w1 ⟨rfl, hb1⟩
            have B1 : Below w.heap.size w w1 := Below.then_ (by repeat (first | with_reducible exact Below.refl _ _ | with_reducible assumption | ((with_reducible refine Below.setCell ?_ ?_ _); rotate_left; · (first | omega | exact Nat.le_refl _ | (simp <;> omega))) | (with_reducible refine Below.allocW ?_ _) | (with_reducible refine Below.drew ?_) | (with_reducible refine Below.extW ?_ _))) hb1
            have s1 : w.heap.size ≤ w1.heap.size := B1.size
            have d2 := (hb1.cell (p := ⟨b, off + q', none⟩) lb).trans d1
            have d3 := (hb1.cell (p := ⟨b, off + (q' + 1), none⟩) lb).trans d0
            have lb2 := Nat.lt_of_lt_of_le lb hb1.size
            go_wp2_with fail
            refine wp_region_ext (by kernel_rfl) (by kernel_rfl) ?_
            repeat (go_big_quiet_step (fail))
            refine wpQuiet_nil ?_
            intro w2 hb2
            replace hb2 := below_of_ext hb2
            have B2 : Below w.heap.size w w2 := Below.then_ (by repeat (first | with_reducible exact Below.refl _ _ | with_reducible assumption | ((with_reducible refine Below.setCell ?_ ?_ _); rotate_left; · (first | omega | exact Nat.le_refl _ | (simp <;> omega))) | (with_reducible refine Below.allocW ?_ _) | (with_reducible refine Below.drew ?_) | (with_reducible refine Below.extW ?_ _))) hb2
            have s2 : w.heap.size ≤ w2.heap.size := B2.size
            go_wp2_with fail
            go_roundw
            case rel => exact ⟨q' + 1 + 1, by omega, by go_num, HF.out, (by repeat (first | with_reducible exact Below.refl _ _ | with_reducible assumption | ((with_reducible refine Below.setCell ?_ ?_ _); rotate_left; · (first | omega | exact Nat.le_refl _ | (simp <;> omega))) | (with_reducible refine Below.allocW ?_ _) | (with_reducible refine Below.drew ?_) | (with_reducible refine Below.extW ?_ _)))⟩
            case measure => simp [intOf]; omega
    · obtain rfl : q = es.length := by omega
      rw [List.drop_length] at hr
      have HF := Lib.hid (show rightE l (-1) es = true from hr)
      clear hr
      go_wp2_with fail
      refine (ref2_Is _ l).mono ?_
      rintro e w1 ⟨rfl, hb1⟩
      have B1 : Below w.heap.size w w1 := Below.then_ (by repeat (first | with_reducible exact Below.refl _ _ | with_reducible assumption | ((with_reducible refine Below.setCell ?_ ?_ _); rotate_left; · (first | omega | exact Nat.le_refl _ | (simp <;> omega))) | (with_reducible refine Below.allocW ?_ _) | (with_reducible refine Below.drew ?_) | (with_reducible refine Below.extW ?_ _))) hb1
      have s1 : w.heap.size ≤ w1.heap.size := B1.size
      rw [HU.out]
      go_wp2_with fail
      go_ret
      exact ⟨by rw [HF.out]; rfl, (by repeat (first | with_reducible exact Below.refl _ _ | with_reducible assumption | ((with_reducible refine Below.setCell ?_ ?_ _); rotate_left; · (first | omega | exact Nat.le_refl _ | (simp <;> omega))) | (with_reducible refine Below.allocW ?_ _) | (with_reducible refine Below.drew ?_) | (with_reducible refine Below.extW ?_ _)))⟩
/-- Why there are no bins. -/
def binErr (l : Nat) (es : List Int) : Int := if rightE l (-1) es = true then 0 else 8
theorem bins_wrong_nil (w : World) (v : Value) : Calls Tryz.prog 77 #[.pointer none, v] w fun e w' => e = .returned (.int .i64 1) ∧ Below w.heap.size w w' := by
  go_enter Tryz.func77, Tryz.ntmps77
  go_wp2_with fail
  go_ret
  exact ⟨rfl, (by repeat (first | with_reducible exact Below.refl _ _ | with_reducible assumption | ((with_reducible refine Below.setCell ?_ ?_ _); rotate_left; · (first | omega | exact Nat.le_refl _ | (simp <;> omega))) | (with_reducible refine Below.allocW ?_ _) | (with_reducible refine Below.drew ?_) | (with_reducible refine Below.extW ?_ _)))⟩
theorem bins_wrong (w : World) (g K l : Nat) (k : Int) (r : List Nd) (F : Nat → Prop) (A : Option Addr) (cap : Nat) (es : List Int) (h : DigAt w g K l k r F) (hS : Sl w w.heap.size encZ A es) (hm : es.length ≤ 67108864) :
    Calls Tryz.prog 77 #[.pointer (some ⟨g, 0, none⟩), .slice A es.length cap] w fun e w' => e = .returned (.int .i64 (binErr l es)) ∧ Below w.heap.size w w' := by
  have hl := h.l_le
  have HD := Lib.hid h
  have HS := Lib.hid hS
  have HR := Lib.hid (bins_Right · l A cap es hl.1 hl.2 · hm)
  unfold binErr
  clear h hS
  cases hr : rightE l (-1) es
  all_goals (
    rw [hr] at HR
    clear hr
    go_enter Tryz.func77, Tryz.ntmps77
    go_wp2_with fail
    refine (digest_Conf _ g K l k r F HD.out).mono ?_
    rintro e w1 ⟨rfl, hb1⟩
    have B1 : Below w.heap.size w w1 := Below.then_ (by repeat (first | with_reducible exact Below.refl _ _ | with_reducible assumption | ((with_reducible refine Below.setCell ?_ ?_ _); rotate_left; · (first | omega | exact Nat.le_refl _ | (simp <;> omega))) | (with_reducible refine Below.allocW ?_ _) | (with_reducible refine Below.drew ?_) | (with_reducible refine Below.extW ?_ _))) hb1
    have s1 : w.heap.size ≤ w1.heap.size := B1.size
    go_wp2_with fail
    refine (HR.out _ (HS.out.keep s1 fun p hp => B1.cell hp)).mono ?_
    rintro e w2 ⟨rfl, hb2⟩
    have B2 : Below w.heap.size w w2 := Below.then_ (by repeat (first | with_reducible exact Below.refl _ _ | with_reducible assumption | ((with_reducible refine Below.setCell ?_ ?_ _); rotate_left; · (first | omega | exact Nat.le_refl _ | (simp <;> omega))) | (with_reducible refine Below.allocW ?_ _) | (with_reducible refine Below.drew ?_) | (with_reducible refine Below.extW ?_ _))) hb2
    have s2 : w.heap.size ≤ w2.heap.size := B2.size
    go_wp2_with fail
    go_ret
    exact ⟨rfl, (by repeat (first | with_reducible exact Below.refl _ _ | with_reducible assumption | ((with_reducible refine Below.setCell ?_ ?_ _); rotate_left; · (first | omega | exact Nat.le_refl _ | (simp <;> omega))) | (with_reducible refine Below.allocW ?_ _) | (with_reducible refine Below.drew ?_) | (with_reducible refine Below.extW ?_ _)))⟩)
end Go.Proofs.YtbmmkhbdcaokkaaGreat
/- Package bound: each: a function value called for all nodes. -/
namespace Go.Proofs.YtbmmkhbdcaokkaaGreat
open Go.ChangeShapes Go.WideShapes Go.ChangeAt Go.RowKit
set_option linter.unusedVariables false
set_option maxRecDepth 100000

/-- What is so of the world behind so many nodes: it stays where only new blocks come. -/
structure Stays (I : Nat → World → Prop) : Prop where
  st : ∀ q W W', I q W → Below W.heap.size W W' → I q W'
set_option maxHeartbeats 1000000 in
theorem bound_each (w : World) (g K l : Nat) (k : Int) (r : List Nd) (F : Nat → Prop) (h : DigAt w g K l k r F) (hn : r.length ≤ 67108864)
    (fn : Nat) (caps : Array Value) (eg : ∀ args W, (callFunc fn args).run Tryz.prog W = .ok (.enter fn args) W)
    (I : Nat → World → Prop) (hI : Stays I) (h0 : I 0 w)
    (step : ∀ (q : Nat) (hq : q < r.length) (W : World), I q W → Calls Tryz.prog fn (#[.int .i64 (endsOf l r[q].1).1, .int .i64 (endsOf l r[q].1).2.1, .int .i64 r[q].2] ++ caps) W fun e W' => e = .returned (.tuple #[]) ∧ I (q + 1) W' ∧ KeepN W W') :
    Calls Tryz.prog 87 #[.pointer (some ⟨g, 0, none⟩), .func (.func fn) #[] caps] w fun e w' => e = .returned (.tuple #[]) ∧ I r.length w' ∧ w.heap.size ≤ w'.heap.size := by
  have hf := h.fits
  have hll := h.l_le
  have HD := Lib.hid h
  have H0 := Lib.hid h0
  have HS := Lib.hid step
  clear h h0 step
  go_enter Tryz.func87, Tryz.ntmps87
  go_wp2_with fail
  refine (digest_Conf _ g K l k r F HD.out).mono ?_
  rintro e w1 ⟨rfl, hb1⟩
  have B1 : Below w.heap.size w w1 := Below.then_ (by repeat (first | with_reducible exact Below.refl _ _ | with_reducible assumption | ((with_reducible refine Below.setCell ?_ ?_ _); rotate_left; · (first | omega | exact Nat.le_refl _ | (simp <;> omega))) | (with_reducible refine Below.allocW ?_ _) | (with_reducible refine Below.drew ?_) | (with_reducible refine Below.extW ?_ _))) hb1
  have s1 : w.heap.size ≤ w1.heap.size := B1.size
  go_wp2_with fail
  refine (digest_Nodes _ g K l k r F (HD.out.below B1) hn).mono ?_
  rintro e w2 ⟨v, rfl, ho, hb2⟩
  have B2 : Below w.heap.size w w2 := Below.then_ (by repeat (first | with_reducible exact Below.refl _ _ | with_reducible assumption | ((with_reducible refine Below.setCell ?_ ?_ _); rotate_left; · (first | omega | exact Nat.le_refl _ | (simp <;> omega))) | (with_reducible refine Below.allocW ?_ _) | (with_reducible refine Below.drew ?_) | (with_reducible refine Below.extW ?_ _))) hb2
  have s2 : w.heap.size ≤ w2.heap.size := B2.size
  have HO := Lib.hid ho
  have H2 := Lib.hid (hI.st 0 w w2 H0.out B2)
  obtain ⟨A, cap, rfl, _⟩ := ho.form
  clear ho hb1 hb2 B1
  go_wp2_with fail
  go_loopw [16] (fun i wr => ∃ q : Nat, q ≤ r.length ∧ i = .int .i64 q ∧ Own wr w1.heap.size 108 encN (.slice A r.length cap) r ∧ I q wr ∧ w.heap.size ≤ wr.heap.size) (fun i _ => r.length - (intOf i).toNat)
  case atStart => exact ⟨0, Nat.zero_le _, rfl, HO.out, H2.out, s2⟩
  case round =>
    obtain ⟨j, hj, rfl, hown, hIj, hs⟩ := hrel
    have KO := Lib.hid hown
    have KI := Lib.hid hIj
    clear hown hIj
    by_cases hlt : j < r.length
    · obtain ⟨c, off, rfl, hc, hcl⟩ := KO.out.sl.at_ hlt
      have d0 := hcl 0 (.int .i64 r[j].1) rfl
      have d1 := hcl 1 (.int .i64 r[j].2) rfl
      simp only [Nat.add_zero] at d0
      have hx := hf.roll.2 _ (List.getElem_mem hlt)
      have hxl := hf.lt _ (List.getElem_mem hlt)
      have hp := pow_48 (n := l) hll.2
      have ST := Lib.hid (HS.out j hlt)
      obtain ⟨x, hxe⟩ : ∃ x, x = r[j] := ⟨_, rfl⟩
      rw [← hxe] at d0 d1 hx hxl ST
      have hx1 : x.1 ≤ 562949953421312 := by omega
      have HE := Lib.hid (twig_Ends · l x.1 (by omega))
      generalize endsOf l x.1 = t at HE ST
      obtain ⟨t1, t2, t3⟩ := t
      unfold endsV at HE
      clear hcl hxe hxl hp hx
      go_wp2_with fail
      refine (HE.out _).mono ?_
      rintro e w3 ⟨rfl, hb3⟩
      have c3 := fun o => hb3.cell (p := ⟨wr.heap.size, o, none⟩) (by simp)
      have z3 : wr.heap.size < w3.heap.size := by have := hb3.size; simp at this; omega
      have BW : Below wr.heap.size wr w3 := ((Below.refl wr.heap.size wr).alloc (Nat.le_refl _) _).trans (hb3.mono (by simp))
      have I3 := Lib.hid (hI.st j wr w3 KI.out BW)
      have O3 := Lib.hid (KO.out.below BW)
      clear BW hb3
      go_wp2_with fail
      refine (ST.out _ I3.out).mono ?_
      rintro e w4 ⟨rfl, hI4, hk4⟩
      have I4 := Lib.hid hI4
      have O4 := Lib.hid (hk4.own O3.out)
      have z4 := hk4.1
      clear hI4 hk4
      go_wp2_with fail
      go_roundw
      case rel => exact ⟨j + 1, by omega, by go_num, O4.out, I4.out, by omega⟩
      case measure => simp [intOf]; omega
    · obtain rfl : j = r.length := by omega
      go_wp2_with fail
      go_end0
      exact ⟨rfl, KI.out, hs⟩
end Go.Proofs.YtbmmkhbdcaokkaaGreat
/- Package bound: Least, Greatest. -/
namespace Go.Proofs.YtbmmkhbdcaokkaaGreat
open Go.ChangeShapes Go.WideShapes Go.ChangeAt Go.RowKit
set_option linter.unusedVariables false
set_option maxRecDepth 100000

theorem bound_each_nil (w : World) (fv : Value) : Calls Tryz.prog 87 #[.pointer none, fv] w fun e w' => e = .returned (.tuple #[]) ∧ Below w.heap.size w w' := by
  go_enter Tryz.func87, Tryz.ntmps87
  go_wp2_with fail
  refine (digest_Conf_nil _).mono ?_
  rintro e w1 ⟨rfl, hb1⟩
  have B1 : Below w.heap.size w w1 := Below.then_ (by repeat (first | with_reducible exact Below.refl _ _ | with_reducible assumption | ((with_reducible refine Below.setCell ?_ ?_ _); rotate_left; · (first | omega | exact Nat.le_refl _ | (simp <;> omega))) | (with_reducible refine Below.allocW ?_ _) | (with_reducible refine Below.drew ?_) | (with_reducible refine Below.extW ?_ _))) hb1
  have s1 : w.heap.size ≤ w1.heap.size := B1.size
  go_wp2_with fail
  refine (digest_Nodes_nil _).mono ?_
  rintro e w2 ⟨rfl, hb2⟩
  have B2 : Below w.heap.size w w2 := Below.then_ (by repeat (first | with_reducible exact Below.refl _ _ | with_reducible assumption | ((with_reducible refine Below.setCell ?_ ?_ _); rotate_left; · (first | omega | exact Nat.le_refl _ | (simp <;> omega))) | (with_reducible refine Below.allocW ?_ _) | (with_reducible refine Below.drew ?_) | (with_reducible refine Below.extW ?_ _))) hb2
  have s2 : w.heap.size ≤ w2.heap.size := B2.size
  go_wp2_with fail
  go_loop [16] (fun i => i = .int .i64 0) (fun _ => 0)
  case atStart => rfl
  case round =>
    subst hrel
    go_wp2_with fail
    go_end0
    exact ⟨rfl, B2⟩
theorem bound_wrong_nil (w : World) : Calls Tryz.prog 94 #[.pointer none] w fun e w' => e = .returned (.int .i64 1) ∧ Below w.heap.size w w' := by
  go_enter Tryz.func94, Tryz.ntmps94
  go_wp2_with fail
  go_ret
  exact ⟨rfl, (by repeat (first | with_reducible exact Below.refl _ _ | with_reducible assumption | ((with_reducible refine Below.setCell ?_ ?_ _); rotate_left; · (first | omega | exact Nat.le_refl _ | (simp <;> omega))) | (with_reducible refine Below.allocW ?_ _) | (with_reducible refine Below.drew ?_) | (with_reducible refine Below.extW ?_ _)))⟩
def wrongOf (r : List Nd) : Int := if sumR r = 0 then 7 else 0
theorem bound_wrong (w : World) (g K l : Nat) (k : Int) (r : List Nd) (F : Nat → Prop) (h : DigAt w g K l k r F) : Calls Tryz.prog 94 #[.pointer (some ⟨g, 0, none⟩)] w fun e w' => e = .returned (.int .i64 (wrongOf r)) ∧ Below w.heap.size w w' := by
  have HN := Lib.hid (digest_N w g K l k r F h)
  unfold wrongOf
  by_cases hN : sumR r = 0
  · rw [if_pos hN]
    rw [hN] at HN
    clear hN h
    go_enter Tryz.func94, Tryz.ntmps94
    go_wp2_with fail
    refine (HN.out).mono ?_
    rintro e w1 ⟨rfl, hb1⟩
    have B1 : Below w.heap.size w w1 := Below.then_ (by repeat (first | with_reducible exact Below.refl _ _ | with_reducible assumption | ((with_reducible refine Below.setCell ?_ ?_ _); rotate_left; · (first | omega | exact Nat.le_refl _ | (simp <;> omega))) | (with_reducible refine Below.allocW ?_ _) | (with_reducible refine Below.drew ?_) | (with_reducible refine Below.extW ?_ _))) hb1
    have s1 : w.heap.size ≤ w1.heap.size := B1.size
    go_wp2_with fail
    go_ret
    exact ⟨rfl, (by repeat (first | with_reducible exact Below.refl _ _ | with_reducible assumption | ((with_reducible refine Below.setCell ?_ ?_ _); rotate_left; · (first | omega | exact Nat.le_refl _ | (simp <;> omega))) | (with_reducible refine Below.allocW ?_ _) | (with_reducible refine Below.drew ?_) | (with_reducible refine Below.extW ?_ _)))⟩
  · rw [if_neg hN]
    have hN0 : ((sumR r) == 0) = false := by simpa using hN
    clear hN h
    go_enter Tryz.func94, Tryz.ntmps94
    go_wp2_with fail
    refine (HN.out).mono ?_
    rintro e w1 ⟨rfl, hb1⟩
    have B1 : Below w.heap.size w w1 := Below.then_ (by repeat (first | with_reducible exact Below.refl _ _ | with_reducible assumption | ((with_reducible refine Below.setCell ?_ ?_ _); rotate_left; · (first | omega | exact Nat.le_refl _ | (simp <;> omega))) | (with_reducible refine Below.allocW ?_ _) | (with_reducible refine Below.drew ?_) | (with_reducible refine Below.extW ?_ _))) hb1
    have s1 : w.heap.size ≤ w1.heap.size := B1.size
    go_wp2_with fail
    go_ret
    exact ⟨rfl, (by repeat (first | with_reducible exact Below.refl _ _ | with_reducible assumption | ((with_reducible refine Below.setCell ?_ ?_ _); rotate_left; · (first | omega | exact Nat.le_refl _ | (simp <;> omega))) | (with_reducible refine Below.allocW ?_ _) | (with_reducible refine Below.drew ?_) | (with_reducible refine Below.extW ?_ _)))⟩

/-- The least first, and the least last value of nodes. -/
def leastStep (l : Int) (a : Int × Int) (x : Nd) : Int × Int := (min a.1 (endsOf l x.1).1, min a.2 (endsOf l x.1).2.1)
def leastOf (l : Int) (r : List Nd) : Int × Int := r.foldl (leastStep l) (9223372036854775807, 9223372036854775807)
theorem leastOf_succ {l : Int} {r : List Nd} {q : Nat} (h : q < r.length) : leastOf l (r.take (q + 1)) = leastStep l (leastOf l (r.take q)) r[q] := by
  unfold leastOf
  rw [List.take_succ_eq_append_getElem h, List.foldl_append]; rfl
theorem bound_Least1 (w : World) (lo hi n x y : Int) (b : Nat) (h : bothAt w b x y) :
    Calls Tryz.prog 153 #[.int .i64 lo, .int .i64 hi, .int .i64 n, .pointer (some ⟨b, 0, none⟩)] w fun e w' => e = .returned (.tuple #[]) ∧ w' = (w.setCell ⟨b, 0, none⟩ (.int .i64 (min x lo))).setCell ⟨b, 1, none⟩ (.int .i64 (min y hi)) := by
  have cc := blk_cell h
  have cf := blk_frozen h
  have zb := lt_of_block h
  clear h
  go_enter Tryz.func153, Tryz.ntmps153
  go_wp2_with fail
  go_end0
  exact ⟨rfl, rfl⟩
theorem KeepN.set {w : World} {b o : Nat} {x y : Int} (h : bothAt w b x y) (u : Value) : KeepN w (w.setCell ⟨b, o, none⟩ u) := by
  refine ⟨by simp [World.setCell], fun c cs fr hc => ?_⟩
  have hne : c ≠ b := by
    rintro rfl
    unfold bothAt at h
    rw [h] at hc
    injection hc with hc
    injection hc with _ ht
    exact absurd ht (by decide)
  exact (Below.heap_setCell _ _ _ _ hne).trans hc
theorem Below.set_at {B : Nat} {w W : World} {b o : Nat} {u : Value} (h : Below B w W) (hb : B ≤ b) : Below B w (W.setCell ⟨b, o, none⟩ u) := h.setCell (p := ⟨b, o, none⟩) hb u

/-- The two results in memory behind some nodes. -/
def BoundI (w : World) (b0 b1 : Nat) (f : Nat → Int × Int) (q : Nat) (W : World) : Prop := Below w.heap.size w W ∧ bothAt W b0 0 0 ∧ bothAt W b1 (f q).1 (f q).2
theorem boundI_stays (w : World) (b0 b1 : Nat) (f : Nat → Int × Int) : Stays (BoundI w b0 b1 f) := ⟨fun q W W' ⟨h1, h2, h3⟩ hb => ⟨h1.trans (hb.mono h1.size), h2.below hb, h3.below hb⟩⟩
def leastT (l : Int) (r : List Nd) : Int × Int × Int := if sumR r = 0 then (0, 0, 7) else ((leastOf l r).1, (leastOf l r).2, 0)
theorem enters_Least : ∀ args W, (callFunc 153 args).run Tryz.prog W = .ok (.enter 153 args) W := enters_of Tryz.func153 (by kernel_rfl) rfl
theorem bound_Least (w : World) (g K l : Nat) (k : Int) (r : List Nd) (F : Nat → Prop) (h : DigAt w g K l k r F) (hn : r.length ≤ 67108864) :
    Calls Tryz.prog 85 #[.pointer (some ⟨g, 0, none⟩)] w fun e w' => e = .returned (bothV (leastT l r)) ∧ Below w.heap.size w w' := by
  have HD := Lib.hid (h.alloc (.cells #[.int .i64 0, .int .i64 0] 29))
  have HW := Lib.hid (bound_wrong · g K l k r F ·)
  clear h
  unfold bothV leastT
  unfold wrongOf at HW
  by_cases hN : sumR r = 0
  · rw [if_pos hN]
    rw [if_pos hN] at HW
    clear hN
    go_enter Tryz.func85, Tryz.ntmps85
    go_wp2_with fail
    refine (HW.out _ HD.out).mono ?_
    rintro e w1 ⟨rfl, hb1⟩
    have B1 : Below w.heap.size w w1 := Below.then_ (by repeat (first | with_reducible exact Below.refl _ _ | with_reducible assumption | ((with_reducible refine Below.setCell ?_ ?_ _); rotate_left; · (first | omega | exact Nat.le_refl _ | (simp <;> omega))) | (with_reducible refine Below.allocW ?_ _) | (with_reducible refine Below.drew ?_) | (with_reducible refine Below.extW ?_ _))) hb1
    have s1 : w.heap.size ≤ w1.heap.size := B1.size
    have z1_0 : w.heap.size < w1.heap.size := by have := hb1.size; (try simp at this); omega
    have y1_0 : w.heap.size ≤ w1.heap.size := Nat.le_of_lt z1_0
    have c1_0 := fun o => hb1.cell (p := ⟨w.heap.size, o, none⟩) (by first | omega | (simp <;> omega))
    have f1_0 := fun o => hb1.frozen (p := ⟨w.heap.size, o, none⟩) (by first | omega | (simp <;> omega))
    go_wp2_with fail
    exact bodyPost_ret (v := .tuple #[.agg #[.int .i64 0, .int .i64 0], .int .i64 7]) (by simp only [results, Tryz.results85]; go_simp) rfl ⟨rfl, (by repeat (first | with_reducible exact Below.refl _ _ | with_reducible assumption | ((with_reducible refine Below.setCell ?_ ?_ _); rotate_left; · (first | omega | exact Nat.le_refl _ | (simp <;> omega))) | (with_reducible refine Below.allocW ?_ _) | (with_reducible refine Below.drew ?_) | (with_reducible refine Below.extW ?_ _)))⟩
  · rw [if_neg hN]
    rw [if_neg hN] at HW
    clear hN
    have N0 := Lib.hid (bothAt.new w 0 0)
    go_enter Tryz.func85, Tryz.ntmps85
    go_wp2_with fail
    refine (HW.out _ HD.out).mono ?_
    rintro e w1 ⟨rfl, hb1⟩
    have B1 : Below w.heap.size w w1 := Below.then_ (by repeat (first | with_reducible exact Below.refl _ _ | with_reducible assumption | ((with_reducible refine Below.setCell ?_ ?_ _); rotate_left; · (first | omega | exact Nat.le_refl _ | (simp <;> omega))) | (with_reducible refine Below.allocW ?_ _) | (with_reducible refine Below.drew ?_) | (with_reducible refine Below.extW ?_ _))) hb1
    have s1 : w.heap.size ≤ w1.heap.size := B1.size
    have z1_0 : w.heap.size < w1.heap.size := by have := hb1.size; (try simp at this); omega
    have y1_0 : w.heap.size ≤ w1.heap.size := Nat.le_of_lt z1_0
    have c1_0 := fun o => hb1.cell (p := ⟨w.heap.size, o, none⟩) (by first | omega | (simp <;> omega))
    have f1_0 := fun o => hb1.frozen (p := ⟨w.heap.size, o, none⟩) (by first | omega | (simp <;> omega))
    have n0 := Lib.hid ((N0.out.below hb1).alloc (.cells #[.int .i64 9223372036854775807, .int .i64 9223372036854775807] 29))
    have n1 := Lib.hid (bothAt.new w1 9223372036854775807 9223372036854775807)
    have HD1 := Lib.hid ((HD.out.below hb1).alloc (.cells #[.int .i64 9223372036854775807, .int .i64 9223372036854775807] 29))
    have BA : Hid (Below w.heap.size w (w1.alloc (.cells #[.int .i64 9223372036854775807, .int .i64 9223372036854775807] 29))) := Lib.hid (by repeat (first | with_reducible exact Below.refl _ _ | with_reducible assumption | ((with_reducible refine Below.setCell ?_ ?_ _); rotate_left; · (first | omega | exact Nat.le_refl _ | (simp <;> omega))) | (with_reducible refine Below.allocW ?_ _) | (with_reducible refine Below.drew ?_) | (with_reducible refine Below.extW ?_ _)))
    go_wp2_with fail
    refine (bound_each _ g K l k r F HD1.out hn 153 #[.pointer (some ⟨w1.heap.size, 0, none⟩)] enters_Least (BoundI w w.heap.size w1.heap.size (fun q => leastOf l (r.take q))) (boundI_stays _ _ _ _) ⟨BA.out, n0.out, n1.out⟩ ?_).mono ?_
    · intro q hq W ⟨i1, i2, i3⟩
      refine (bound_Least1 W _ _ _ _ _ _ i3).mono ?_
      rintro e W' ⟨rfl, rfl⟩
      refine ⟨rfl, ⟨Below.set_at (Below.set_at i1 (by omega)) (by omega), (i2.set (by omega) _).set (by omega) _, ?_⟩, keepN_t (KeepN.set i3 _) (KeepN.set (i3.set0 _) _)⟩
      simp only
      rw [leastOf_succ hq]
      exact (i3.set0 _).set1 _
    · rintro e w2 ⟨rfl, ⟨i1, i2, i3⟩, hs2⟩
      simp only [List.take_length] at i3
      have cc := blk_cell i3
      have cf := blk_frozen i2
      have c0 := blk_cell i2
      have z0 := lt_of_block i2
      have z1 := lt_of_block i3
      clear i2 i3
      go_wp2_with fail
      exact bodyPost_ret (v := .tuple #[.agg #[.int .i64 (leastOf l r).1, .int .i64 (leastOf l r).2], .int .i64 0]) (by simp only [results, Tryz.results85]; go_simp) rfl ⟨rfl, (by repeat (first | with_reducible exact Below.refl _ _ | with_reducible assumption | ((with_reducible refine Below.setCell ?_ ?_ _); rotate_left; · (first | omega | exact Nat.le_refl _ | (simp <;> omega))) | (with_reducible refine Below.allocW ?_ _) | (with_reducible refine Below.drew ?_) | (with_reducible refine Below.extW ?_ _)))⟩
end Go.Proofs.YtbmmkhbdcaokkaaGreat
