/-
  Texts of this proof, one behind the other: Made2, Reach, Reach2, Table, TabOf, FitsP, Of, Gap, GapRef, Plus, Bits, EachOf, Bound, Bound2, Mean, BoundRef, Ref20Sum, Ref20Mean, Worst, Worst2, Alive20, BoundSumsW, GapBoth.
-/
import Derived.Deep.DeepCutAuto
import Derived.Deep.RegionWith
import Derived.Shelf.SlSorted.Search
import Derived.Laws.Externs
import Derived.Test.YtpngailmhdiiiaaGreatP2
import Derived.Test.YtpngailmhdiiiaaGreatP3
/- Package rank: made: the walk. -/
set_option linter.unusedSimpArgs false namespace Go.Proofs.YtpngailmhdiiiaaGreat
open Go.ChangeShapes Go.WideShapes Go.ChangeAt Go.RowKit
set_option linter.unusedVariables false
set_option maxRecDepth 100000

set_option maxHeartbeats 4000000 in
theorem rank_made (w : World) (base : Nat) (v : Value) (l : List Nd) (ho : Own w base 106 encN v l) (hl : ∀ x ∈ l, 0 ≤ x.1 ∧ x.1 ≤ 281474976710655) (h1 : ∀ x ∈ l, 1 ≤ x.2) (hs : sumR l ≤ 72057594037927935) (hm : l.length ≤ 67108864) :
    Calls Tryz.prog 144 #[v] w (MadePost v l w) := by
  have hno := ho.not_at w.heap.size (Nat.le_refl _)
  have HO := Lib.hid (ho.alloc (.cells #[.slice none 0 0, .slice none 0 0] 178))
  have HL := Lib.hid hl
  have H1 := Lib.hid h1
  clear ho hl h1
  go_enter Tryz.func144, Tryz.ntmps144
  go_wp2_with fail
  refine (made_sort _ base v l HO.out HL.out hm).mono ?_
  rintro e w1 ⟨rfl, l', hp, hsrt, ho1, hT⟩
  have HLen := Lib.hid hp.length_eq
  have hlm : l'.length ≤ 67108864 := by have := HLen.out; omega
  have HTu := Lib.hid hT
  have s1 := hT.size
  have HP := Lib.hid hp
  have HSo := Lib.hid hsrt
  have HO1 := Lib.hid ho1
  have z0 : w.heap.size < w1.heap.size := by simp at s1; omega
  have N0 := Lib.hid (hT.keep (b := w.heap.size) (heap_alloc_new w _) hno)
  clear hp hsrt ho1 hT
  obtain ⟨A, cap, hvf, _⟩ := HO1.out.form
  have HV := Lib.hid hvf
  subst hvf
  go_wp2_with fail
  have S0 : Hid (TwoSt w1 w.heap.size (w1.heap.size + 1) w.heap.size w1.heap.size (.slice A l'.length cap) l' (.slice none 0 0) (.slice none 0 0) (w1.alloc (.cells #[.slice none 0 0, .slice none 0 0] 178)) (.slice none 0 0) [] (.slice none 0 0) []) :=
    Lib.hid ⟨(HO1.out.base_le (Nat.zero_le _)).alloc _, heap_alloc_new w1 _, (Below.heap_alloc w1 _ w.heap.size z0).trans N0.out, Own.nil _ _ _ _, Own.nil _ _ _ _, (fun g h => by cases h), (Below.refl _ _).alloc (by omega) _, (by simp), z0, (by omega), Nat.le_refl _⟩
  go_loopw [4, 12] (fun n i wr => ∃ (q k1 k2 : Nat) (t : List Nd) (A1 A2 : Option Addr) (c1 c2 : Nat), q ≤ l'.length ∧ i = .int .i64 q ∧ n = .int .i64 (sumR (l'.take q)) ∧ k1 = t.length ∧ k2 = t.length ∧
      TwoSt w1 w.heap.size (w1.heap.size + 1) w.heap.size w1.heap.size (.slice A l'.length cap) l' (.slice A1 k1 c1) (.slice A2 k2 c2) wr (.slice A1 k1 c1) (t.map (·.1)) (.slice A2 k2 c2) (t.map (·.2)) ∧ Tab (l'.take q) t ∧ t.length ≤ q) (fun _ i _ => l'.length - (intOf i).toNat)
  case atStart => exact ⟨0, 0, 0, [], none, none, 0, 0, Nat.zero_le _, rfl, rfl, rfl, rfl, S0.out, Tab.nil, Nat.le_refl _⟩
  case round =>
    obtain ⟨q, k1, k2, t, A1, A2, c1, c2, hq, rfl, rfl, hk1, hk2, hst, htab, htq⟩ := hrel
    have hz := hst.size
    have hzs : w1.heap.size < wr.heap.size := by omega
    have cs := blk_cell hst.sums
    have cf := blk_frozen hst.sums
    have KST := Lib.hid hst
    have KT := Lib.hid htab
    by_cases hlt : q < l'.length
    · obtain ⟨c, off, rfl, hc, hcl⟩ := hst.lst.sl.at_ hlt
      have d0 := hcl 0 (.int .i64 l'[q].1) rfl
      have d1 := hcl 1 (.int .i64 l'[q].2) rfl
      simp only [Nat.add_zero] at d0
      have hx := HL.out _ (HP.out.mem_iff.1 (List.getElem_mem hlt))
      have hx1 := H1.out _ (HP.out.mem_iff.1 (List.getElem_mem hlt))
      have e1 := sumR_take_succ hlt
      have hle : ∀ z ∈ l'.take q, z.1 ≤ l'[q].1 := fun z hz => by
        obtain ⟨i, hi, rfl⟩ := List.getElem_of_mem hz
        have hi' : i < q := by rw [List.length_take] at hi; omega
        rw [List.getElem_take]
        exact List.pairwise_iff_getElem.1 HSo.out i q (by omega) hlt hi'
      have hts := List.take_succ_eq_append_getElem hlt
      have hpos : ∀ z ∈ l', 1 ≤ z.2 := fun z hz => H1.out z (HP.out.mem_iff.1 hz)
      have hsb := sum_part hpos hlt
      rw [sumR_perm HP.out] at hsb
      obtain ⟨y, hye⟩ : ∃ y, y = l'[q] := ⟨_, rfl⟩
      rw [← hye] at d0 d1 hx hx1 e1 hle hts hsb
      have HTS := Lib.hid hts
      have HLE := Lib.hid hle
      have HE1 := Lib.hid e1
      have hlq : q ≤ 67108864 := by omega
      have HK1 := Lib.hid hk1
      have HK2 := Lib.hid hk2
      have kb1 : k1 ≤ 67108864 := by omega
      have kb2 : k2 ≤ 67108864 := by omega
      obtain ⟨n, hn⟩ : ∃ n, n = sumR (l'.take q) := ⟨_, rfl⟩
      rw [← hn] at hsb HE1 ⊢
      have HN := Lib.hid hn
      have i1 := hst.own1.len_le
      have i2 := hst.own2.len_le
      simp only [List.length_map] at i1 i2
      have ic1 : k1 ≤ c1 := by omega
      have ic2 : k2 ≤ c2 := by omega
      have kk : Hid (k2 = k1) := Lib.hid (by omega)
      clear hst htab hcl e1 hle hts hye hpos hk1 hk2 hn hq i1 i2
      rcases List.eq_nil_or_concat t with ht | ⟨t', a, ht⟩
      · have g1 : decide (0 < k1) = false := by have := HK1.out; rw [ht] at this; simp at this; simp; omega
        have hne : ∀ z ∈ t, z.1 ≠ y.1 := by rw [ht]; simp
        have HNE := Lib.hid hne
        clear hne ht
        go_wp2_with fail
        refine wp_region_ext (by kernel_rfl) (by kernel_rfl) ?_
        repeat (go_big_quiet_step (fail))
        refine wpQuiet_nil ?_
        intro w2 hb2
        replace hb2 := below_of_ext hb2
        have c20 := (hb2.cell (p := ⟨wr.heap.size, 0, none⟩) (by simp)).trans (by go_simp : _ = some (Value.int .i64 y.1))
        have z20 : wr.heap.size < w2.heap.size := by have := hb2.size; simp at this; omega
        have s2 := (KST.out.alloc (.cells #[.int .i64 y.1, .int .i64 y.2] 106)).below hb2
        have cs2 := blk_cell s2.sums
        have cf2 := blk_frozen s2.sums
        have zs2 : w1.heap.size < w2.heap.size := by omega
        have ow1 : ∀ g, (Value.slice A1 k1 c1).ownBlock = some g → g < wr.heap.size := fun g hg => (KST.out.own1.lt g hg).2
        have ow2 : ∀ g, (Value.slice A2 k2 c2).ownBlock = some g → g < wr.heap.size := fun g hg => (KST.out.own2.lt g hg).2
        generalize Value.slice A1 k1 c1 = V1 at s2 cs2 ow1 ⊢
        generalize Value.slice A2 k2 c2 = V2 at s2 cs2 ow2 ⊢
        have W1 := Lib.hid ow1
        have W2 := Lib.hid ow2
        have S2 := Lib.hid s2
        clear s2 hb2 cs cf g1 ow1 ow2
        go_wp2_with fail
        refine wp_region_noPanic ?_
        refine wp_region_N (fun w' => w'.cell? ⟨w1.heap.size, 0, none⟩ = some V1 ∧ w'.cell? ⟨w1.heap.size, 1, none⟩ = some V2 ∧ w'.cell? ⟨wr.heap.size, 0, none⟩ = some (.int .i64 y.1)) [12, 14] (by kernel_rfl) ⟨by simp [*, go_sem], by simp [*, go_sem], by simp [*, go_sem]⟩ (fun hHeld => ?_)
        refine wpAnyN_pure (i := 0) (v := .pointer (some ⟨w1.heap.size, 0, none⟩)) rfl (by kernel_rfl) (by kernel_rfl) (by kernel_rfl) (fun _ _ _ h => h) (Or.inl ⟨by rfl, fun W _ => by go_simp⟩) ?_
        try simp only [Act.put, List.setIfInBounds_toArray, List.set_cons_zero, List.set_cons_succ]
        refine wpAnyN_take (i := 1) (v := V1) rfl (by kernel_rfl) (by kernel_rfl) (by kernel_rfl) (by kernel_rfl) (fun _ _ _ h => h) (Or.inl ⟨by rfl, fun W hW => by obtain ⟨q1, q2, q3⟩ := hW; go_simp⟩) hHeld ?_
        try simp only [Act.put, List.setIfInBounds_toArray, List.set_cons_zero, List.set_cons_succ]
        refine wpAnyN_pure (i := 2) (v := .pointer (some ⟨wr.heap.size, 0, none⟩)) rfl (by kernel_rfl) (by kernel_rfl) (by kernel_rfl) (fun _ _ _ h => h) (Or.inl ⟨by rfl, fun W _ => by go_simp⟩) ?_
        try simp only [Act.put, List.setIfInBounds_toArray, List.set_cons_zero, List.set_cons_succ]
        refine wpAnyN_take (i := 3) (v := .int .i64 y.1) rfl (by kernel_rfl) (by kernel_rfl) (by kernel_rfl) (by kernel_rfl) (fun _ _ _ h => h) (Or.inl ⟨by rfl, fun W hW => by obtain ⟨q1, q2, q3⟩ := hW; go_simp⟩) hHeld ?_
        try simp only [Act.put, List.setIfInBounds_toArray, List.set_cons_zero, List.set_cons_succ]
        refine wpAnyN_pure (i := 6) (v := .pointer (some ⟨w1.heap.size, 1, none⟩)) rfl (by kernel_rfl) (by kernel_rfl) (by kernel_rfl) (fun _ _ _ h => h) (Or.inl ⟨by rfl, fun W _ => by go_simp⟩) ?_
        try simp only [Act.put, List.setIfInBounds_toArray, List.set_cons_zero, List.set_cons_succ]
        refine wpAnyN_take (i := 7) (v := V2) rfl (by kernel_rfl) (by kernel_rfl) (by kernel_rfl) (by kernel_rfl) (fun _ _ _ h => h) (Or.inl ⟨by rfl, fun W hW => by obtain ⟨q1, q2, q3⟩ := hW; go_simp⟩) hHeld ?_
        try simp only [Act.put, List.setIfInBounds_toArray, List.set_cons_zero, List.set_cons_succ]
        refine wpAnyN_pure (i := 8) (v := .int .i64 (n + y.2)) rfl (by kernel_rfl) (by kernel_rfl) (by kernel_rfl) (fun _ _ _ h => h) (Or.inl ⟨by rfl, fun W _ => by go_simp⟩) ?_
        try simp only [Act.put, List.setIfInBounds_toArray, List.set_cons_zero, List.set_cons_succ]
        clear hHeld
        refine wpAnyN_two (i := 4) (k := 9) (by kernel_rfl) rfl rfl (fun K hK => ?_) (fun K hK => ?_)
        · skip
          go_simp
          refine hK.out _ _ (fun _ _ => ?_) ?_
          · exact ⟨by simp [*, go_sem], by simp [*, go_sem], by simp [*, go_sem]⟩
          clear hK K
          try simp only [Act.put, List.setIfInBounds_toArray, List.set_cons_zero, List.set_cons_succ]
          refine wpAnyN_two (i := 5) (k := 9) (by kernel_rfl) rfl rfl (fun K hK => ?_) (fun K hK => ?_)
          · skip
            refine step_app (o := ⟨some 47, _, _, _, _, _⟩) tyZ (by rfl) _ _ (by rfl) encZ (w1.heap.size + 1) V1 (t.map (·.1)) (by rfl) (TwoSt.own1 (w := w1) (base := w.heap.size) (B := w1.heap.size + 1) (b0 := w.heap.size) (bs := w1.heap.size) (vl := (Value.slice (some ⟨c, off, none⟩) l'.length cap)) (ll := l') (V1 := V1) (V2 := V2) (U2 := V2) (L2 := (t.map (·.2))) (by (repeat (first | with_reducible exact S2.out | with_reducible refine TwoSt.alloc ?_ _ | with_reducible refine TwoSt.drew ?_)); done)) _ 1 [y.1] _ (by rfl) (sl_cell (by simp [*, go_sem]) (by first | omega | (simp; done) | (simp; omega))) (by first | omega | (simp; omega)) (by simp [maxLen]; omega) (by first | omega | (simp; omega)) ?_
            intro v4 w4 ho4 hg4 hl4 hb4 hn4
            obtain ⟨A4, k4, m4, rfl⟩ : ∃ A k m, v4 = .slice A m k := by obtain ⟨A, k, hv, _⟩ := ho4.form; exact ⟨A, k, _, hv⟩
            have P4 := TwoSt.app1 (w := w1) (base := w.heap.size) (B := w1.heap.size + 1) (b0 := w.heap.size) (bs := w1.heap.size) (vl := (Value.slice (some ⟨c, off, none⟩) l'.length cap)) (ll := l') (V1 := V1) (V2 := V2) (U2 := V2) (L2 := (t.map (·.2))) (U1 := V1) (L1 := (t.map (·.1))) (by (repeat (first | with_reducible exact S2.out | with_reducible refine TwoSt.alloc ?_ _ | with_reducible refine TwoSt.drew ?_)); done) hg4 ho4 hl4 hb4
            have r4 := hg4.size
            try simp only [World.size_alloc, World.drew] at r4
            have G4 := grown_new hg4 wr.heap.size (fun g hg => W1.out g hg)
            have x4 := blk_cell P4.sums
            have f4 := blk_frozen P4.sums
            have y4 : w4.cell? ⟨wr.heap.size, 0, none⟩ = some (.int .i64 y.1) := (G4 wr.heap.size 0 (Nat.le_refl _) (by first | omega | (simp; omega))).trans (by simp [*, go_sem])
            have z4 : w1.heap.size < w4.heap.size := P4.size
            have q4 : wr.heap.size < w4.heap.size := by have := hg4.size; (try simp at this); omega
            clear hn4 hb4 hl4 hg4 ho4
            refine hK.out _ _ (fun _ _ => ?_) ?_
            · exact ⟨by simp [*, go_sem], by simp [*, go_sem], by simp [*, go_sem]⟩
            clear hK K
            try simp only [Act.put, List.setIfInBounds_toArray, List.set_cons_zero, List.set_cons_succ]
            refine wpAnyN_pure (i := 11) (v := .pointer (some ⟨w1.heap.size, 0, none⟩)) rfl (by kernel_rfl) (by kernel_rfl) (by kernel_rfl) (fun _ _ _ h => h) (Or.inl ⟨by rfl, fun W _ => by go_simp⟩) ?_
            try simp only [Act.put, List.setIfInBounds_toArray, List.set_cons_zero, List.set_cons_succ]
            refine wpAnyN_one (i := 9) (by kernel_rfl) rfl (fun K hK => ?_)
            go_simp
            refine hK.out _ _ (fun _ _ => ?_) ?_
            · exact ⟨by simp [*, go_sem], by simp [*, go_sem], by simp [*, go_sem]⟩
            clear hK K
            try simp only [Act.put, List.setIfInBounds_toArray, List.set_cons_zero, List.set_cons_succ]
            refine wpAnyN_one (i := 10) (by kernel_rfl) rfl (fun K hK => ?_)
            refine step_app (o := ⟨some 52, _, _, _, _, _⟩) tyZ (by rfl) _ _ (by rfl) encZ (w1.heap.size + 1) V2 (t.map (·.2)) (by rfl) (TwoSt.own2 (w := w1) (base := w.heap.size) (B := w1.heap.size + 1) (b0 := w.heap.size) (bs := w1.heap.size) (vl := (Value.slice (some ⟨c, off, none⟩) l'.length cap)) (ll := l') (V1 := V1) (V2 := V2) (U1 := .slice A4 m4 k4) (L1 := (t.map (·.1)) ++ [y.1]) (by (repeat (first | with_reducible exact P4 | with_reducible refine TwoSt.alloc ?_ _ | with_reducible refine TwoSt.drew ?_)); done)) _ 1 [(n + y.2)] _ (by rfl) (sl_cell (by simp [*, go_sem]) (by first | omega | (simp; done) | (simp; omega))) (by first | omega | (simp; omega)) (by simp [maxLen]; omega) (by first | omega | (simp; omega)) ?_
            intro v5 w5 ho5 hg5 hl5 hb5 hn5
            obtain ⟨A5, k5, m5, rfl⟩ : ∃ A k m, v5 = .slice A m k := by obtain ⟨A, k, hv, _⟩ := ho5.form; exact ⟨A, k, _, hv⟩
            have P5 := TwoSt.app2 (w := w1) (base := w.heap.size) (B := w1.heap.size + 1) (b0 := w.heap.size) (bs := w1.heap.size) (vl := (Value.slice (some ⟨c, off, none⟩) l'.length cap)) (ll := l') (V1 := V1) (V2 := V2) (U1 := .slice A4 m4 k4) (L1 := (t.map (·.1)) ++ [y.1]) (U2 := V2) (L2 := (t.map (·.2))) (by (repeat (first | with_reducible exact P4 | with_reducible refine TwoSt.alloc ?_ _ | with_reducible refine TwoSt.drew ?_)); done) hg5 ho5 hl5 hb5
            have r5 := hg5.size
            try simp only [World.size_alloc, World.drew] at r5
            have G5 := grown_new hg5 wr.heap.size (fun g hg => W2.out g hg)
            have x5 := blk_cell P5.sums
            have f5 := blk_frozen P5.sums
            have y5 : w5.cell? ⟨wr.heap.size, 0, none⟩ = some (.int .i64 y.1) := (G5 wr.heap.size 0 (Nat.le_refl _) (by first | omega | (simp; omega))).trans (by simp [*, go_sem])
            have z5 : w1.heap.size < w5.heap.size := P5.size
            have q5 : wr.heap.size < w5.heap.size := by have := hg5.size; (try simp at this); omega
            clear hn5 hb5 hl5 hg5 ho5
            refine hK.out _ _ (fun _ _ => ?_) ?_
            · exact ⟨by simp [*, go_sem], by simp [*, go_sem], by simp [*, go_sem]⟩
            clear hK K
            try simp only [Act.put, List.setIfInBounds_toArray, List.set_cons_zero, List.set_cons_succ]
            refine wpAnyN_one (i := 12) (by kernel_rfl) rfl (fun K hK => ?_)
            go_simp
            refine hK.out _ _ (fun h _ => absurd (by decide) h) ?_
            clear hK K
            try simp only [Act.put, List.setIfInBounds_toArray, List.set_cons_zero, List.set_cons_succ]
            refine wpAnyN_pure (i := 13) (v := .pointer (some ⟨w1.heap.size, 1, none⟩)) rfl (by kernel_rfl) (by kernel_rfl) (by kernel_rfl) (fun _ _ _ h => h) (Or.inl ⟨by rfl, fun W _ => by go_simp⟩) ?_
            try simp only [Act.put, List.setIfInBounds_toArray, List.set_cons_zero, List.set_cons_succ]
            refine wpAnyN_one (i := 14) (by kernel_rfl) rfl (fun K hK => ?_)
            go_simp
            refine hK.out _ _ (fun h _ => absurd (by decide) h) ?_
            clear hK K
            try simp only [Act.put, List.setIfInBounds_toArray, List.set_cons_zero, List.set_cons_succ]
            refine wpAnyN_done (by kernel_rfl) ?_ _
            have E4 := P5.own1.len_le
            have E5 := P5.own2.len_le
            simp only [List.length_append, List.length_map, List.length_cons, List.length_nil] at E4 E5
            have F4 := Lib.hid E4.1
            have F5 := Lib.hid E5.1
            have PF := Lib.hid P5.st
            clear E4 E5 P4 P5 G4 G5 x4 x5 f4 f5 y4 y5 z4 z5 q4 q5 r4 r5 c20 z20 cs2 cf2
            refine NoPanic.normal ?_
            go_wp2_with fail
            go_roundw
            case rel => exact ⟨q + 1, m4, m5, t ++ [(y.1, n + y.2)], A4, A5, k4, k5, by omega, by go_num, by rw [HE1.out], by have := F4.out; simp; omega, by have := F5.out; simp; omega, by simpa using PF.out, by rw [HTS.out]; have := KT.out.more HLE.out HNE.out; rwa [← HN.out] at this, by simp; omega⟩
            case measure => simp [intOf]; omega
          · skip
            go_simp
            refine hK.out _ _ (fun _ _ => ?_) ?_
            · exact ⟨by simp [*, go_sem], by simp [*, go_sem], by simp [*, go_sem]⟩
            clear hK K
            try simp only [Act.put, List.setIfInBounds_toArray, List.set_cons_zero, List.set_cons_succ]
            refine wpAnyN_one (i := 5) (by kernel_rfl) rfl (fun K hK => ?_)
            refine step_app (o := ⟨some 47, _, _, _, _, _⟩) tyZ (by rfl) _ _ (by rfl) encZ (w1.heap.size + 1) V1 (t.map (·.1)) (by rfl) (TwoSt.own1 (w := w1) (base := w.heap.size) (B := w1.heap.size + 1) (b0 := w.heap.size) (bs := w1.heap.size) (vl := (Value.slice (some ⟨c, off, none⟩) l'.length cap)) (ll := l') (V1 := V1) (V2 := V2) (U2 := V2) (L2 := (t.map (·.2))) (by (repeat (first | with_reducible exact S2.out | with_reducible refine TwoSt.alloc ?_ _ | with_reducible refine TwoSt.drew ?_)); done)) _ 1 [y.1] _ (by rfl) (sl_cell (by simp [*, go_sem]) (by first | omega | (simp; done) | (simp; omega))) (by first | omega | (simp; omega)) (by simp [maxLen]; omega) (by first | omega | (simp; omega)) ?_
            intro v4 w4 ho4 hg4 hl4 hb4 hn4
            obtain ⟨A4, k4, m4, rfl⟩ : ∃ A k m, v4 = .slice A m k := by obtain ⟨A, k, hv, _⟩ := ho4.form; exact ⟨A, k, _, hv⟩
            have P4 := TwoSt.app1 (w := w1) (base := w.heap.size) (B := w1.heap.size + 1) (b0 := w.heap.size) (bs := w1.heap.size) (vl := (Value.slice (some ⟨c, off, none⟩) l'.length cap)) (ll := l') (V1 := V1) (V2 := V2) (U2 := V2) (L2 := (t.map (·.2))) (U1 := V1) (L1 := (t.map (·.1))) (by (repeat (first | with_reducible exact S2.out | with_reducible refine TwoSt.alloc ?_ _ | with_reducible refine TwoSt.drew ?_)); done) hg4 ho4 hl4 hb4
            have r4 := hg4.size
            try simp only [World.size_alloc, World.drew] at r4
            have G4 := grown_new hg4 wr.heap.size (fun g hg => W1.out g hg)
            have x4 := blk_cell P4.sums
            have f4 := blk_frozen P4.sums
            have y4 : w4.cell? ⟨wr.heap.size, 0, none⟩ = some (.int .i64 y.1) := (G4 wr.heap.size 0 (Nat.le_refl _) (by first | omega | (simp; omega))).trans (by simp [*, go_sem])
            have b4 : w4.cell? ⟨w2.heap.size + 1, 0, none⟩ = some (.int .i64 (n + y.2)) := (G4 (w2.heap.size + 1) 0 (by omega) (by first | omega | (simp; done) | (simp; omega))).trans (by simp [*, go_sem])
            have z4 : w1.heap.size < w4.heap.size := P4.size
            have q4 : wr.heap.size < w4.heap.size := by have := hg4.size; (try simp at this); omega
            clear hn4 hb4 hl4 hg4 ho4
            refine hK.out _ _ (fun _ _ => ?_) ?_
            · exact ⟨by simp [*, go_sem], by simp [*, go_sem], by simp [*, go_sem]⟩
            clear hK K
            try simp only [Act.put, List.setIfInBounds_toArray, List.set_cons_zero, List.set_cons_succ]
            refine wpAnyN_pure (i := 11) (v := .pointer (some ⟨w1.heap.size, 0, none⟩)) rfl (by kernel_rfl) (by kernel_rfl) (by kernel_rfl) (fun _ _ _ h => h) (Or.inl ⟨by rfl, fun W _ => by go_simp⟩) ?_
            try simp only [Act.put, List.setIfInBounds_toArray, List.set_cons_zero, List.set_cons_succ]
            refine wpAnyN_one (i := 10) (by kernel_rfl) rfl (fun K hK => ?_)
            refine step_app (o := ⟨some 52, _, _, _, _, _⟩) tyZ (by rfl) _ _ (by rfl) encZ (w1.heap.size + 1) V2 (t.map (·.2)) (by rfl) (TwoSt.own2 (w := w1) (base := w.heap.size) (B := w1.heap.size + 1) (b0 := w.heap.size) (bs := w1.heap.size) (vl := (Value.slice (some ⟨c, off, none⟩) l'.length cap)) (ll := l') (V1 := V1) (V2 := V2) (U1 := .slice A4 m4 k4) (L1 := (t.map (·.1)) ++ [y.1]) (by (repeat (first | with_reducible exact P4 | with_reducible refine TwoSt.alloc ?_ _ | with_reducible refine TwoSt.drew ?_)); done)) _ 1 [(n + y.2)] _ (by rfl) (sl_cell (by simp [*, go_sem]) (by first | omega | (simp; done) | (simp; omega))) (by first | omega | (simp; omega)) (by simp [maxLen]; omega) (by first | omega | (simp; omega)) ?_
            intro v5 w5 ho5 hg5 hl5 hb5 hn5
            obtain ⟨A5, k5, m5, rfl⟩ : ∃ A k m, v5 = .slice A m k := by obtain ⟨A, k, hv, _⟩ := ho5.form; exact ⟨A, k, _, hv⟩
            have P5 := TwoSt.app2 (w := w1) (base := w.heap.size) (B := w1.heap.size + 1) (b0 := w.heap.size) (bs := w1.heap.size) (vl := (Value.slice (some ⟨c, off, none⟩) l'.length cap)) (ll := l') (V1 := V1) (V2 := V2) (U1 := .slice A4 m4 k4) (L1 := (t.map (·.1)) ++ [y.1]) (U2 := V2) (L2 := (t.map (·.2))) (by (repeat (first | with_reducible exact P4 | with_reducible refine TwoSt.alloc ?_ _ | with_reducible refine TwoSt.drew ?_)); done) hg5 ho5 hl5 hb5
            have r5 := hg5.size
            try simp only [World.size_alloc, World.drew] at r5
            have G5 := grown_new hg5 wr.heap.size (fun g hg => W2.out g hg)
            have x5 := blk_cell P5.sums
            have f5 := blk_frozen P5.sums
            have y5 : w5.cell? ⟨wr.heap.size, 0, none⟩ = some (.int .i64 y.1) := (G5 wr.heap.size 0 (Nat.le_refl _) (by first | omega | (simp; omega))).trans (by simp [*, go_sem])
            have z5 : w1.heap.size < w5.heap.size := P5.size
            have q5 : wr.heap.size < w5.heap.size := by have := hg5.size; (try simp at this); omega
            clear hn5 hb5 hl5 hg5 ho5
            refine hK.out _ _ (fun _ _ => ?_) ?_
            · exact ⟨by simp [*, go_sem], by simp [*, go_sem], by simp [*, go_sem]⟩
            clear hK K
            try simp only [Act.put, List.setIfInBounds_toArray, List.set_cons_zero, List.set_cons_succ]
            refine wpAnyN_one (i := 12) (by kernel_rfl) rfl (fun K hK => ?_)
            go_simp
            refine hK.out _ _ (fun h _ => absurd (by decide) h) ?_
            clear hK K
            try simp only [Act.put, List.setIfInBounds_toArray, List.set_cons_zero, List.set_cons_succ]
            refine wpAnyN_pure (i := 13) (v := .pointer (some ⟨w1.heap.size, 1, none⟩)) rfl (by kernel_rfl) (by kernel_rfl) (by kernel_rfl) (fun _ _ _ h => h) (Or.inl ⟨by rfl, fun W _ => by go_simp⟩) ?_
            try simp only [Act.put, List.setIfInBounds_toArray, List.set_cons_zero, List.set_cons_succ]
            refine wpAnyN_one (i := 14) (by kernel_rfl) rfl (fun K hK => ?_)
            go_simp
            refine hK.out _ _ (fun h _ => absurd (by decide) h) ?_
            clear hK K
            try simp only [Act.put, List.setIfInBounds_toArray, List.set_cons_zero, List.set_cons_succ]
            refine wpAnyN_done (by kernel_rfl) ?_ _
            have E4 := P5.own1.len_le
            have E5 := P5.own2.len_le
            simp only [List.length_append, List.length_map, List.length_cons, List.length_nil] at E4 E5
            have F4 := Lib.hid E4.1
            have F5 := Lib.hid E5.1
            have PF := Lib.hid P5.st
            clear E4 E5 P4 P5 G4 G5 x4 x5 f4 f5 y4 y5 z4 z5 q4 q5 r4 r5 c20 z20 cs2 cf2
            refine NoPanic.normal ?_
            go_wp2_with fail
            go_roundw
            case rel => exact ⟨q + 1, m4, m5, t ++ [(y.1, n + y.2)], A4, A5, k4, k5, by omega, by go_num, by rw [HE1.out], by have := F4.out; simp; omega, by have := F5.out; simp; omega, by simpa using PF.out, by rw [HTS.out]; have := KT.out.more HLE.out HNE.out; rwa [← HN.out] at this, by simp; omega⟩
            case measure => simp [intOf]; omega
        · skip
          go_simp
          refine hK.out _ _ (fun _ _ => ?_) ?_
          · exact ⟨by simp [*, go_sem], by simp [*, go_sem], by simp [*, go_sem]⟩
          clear hK K
          try simp only [Act.put, List.setIfInBounds_toArray, List.set_cons_zero, List.set_cons_succ]
          refine wpAnyN_one (i := 4) (by kernel_rfl) rfl (fun K hK => ?_)
          go_simp
          refine hK.out _ _ (fun _ _ => ?_) ?_
          · exact ⟨by simp [*, go_sem], by simp [*, go_sem], by simp [*, go_sem]⟩
          clear hK K
          try simp only [Act.put, List.setIfInBounds_toArray, List.set_cons_zero, List.set_cons_succ]
          refine wpAnyN_one (i := 5) (by kernel_rfl) rfl (fun K hK => ?_)
          refine step_app (o := ⟨some 47, _, _, _, _, _⟩) tyZ (by rfl) _ _ (by rfl) encZ (w1.heap.size + 1) V1 (t.map (·.1)) (by rfl) (TwoSt.own1 (w := w1) (base := w.heap.size) (B := w1.heap.size + 1) (b0 := w.heap.size) (bs := w1.heap.size) (vl := (Value.slice (some ⟨c, off, none⟩) l'.length cap)) (ll := l') (V1 := V1) (V2 := V2) (U2 := V2) (L2 := (t.map (·.2))) (by (repeat (first | with_reducible exact S2.out | with_reducible refine TwoSt.alloc ?_ _ | with_reducible refine TwoSt.drew ?_)); done)) _ 1 [y.1] _ (by rfl) (sl_cell (by simp [*, go_sem]) (by first | omega | (simp; done) | (simp; omega))) (by first | omega | (simp; omega)) (by simp [maxLen]; omega) (by first | omega | (simp; omega)) ?_
          intro v4 w4 ho4 hg4 hl4 hb4 hn4
          obtain ⟨A4, k4, m4, rfl⟩ : ∃ A k m, v4 = .slice A m k := by obtain ⟨A, k, hv, _⟩ := ho4.form; exact ⟨A, k, _, hv⟩
          have P4 := TwoSt.app1 (w := w1) (base := w.heap.size) (B := w1.heap.size + 1) (b0 := w.heap.size) (bs := w1.heap.size) (vl := (Value.slice (some ⟨c, off, none⟩) l'.length cap)) (ll := l') (V1 := V1) (V2 := V2) (U2 := V2) (L2 := (t.map (·.2))) (U1 := V1) (L1 := (t.map (·.1))) (by (repeat (first | with_reducible exact S2.out | with_reducible refine TwoSt.alloc ?_ _ | with_reducible refine TwoSt.drew ?_)); done) hg4 ho4 hl4 hb4
          have r4 := hg4.size
          try simp only [World.size_alloc, World.drew] at r4
          have G4 := grown_new hg4 wr.heap.size (fun g hg => W1.out g hg)
          have x4 := blk_cell P4.sums
          have f4 := blk_frozen P4.sums
          have y4 : w4.cell? ⟨wr.heap.size, 0, none⟩ = some (.int .i64 y.1) := (G4 wr.heap.size 0 (Nat.le_refl _) (by first | omega | (simp; omega))).trans (by simp [*, go_sem])
          have b4 : w4.cell? ⟨w2.heap.size, 0, none⟩ = some (.int .i64 (n + y.2)) := (G4 (w2.heap.size) 0 (by omega) (by first | omega | (simp; done) | (simp; omega))).trans (by simp [*, go_sem])
          have z4 : w1.heap.size < w4.heap.size := P4.size
          have q4 : wr.heap.size < w4.heap.size := by have := hg4.size; (try simp at this); omega
          clear hn4 hb4 hl4 hg4 ho4
          refine hK.out _ _ (fun _ _ => ?_) ?_
          · exact ⟨by simp [*, go_sem], by simp [*, go_sem], by simp [*, go_sem]⟩
          clear hK K
          try simp only [Act.put, List.setIfInBounds_toArray, List.set_cons_zero, List.set_cons_succ]
          refine wpAnyN_pure (i := 11) (v := .pointer (some ⟨w1.heap.size, 0, none⟩)) rfl (by kernel_rfl) (by kernel_rfl) (by kernel_rfl) (fun _ _ _ h => h) (Or.inl ⟨by rfl, fun W _ => by go_simp⟩) ?_
          try simp only [Act.put, List.setIfInBounds_toArray, List.set_cons_zero, List.set_cons_succ]
          refine wpAnyN_one (i := 10) (by kernel_rfl) rfl (fun K hK => ?_)
          refine step_app (o := ⟨some 52, _, _, _, _, _⟩) tyZ (by rfl) _ _ (by rfl) encZ (w1.heap.size + 1) V2 (t.map (·.2)) (by rfl) (TwoSt.own2 (w := w1) (base := w.heap.size) (B := w1.heap.size + 1) (b0 := w.heap.size) (bs := w1.heap.size) (vl := (Value.slice (some ⟨c, off, none⟩) l'.length cap)) (ll := l') (V1 := V1) (V2 := V2) (U1 := .slice A4 m4 k4) (L1 := (t.map (·.1)) ++ [y.1]) (by (repeat (first | with_reducible exact P4 | with_reducible refine TwoSt.alloc ?_ _ | with_reducible refine TwoSt.drew ?_)); done)) _ 1 [(n + y.2)] _ (by rfl) (sl_cell (by simp [*, go_sem]) (by first | omega | (simp; done) | (simp; omega))) (by first | omega | (simp; omega)) (by simp [maxLen]; omega) (by first | omega | (simp; omega)) ?_
          intro v5 w5 ho5 hg5 hl5 hb5 hn5
          obtain ⟨A5, k5, m5, rfl⟩ : ∃ A k m, v5 = .slice A m k := by obtain ⟨A, k, hv, _⟩ := ho5.form; exact ⟨A, k, _, hv⟩
          have P5 := TwoSt.app2 (w := w1) (base := w.heap.size) (B := w1.heap.size + 1) (b0 := w.heap.size) (bs := w1.heap.size) (vl := (Value.slice (some ⟨c, off, none⟩) l'.length cap)) (ll := l') (V1 := V1) (V2 := V2) (U1 := .slice A4 m4 k4) (L1 := (t.map (·.1)) ++ [y.1]) (U2 := V2) (L2 := (t.map (·.2))) (by (repeat (first | with_reducible exact P4 | with_reducible refine TwoSt.alloc ?_ _ | with_reducible refine TwoSt.drew ?_)); done) hg5 ho5 hl5 hb5
          have r5 := hg5.size
          try simp only [World.size_alloc, World.drew] at r5
          have G5 := grown_new hg5 wr.heap.size (fun g hg => W2.out g hg)
          have x5 := blk_cell P5.sums
          have f5 := blk_frozen P5.sums
          have y5 : w5.cell? ⟨wr.heap.size, 0, none⟩ = some (.int .i64 y.1) := (G5 wr.heap.size 0 (Nat.le_refl _) (by first | omega | (simp; omega))).trans (by simp [*, go_sem])
          have z5 : w1.heap.size < w5.heap.size := P5.size
          have q5 : wr.heap.size < w5.heap.size := by have := hg5.size; (try simp at this); omega
          clear hn5 hb5 hl5 hg5 ho5
          refine hK.out _ _ (fun _ _ => ?_) ?_
          · exact ⟨by simp [*, go_sem], by simp [*, go_sem], by simp [*, go_sem]⟩
          clear hK K
          try simp only [Act.put, List.setIfInBounds_toArray, List.set_cons_zero, List.set_cons_succ]
          refine wpAnyN_one (i := 12) (by kernel_rfl) rfl (fun K hK => ?_)
          go_simp
          refine hK.out _ _ (fun h _ => absurd (by decide) h) ?_
          clear hK K
          try simp only [Act.put, List.setIfInBounds_toArray, List.set_cons_zero, List.set_cons_succ]
          refine wpAnyN_pure (i := 13) (v := .pointer (some ⟨w1.heap.size, 1, none⟩)) rfl (by kernel_rfl) (by kernel_rfl) (by kernel_rfl) (fun _ _ _ h => h) (Or.inl ⟨by rfl, fun W _ => by go_simp⟩) ?_
          try simp only [Act.put, List.setIfInBounds_toArray, List.set_cons_zero, List.set_cons_succ]
          refine wpAnyN_one (i := 14) (by kernel_rfl) rfl (fun K hK => ?_)
          go_simp
          refine hK.out _ _ (fun h _ => absurd (by decide) h) ?_
          clear hK K
          try simp only [Act.put, List.setIfInBounds_toArray, List.set_cons_zero, List.set_cons_succ]
          refine wpAnyN_done (by kernel_rfl) ?_ _
          have E4 := P5.own1.len_le
          have E5 := P5.own2.len_le
          simp only [List.length_append, List.length_map, List.length_cons, List.length_nil] at E4 E5
          have F4 := Lib.hid E4.1
          have F5 := Lib.hid E5.1
          have PF := Lib.hid P5.st
          clear E4 E5 P4 P5 G4 G5 x4 x5 f4 f5 y4 y5 z4 z5 q4 q5 r4 r5 c20 z20 cs2 cf2
          refine NoPanic.normal ?_
          go_wp2_with fail
          go_roundw
          case rel => exact ⟨q + 1, m4, m5, t ++ [(y.1, n + y.2)], A4, A5, k4, k5, by omega, by go_num, by rw [HE1.out], by have := F4.out; simp; omega, by have := F5.out; simp; omega, by simpa using PF.out, by rw [HTS.out]; have := KT.out.more HLE.out HNE.out; rwa [← HN.out] at this, by simp; omega⟩
          case measure => simp [intOf]; omega
      · rw [List.concat_eq_append] at ht
        obtain ⟨m, hm⟩ : ∃ m, m = t'.length := ⟨_, rfl⟩
        have hkm : k1 = m + 1 := by have := HK1.out; rw [ht] at this; simp at this; omega
        have g1 : decide (0 < k1) = true := by simp; omega
        have g2 : (k1 : Int) - 1 = (m : Int) := by omega
        have g3 : (m : Int) < (k1 : Int) := by omega
        have g4 : m < k1 := by omega
        have g5 : m < (t.map (·.1)).length := by rw [ht]; simp; omega
        have ga : (t.map (·.1))[m] = a.1 := by simp only [ht, hm]; simp
        obtain ⟨b1, o1, rfl, hb1, hc1⟩ := KST.out.own1.sl.at_ g5
        have e0 := hc1 0 (.int .i64 a.1) (by rw [ga]; rfl)
        simp only [Nat.add_zero, Nat.mul_one] at e0
        have g6 : m < (t.map (·.2)).length := by rw [ht]; simp; omega
        obtain ⟨b2, o2, rfl, hb2, hc2⟩ := KST.out.own2.sl.at_ g6
        have gb : (t.map (·.2))[m] = a.2 := by simp only [ht, hm]; simp
        have e8 := hc2 0 (.int .i64 a.2) (by rw [gb]; rfl)
        simp only [Nat.add_zero, Nat.mul_one] at e8
        have g7 : m < k2 := by have := kk.out; omega
        have HKM := Lib.hid hkm
        have HM := Lib.hid hm
        have HT := Lib.hid ht
        clear hc1 hc2 g5 ga gb hkm hm ht
        by_cases ha : a.1 = y.1
        · have ha' : (a.1 == y.1) = true := by simpa using ha
          have HAE := Lib.hid ha
          have e9 := KST.out.own2.frozen
          have hz2 : b2 < wr.heap.size := hb2
          clear ha
          go_wp2_with fail
          refine wp_region_ext (by kernel_rfl) (by kernel_rfl) ?_
          repeat (go_big_quiet_step (fail))
          refine wpQuiet_nil ?_
          intro w2 hb2'
          replace hb2' := below_of_ext hb2'
          have s2 := (KST.out.alloc (.cells #[.int .i64 y.1, .int .i64 y.2] 106)).below hb2'
          have cs2 := blk_cell s2.sums
          have cf2 := blk_frozen s2.sums
          have zs2 : w1.heap.size < w2.heap.size := by have := hb2'.size; simp at this; omega
          have z22 : b2 < w2.heap.size := by have := hb2'.size; simp at this; omega
          have c23 : w2.cell? ⟨b2, o2 + m, none⟩ = some (.int .i64 a.2) := (hb2'.cell (p := ⟨b2, o2 + m, none⟩) (by simp; omega)).trans (by go_simp)
          have f22 := s2.own2.frozen
          have S2 := Lib.hid s2
          clear s2 hb2' cs cf g1 e0 e9 e8
          go_wp2_with fail
          have S3 := Lib.hid (S2.out.set2 m g6 (n + y.2))
          clear c23 f22 S2 cs2 cf2
          go_wp2_with fail
          go_roundw
          case rel => exact ⟨q + 1, k1, k2, t' ++ [(y.1, n + y.2)], some ⟨b1, o1, none⟩, some ⟨b2, o2, none⟩, c1, c2, by omega, by go_num, by rw [HE1.out], by have := HKM.out; have := HM.out; simp; omega, by have := HKM.out; have := HM.out; have := kk.out; simp; omega, by have h := S3.out; rw [HT.out, set_last HM.out (y.1, n + y.2)] at h; have e : (t' ++ [a]).map (·.1) = (t' ++ [(y.1, n + y.2)]).map (·.1) := (by simp [HAE.out]); rwa [e] at h, by have h := KT.out; rw [HT.out, show a = (y.1, a.2) from Prod.ext HAE.out rfl] at h; have h2 := h.same HLE.out; rw [← HN.out] at h2; rwa [HTS.out], by rw [HT.out] at htq; simp at htq ⊢; omega⟩
          case measure => simp [intOf]; omega
        · have ha' : (a.1 == y.1) = false := by simpa using ha
          have HNE := Lib.hid (show ∀ z ∈ t, z.1 ≠ y.1 by rw [HT.out]; exact Tab.last_ne (by rw [← HT.out]; exact KT.out) HLE.out ha)
          clear ha
          go_wp2_with fail
          refine wp_region_ext (by kernel_rfl) (by kernel_rfl) ?_
          repeat (go_big_quiet_step (fail))
          refine wpQuiet_nil ?_
          intro w2 hb2
          replace hb2 := below_of_ext hb2
          have c20 := (hb2.cell (p := ⟨wr.heap.size, 0, none⟩) (by simp)).trans (by go_simp : _ = some (Value.int .i64 y.1))
          have z20 : wr.heap.size < w2.heap.size := by have := hb2.size; simp at this; omega
          have s2 := (KST.out.alloc (.cells #[.int .i64 y.1, .int .i64 y.2] 106)).below hb2
          have cs2 := blk_cell s2.sums
          have cf2 := blk_frozen s2.sums
          have zs2 : w1.heap.size < w2.heap.size := by omega
          have ow1 : ∀ g, (Value.slice (some ⟨b1, o1, none⟩) k1 c1).ownBlock = some g → g < wr.heap.size := fun g hg => (KST.out.own1.lt g hg).2
          have ow2 : ∀ g, (Value.slice (some ⟨b2, o2, none⟩) k2 c2).ownBlock = some g → g < wr.heap.size := fun g hg => (KST.out.own2.lt g hg).2
          generalize Value.slice (some ⟨b1, o1, none⟩) k1 c1 = V1 at s2 cs2 ow1 ⊢
          generalize Value.slice (some ⟨b2, o2, none⟩) k2 c2 = V2 at s2 cs2 ow2 ⊢
          have W1 := Lib.hid ow1
          have W2 := Lib.hid ow2
          have S2 := Lib.hid s2
          clear s2 hb2 cs cf g1 g2 g3 g4 ow1 ow2 e0 e8 g7
          go_wp2_with fail
          refine wp_region_noPanic ?_
          refine wp_region_N (fun w' => w'.cell? ⟨w1.heap.size, 0, none⟩ = some V1 ∧ w'.cell? ⟨w1.heap.size, 1, none⟩ = some V2 ∧ w'.cell? ⟨wr.heap.size, 0, none⟩ = some (.int .i64 y.1)) [12, 14] (by kernel_rfl) ⟨by simp [*, go_sem], by simp [*, go_sem], by simp [*, go_sem]⟩ (fun hHeld => ?_)
          refine wpAnyN_pure (i := 0) (v := .pointer (some ⟨w1.heap.size, 0, none⟩)) rfl (by kernel_rfl) (by kernel_rfl) (by kernel_rfl) (fun _ _ _ h => h) (Or.inl ⟨by rfl, fun W _ => by go_simp⟩) ?_
          try simp only [Act.put, List.setIfInBounds_toArray, List.set_cons_zero, List.set_cons_succ]
          refine wpAnyN_take (i := 1) (v := V1) rfl (by kernel_rfl) (by kernel_rfl) (by kernel_rfl) (by kernel_rfl) (fun _ _ _ h => h) (Or.inl ⟨by rfl, fun W hW => by obtain ⟨q1, q2, q3⟩ := hW; go_simp⟩) hHeld ?_
          try simp only [Act.put, List.setIfInBounds_toArray, List.set_cons_zero, List.set_cons_succ]
          refine wpAnyN_pure (i := 2) (v := .pointer (some ⟨wr.heap.size, 0, none⟩)) rfl (by kernel_rfl) (by kernel_rfl) (by kernel_rfl) (fun _ _ _ h => h) (Or.inl ⟨by rfl, fun W _ => by go_simp⟩) ?_
          try simp only [Act.put, List.setIfInBounds_toArray, List.set_cons_zero, List.set_cons_succ]
          refine wpAnyN_take (i := 3) (v := .int .i64 y.1) rfl (by kernel_rfl) (by kernel_rfl) (by kernel_rfl) (by kernel_rfl) (fun _ _ _ h => h) (Or.inl ⟨by rfl, fun W hW => by obtain ⟨q1, q2, q3⟩ := hW; go_simp⟩) hHeld ?_
          try simp only [Act.put, List.setIfInBounds_toArray, List.set_cons_zero, List.set_cons_succ]
          refine wpAnyN_pure (i := 6) (v := .pointer (some ⟨w1.heap.size, 1, none⟩)) rfl (by kernel_rfl) (by kernel_rfl) (by kernel_rfl) (fun _ _ _ h => h) (Or.inl ⟨by rfl, fun W _ => by go_simp⟩) ?_
          try simp only [Act.put, List.setIfInBounds_toArray, List.set_cons_zero, List.set_cons_succ]
          refine wpAnyN_take (i := 7) (v := V2) rfl (by kernel_rfl) (by kernel_rfl) (by kernel_rfl) (by kernel_rfl) (fun _ _ _ h => h) (Or.inl ⟨by rfl, fun W hW => by obtain ⟨q1, q2, q3⟩ := hW; go_simp⟩) hHeld ?_
          try simp only [Act.put, List.setIfInBounds_toArray, List.set_cons_zero, List.set_cons_succ]
          refine wpAnyN_pure (i := 8) (v := .int .i64 (n + y.2)) rfl (by kernel_rfl) (by kernel_rfl) (by kernel_rfl) (fun _ _ _ h => h) (Or.inl ⟨by rfl, fun W _ => by go_simp⟩) ?_
          try simp only [Act.put, List.setIfInBounds_toArray, List.set_cons_zero, List.set_cons_succ]
          clear hHeld
          refine wpAnyN_two (i := 4) (k := 9) (by kernel_rfl) rfl rfl (fun K hK => ?_) (fun K hK => ?_)
          · skip
            go_simp
            refine hK.out _ _ (fun _ _ => ?_) ?_
            · exact ⟨by simp [*, go_sem], by simp [*, go_sem], by simp [*, go_sem]⟩
            clear hK K
            try simp only [Act.put, List.setIfInBounds_toArray, List.set_cons_zero, List.set_cons_succ]
            refine wpAnyN_two (i := 5) (k := 9) (by kernel_rfl) rfl rfl (fun K hK => ?_) (fun K hK => ?_)
            · skip
              refine step_app (o := ⟨some 47, _, _, _, _, _⟩) tyZ (by rfl) _ _ (by rfl) encZ (w1.heap.size + 1) V1 (t.map (·.1)) (by rfl) (TwoSt.own1 (w := w1) (base := w.heap.size) (B := w1.heap.size + 1) (b0 := w.heap.size) (bs := w1.heap.size) (vl := (Value.slice (some ⟨c, off, none⟩) l'.length cap)) (ll := l') (V1 := V1) (V2 := V2) (U2 := V2) (L2 := (t.map (·.2))) (by (repeat (first | with_reducible exact S2.out | with_reducible refine TwoSt.alloc ?_ _ | with_reducible refine TwoSt.drew ?_)); done)) _ 1 [y.1] _ (by rfl) (sl_cell (by simp [*, go_sem]) (by first | omega | (simp; done) | (simp; omega))) (by first | omega | (simp; omega)) (by simp [maxLen]; omega) (by first | omega | (simp; omega)) ?_
              intro v4 w4 ho4 hg4 hl4 hb4 hn4
              obtain ⟨A4, k4, m4, rfl⟩ : ∃ A k m, v4 = .slice A m k := by obtain ⟨A, k, hv, _⟩ := ho4.form; exact ⟨A, k, _, hv⟩
              have P4 := TwoSt.app1 (w := w1) (base := w.heap.size) (B := w1.heap.size + 1) (b0 := w.heap.size) (bs := w1.heap.size) (vl := (Value.slice (some ⟨c, off, none⟩) l'.length cap)) (ll := l') (V1 := V1) (V2 := V2) (U2 := V2) (L2 := (t.map (·.2))) (U1 := V1) (L1 := (t.map (·.1))) (by (repeat (first | with_reducible exact S2.out | with_reducible refine TwoSt.alloc ?_ _ | with_reducible refine TwoSt.drew ?_)); done) hg4 ho4 hl4 hb4
              have r4 := hg4.size
              try simp only [World.size_alloc, World.drew] at r4
              have G4 := grown_new hg4 wr.heap.size (fun g hg => W1.out g hg)
              have x4 := blk_cell P4.sums
              have f4 := blk_frozen P4.sums
              have y4 : w4.cell? ⟨wr.heap.size, 0, none⟩ = some (.int .i64 y.1) := (G4 wr.heap.size 0 (Nat.le_refl _) (by first | omega | (simp; omega))).trans (by simp [*, go_sem])
              have z4 : w1.heap.size < w4.heap.size := P4.size
              have q4 : wr.heap.size < w4.heap.size := by have := hg4.size; (try simp at this); omega
              clear hn4 hb4 hl4 hg4 ho4
              refine hK.out _ _ (fun _ _ => ?_) ?_
              · exact ⟨by simp [*, go_sem], by simp [*, go_sem], by simp [*, go_sem]⟩
              clear hK K
              try simp only [Act.put, List.setIfInBounds_toArray, List.set_cons_zero, List.set_cons_succ]
              refine wpAnyN_pure (i := 11) (v := .pointer (some ⟨w1.heap.size, 0, none⟩)) rfl (by kernel_rfl) (by kernel_rfl) (by kernel_rfl) (fun _ _ _ h => h) (Or.inl ⟨by rfl, fun W _ => by go_simp⟩) ?_
              try simp only [Act.put, List.setIfInBounds_toArray, List.set_cons_zero, List.set_cons_succ]
              refine wpAnyN_one (i := 9) (by kernel_rfl) rfl (fun K hK => ?_)
              go_simp
              refine hK.out _ _ (fun _ _ => ?_) ?_
              · exact ⟨by simp [*, go_sem], by simp [*, go_sem], by simp [*, go_sem]⟩
              clear hK K
              try simp only [Act.put, List.setIfInBounds_toArray, List.set_cons_zero, List.set_cons_succ]
              refine wpAnyN_one (i := 10) (by kernel_rfl) rfl (fun K hK => ?_)
              refine step_app (o := ⟨some 52, _, _, _, _, _⟩) tyZ (by rfl) _ _ (by rfl) encZ (w1.heap.size + 1) V2 (t.map (·.2)) (by rfl) (TwoSt.own2 (w := w1) (base := w.heap.size) (B := w1.heap.size + 1) (b0 := w.heap.size) (bs := w1.heap.size) (vl := (Value.slice (some ⟨c, off, none⟩) l'.length cap)) (ll := l') (V1 := V1) (V2 := V2) (U1 := .slice A4 m4 k4) (L1 := (t.map (·.1)) ++ [y.1]) (by (repeat (first | with_reducible exact P4 | with_reducible refine TwoSt.alloc ?_ _ | with_reducible refine TwoSt.drew ?_)); done)) _ 1 [(n + y.2)] _ (by rfl) (sl_cell (by simp [*, go_sem]) (by first | omega | (simp; done) | (simp; omega))) (by first | omega | (simp; omega)) (by simp [maxLen]; omega) (by first | omega | (simp; omega)) ?_
              intro v5 w5 ho5 hg5 hl5 hb5 hn5
              obtain ⟨A5, k5, m5, rfl⟩ : ∃ A k m, v5 = .slice A m k := by obtain ⟨A, k, hv, _⟩ := ho5.form; exact ⟨A, k, _, hv⟩
              have P5 := TwoSt.app2 (w := w1) (base := w.heap.size) (B := w1.heap.size + 1) (b0 := w.heap.size) (bs := w1.heap.size) (vl := (Value.slice (some ⟨c, off, none⟩) l'.length cap)) (ll := l') (V1 := V1) (V2 := V2) (U1 := .slice A4 m4 k4) (L1 := (t.map (·.1)) ++ [y.1]) (U2 := V2) (L2 := (t.map (·.2))) (by (repeat (first | with_reducible exact P4 | with_reducible refine TwoSt.alloc ?_ _ | with_reducible refine TwoSt.drew ?_)); done) hg5 ho5 hl5 hb5
              have r5 := hg5.size
              try simp only [World.size_alloc, World.drew] at r5
              have G5 := grown_new hg5 wr.heap.size (fun g hg => W2.out g hg)
              have x5 := blk_cell P5.sums
              have f5 := blk_frozen P5.sums
              have y5 : w5.cell? ⟨wr.heap.size, 0, none⟩ = some (.int .i64 y.1) := (G5 wr.heap.size 0 (Nat.le_refl _) (by first | omega | (simp; omega))).trans (by simp [*, go_sem])
              have z5 : w1.heap.size < w5.heap.size := P5.size
              have q5 : wr.heap.size < w5.heap.size := by have := hg5.size; (try simp at this); omega
              clear hn5 hb5 hl5 hg5 ho5
              refine hK.out _ _ (fun _ _ => ?_) ?_
              · exact ⟨by simp [*, go_sem], by simp [*, go_sem], by simp [*, go_sem]⟩
              clear hK K
              try simp only [Act.put, List.setIfInBounds_toArray, List.set_cons_zero, List.set_cons_succ]
              refine wpAnyN_one (i := 12) (by kernel_rfl) rfl (fun K hK => ?_)
              go_simp
              refine hK.out _ _ (fun h _ => absurd (by decide) h) ?_
              clear hK K
              try simp only [Act.put, List.setIfInBounds_toArray, List.set_cons_zero, List.set_cons_succ]
              refine wpAnyN_pure (i := 13) (v := .pointer (some ⟨w1.heap.size, 1, none⟩)) rfl (by kernel_rfl) (by kernel_rfl) (by kernel_rfl) (fun _ _ _ h => h) (Or.inl ⟨by rfl, fun W _ => by go_simp⟩) ?_
              try simp only [Act.put, List.setIfInBounds_toArray, List.set_cons_zero, List.set_cons_succ]
              refine wpAnyN_one (i := 14) (by kernel_rfl) rfl (fun K hK => ?_)
              go_simp
              refine hK.out _ _ (fun h _ => absurd (by decide) h) ?_
              clear hK K
              try simp only [Act.put, List.setIfInBounds_toArray, List.set_cons_zero, List.set_cons_succ]
              refine wpAnyN_done (by kernel_rfl) ?_ _
              have E4 := P5.own1.len_le
              have E5 := P5.own2.len_le
              simp only [List.length_append, List.length_map, List.length_cons, List.length_nil] at E4 E5
              have F4 := Lib.hid E4.1
              have F5 := Lib.hid E5.1
              have PF := Lib.hid P5.st
              clear E4 E5 P4 P5 G4 G5 x4 x5 f4 f5 y4 y5 z4 z5 q4 q5 r4 r5 c20 z20 cs2 cf2
              refine NoPanic.normal ?_
              go_wp2_with fail
              go_roundw
              case rel => exact ⟨q + 1, m4, m5, t ++ [(y.1, n + y.2)], A4, A5, k4, k5, by omega, by go_num, by rw [HE1.out], by have := F4.out; simp; omega, by have := F5.out; simp; omega, by simpa using PF.out, by rw [HTS.out]; have := KT.out.more HLE.out HNE.out; rwa [← HN.out] at this, by simp; omega⟩
              case measure => simp [intOf]; omega
            · skip
              go_simp
              refine hK.out _ _ (fun _ _ => ?_) ?_
              · exact ⟨by simp [*, go_sem], by simp [*, go_sem], by simp [*, go_sem]⟩
              clear hK K
              try simp only [Act.put, List.setIfInBounds_toArray, List.set_cons_zero, List.set_cons_succ]
              refine wpAnyN_one (i := 5) (by kernel_rfl) rfl (fun K hK => ?_)
              refine step_app (o := ⟨some 47, _, _, _, _, _⟩) tyZ (by rfl) _ _ (by rfl) encZ (w1.heap.size + 1) V1 (t.map (·.1)) (by rfl) (TwoSt.own1 (w := w1) (base := w.heap.size) (B := w1.heap.size + 1) (b0 := w.heap.size) (bs := w1.heap.size) (vl := (Value.slice (some ⟨c, off, none⟩) l'.length cap)) (ll := l') (V1 := V1) (V2 := V2) (U2 := V2) (L2 := (t.map (·.2))) (by (repeat (first | with_reducible exact S2.out | with_reducible refine TwoSt.alloc ?_ _ | with_reducible refine TwoSt.drew ?_)); done)) _ 1 [y.1] _ (by rfl) (sl_cell (by simp [*, go_sem]) (by first | omega | (simp; done) | (simp; omega))) (by first | omega | (simp; omega)) (by simp [maxLen]; omega) (by first | omega | (simp; omega)) ?_
              intro v4 w4 ho4 hg4 hl4 hb4 hn4
              obtain ⟨A4, k4, m4, rfl⟩ : ∃ A k m, v4 = .slice A m k := by obtain ⟨A, k, hv, _⟩ := ho4.form; exact ⟨A, k, _, hv⟩
              have P4 := TwoSt.app1 (w := w1) (base := w.heap.size) (B := w1.heap.size + 1) (b0 := w.heap.size) (bs := w1.heap.size) (vl := (Value.slice (some ⟨c, off, none⟩) l'.length cap)) (ll := l') (V1 := V1) (V2 := V2) (U2 := V2) (L2 := (t.map (·.2))) (U1 := V1) (L1 := (t.map (·.1))) (by (repeat (first | with_reducible exact S2.out | with_reducible refine TwoSt.alloc ?_ _ | with_reducible refine TwoSt.drew ?_)); done) hg4 ho4 hl4 hb4
              have r4 := hg4.size
              try simp only [World.size_alloc, World.drew] at r4
              have G4 := grown_new hg4 wr.heap.size (fun g hg => W1.out g hg)
              have x4 := blk_cell P4.sums
              have f4 := blk_frozen P4.sums
              have y4 : w4.cell? ⟨wr.heap.size, 0, none⟩ = some (.int .i64 y.1) := (G4 wr.heap.size 0 (Nat.le_refl _) (by first | omega | (simp; omega))).trans (by simp [*, go_sem])
              have b4 : w4.cell? ⟨w2.heap.size + 1, 0, none⟩ = some (.int .i64 (n + y.2)) := (G4 (w2.heap.size + 1) 0 (by omega) (by first | omega | (simp; done) | (simp; omega))).trans (by simp [*, go_sem])
              have z4 : w1.heap.size < w4.heap.size := P4.size
              have q4 : wr.heap.size < w4.heap.size := by have := hg4.size; (try simp at this); omega
              clear hn4 hb4 hl4 hg4 ho4
              refine hK.out _ _ (fun _ _ => ?_) ?_
              · exact ⟨by simp [*, go_sem], by simp [*, go_sem], by simp [*, go_sem]⟩
              clear hK K
              try simp only [Act.put, List.setIfInBounds_toArray, List.set_cons_zero, List.set_cons_succ]
              refine wpAnyN_pure (i := 11) (v := .pointer (some ⟨w1.heap.size, 0, none⟩)) rfl (by kernel_rfl) (by kernel_rfl) (by kernel_rfl) (fun _ _ _ h => h) (Or.inl ⟨by rfl, fun W _ => by go_simp⟩) ?_
              try simp only [Act.put, List.setIfInBounds_toArray, List.set_cons_zero, List.set_cons_succ]
              refine wpAnyN_one (i := 10) (by kernel_rfl) rfl (fun K hK => ?_)
              refine step_app (o := ⟨some 52, _, _, _, _, _⟩) tyZ (by rfl) _ _ (by rfl) encZ (w1.heap.size + 1) V2 (t.map (·.2)) (by rfl) (TwoSt.own2 (w := w1) (base := w.heap.size) (B := w1.heap.size + 1) (b0 := w.heap.size) (bs := w1.heap.size) (vl := (Value.slice (some ⟨c, off, none⟩) l'.length cap)) (ll := l') (V1 := V1) (V2 := V2) (U1 := .slice A4 m4 k4) (L1 := (t.map (·.1)) ++ [y.1]) (by (repeat (first | with_reducible exact P4 | with_reducible refine TwoSt.alloc ?_ _ | with_reducible refine TwoSt.drew ?_)); done)) _ 1 [(n + y.2)] _ (by rfl) (sl_cell (by simp [*, go_sem]) (by first | omega | (simp; done) | (simp; omega))) (by first | omega | (simp; omega)) (by simp [maxLen]; omega) (by first | omega | (simp; omega)) ?_
              intro v5 w5 ho5 hg5 hl5 hb5 hn5
              obtain ⟨A5, k5, m5, rfl⟩ : ∃ A k m, v5 = .slice A m k := by obtain ⟨A, k, hv, _⟩ := ho5.form; exact ⟨A, k, _, hv⟩
              have P5 := TwoSt.app2 (w := w1) (base := w.heap.size) (B := w1.heap.size + 1) (b0 := w.heap.size) (bs := w1.heap.size) (vl := (Value.slice (some ⟨c, off, none⟩) l'.length cap)) (ll := l') (V1 := V1) (V2 := V2) (U1 := .slice A4 m4 k4) (L1 := (t.map (·.1)) ++ [y.1]) (U2 := V2) (L2 := (t.map (·.2))) (by (repeat (first | with_reducible exact P4 | with_reducible refine TwoSt.alloc ?_ _ | with_reducible refine TwoSt.drew ?_)); done) hg5 ho5 hl5 hb5
              have r5 := hg5.size
              try simp only [World.size_alloc, World.drew] at r5
              have G5 := grown_new hg5 wr.heap.size (fun g hg => W2.out g hg)
              have x5 := blk_cell P5.sums
              have f5 := blk_frozen P5.sums
              have y5 : w5.cell? ⟨wr.heap.size, 0, none⟩ = some (.int .i64 y.1) := (G5 wr.heap.size 0 (Nat.le_refl _) (by first | omega | (simp; omega))).trans (by simp [*, go_sem])
              have z5 : w1.heap.size < w5.heap.size := P5.size
              have q5 : wr.heap.size < w5.heap.size := by have := hg5.size; (try simp at this); omega
              clear hn5 hb5 hl5 hg5 ho5
              refine hK.out _ _ (fun _ _ => ?_) ?_
              · exact ⟨by simp [*, go_sem], by simp [*, go_sem], by simp [*, go_sem]⟩
              clear hK K
              try simp only [Act.put, List.setIfInBounds_toArray, List.set_cons_zero, List.set_cons_succ]
              refine wpAnyN_one (i := 12) (by kernel_rfl) rfl (fun K hK => ?_)
              go_simp
              refine hK.out _ _ (fun h _ => absurd (by decide) h) ?_
              clear hK K
              try simp only [Act.put, List.setIfInBounds_toArray, List.set_cons_zero, List.set_cons_succ]
              refine wpAnyN_pure (i := 13) (v := .pointer (some ⟨w1.heap.size, 1, none⟩)) rfl (by kernel_rfl) (by kernel_rfl) (by kernel_rfl) (fun _ _ _ h => h) (Or.inl ⟨by rfl, fun W _ => by go_simp⟩) ?_
              try simp only [Act.put, List.setIfInBounds_toArray, List.set_cons_zero, List.set_cons_succ]
              refine wpAnyN_one (i := 14) (by kernel_rfl) rfl (fun K hK => ?_)
              go_simp
              refine hK.out _ _ (fun h _ => absurd (by decide) h) ?_
              clear hK K
              try simp only [Act.put, List.setIfInBounds_toArray, List.set_cons_zero, List.set_cons_succ]
              refine wpAnyN_done (by kernel_rfl) ?_ _
              have E4 := P5.own1.len_le
              have E5 := P5.own2.len_le
              simp only [List.length_append, List.length_map, List.length_cons, List.length_nil] at E4 E5
              have F4 := Lib.hid E4.1
              have F5 := Lib.hid E5.1
              have PF := Lib.hid P5.st
              clear E4 E5 P4 P5 G4 G5 x4 x5 f4 f5 y4 y5 z4 z5 q4 q5 r4 r5 c20 z20 cs2 cf2
              refine NoPanic.normal ?_
              go_wp2_with fail
              go_roundw
              case rel => exact ⟨q + 1, m4, m5, t ++ [(y.1, n + y.2)], A4, A5, k4, k5, by omega, by go_num, by rw [HE1.out], by have := F4.out; simp; omega, by have := F5.out; simp; omega, by simpa using PF.out, by rw [HTS.out]; have := KT.out.more HLE.out HNE.out; rwa [← HN.out] at this, by simp; omega⟩
              case measure => simp [intOf]; omega
          · skip
            go_simp
            refine hK.out _ _ (fun _ _ => ?_) ?_
            · exact ⟨by simp [*, go_sem], by simp [*, go_sem], by simp [*, go_sem]⟩
            clear hK K
            try simp only [Act.put, List.setIfInBounds_toArray, List.set_cons_zero, List.set_cons_succ]
            refine wpAnyN_one (i := 4) (by kernel_rfl) rfl (fun K hK => ?_)
            go_simp
            refine hK.out _ _ (fun _ _ => ?_) ?_
            · exact ⟨by simp [*, go_sem], by simp [*, go_sem], by simp [*, go_sem]⟩
            clear hK K
            try simp only [Act.put, List.setIfInBounds_toArray, List.set_cons_zero, List.set_cons_succ]
            refine wpAnyN_one (i := 5) (by kernel_rfl) rfl (fun K hK => ?_)
            refine step_app (o := ⟨some 47, _, _, _, _, _⟩) tyZ (by rfl) _ _ (by rfl) encZ (w1.heap.size + 1) V1 (t.map (·.1)) (by rfl) (TwoSt.own1 (w := w1) (base := w.heap.size) (B := w1.heap.size + 1) (b0 := w.heap.size) (bs := w1.heap.size) (vl := (Value.slice (some ⟨c, off, none⟩) l'.length cap)) (ll := l') (V1 := V1) (V2 := V2) (U2 := V2) (L2 := (t.map (·.2))) (by (repeat (first | with_reducible exact S2.out | with_reducible refine TwoSt.alloc ?_ _ | with_reducible refine TwoSt.drew ?_)); done)) _ 1 [y.1] _ (by rfl) (sl_cell (by simp [*, go_sem]) (by first | omega | (simp; done) | (simp; omega))) (by first | omega | (simp; omega)) (by simp [maxLen]; omega) (by first | omega | (simp; omega)) ?_
            intro v4 w4 ho4 hg4 hl4 hb4 hn4
            obtain ⟨A4, k4, m4, rfl⟩ : ∃ A k m, v4 = .slice A m k := by obtain ⟨A, k, hv, _⟩ := ho4.form; exact ⟨A, k, _, hv⟩
            have P4 := TwoSt.app1 (w := w1) (base := w.heap.size) (B := w1.heap.size + 1) (b0 := w.heap.size) (bs := w1.heap.size) (vl := (Value.slice (some ⟨c, off, none⟩) l'.length cap)) (ll := l') (V1 := V1) (V2 := V2) (U2 := V2) (L2 := (t.map (·.2))) (U1 := V1) (L1 := (t.map (·.1))) (by (repeat (first | with_reducible exact S2.out | with_reducible refine TwoSt.alloc ?_ _ | with_reducible refine TwoSt.drew ?_)); done) hg4 ho4 hl4 hb4
            have r4 := hg4.size
            try simp only [World.size_alloc, World.drew] at r4
            have G4 := grown_new hg4 wr.heap.size (fun g hg => W1.out g hg)
            have x4 := blk_cell P4.sums
            have f4 := blk_frozen P4.sums
            have y4 : w4.cell? ⟨wr.heap.size, 0, none⟩ = some (.int .i64 y.1) := (G4 wr.heap.size 0 (Nat.le_refl _) (by first | omega | (simp; omega))).trans (by simp [*, go_sem])
            have b4 : w4.cell? ⟨w2.heap.size, 0, none⟩ = some (.int .i64 (n + y.2)) := (G4 (w2.heap.size) 0 (by omega) (by first | omega | (simp; done) | (simp; omega))).trans (by simp [*, go_sem])
            have z4 : w1.heap.size < w4.heap.size := P4.size
            have q4 : wr.heap.size < w4.heap.size := by have := hg4.size; (try simp at this); omega
            clear hn4 hb4 hl4 hg4 ho4
            refine hK.out _ _ (fun _ _ => ?_) ?_
            · exact ⟨by simp [*, go_sem], by simp [*, go_sem], by simp [*, go_sem]⟩
            clear hK K
            try simp only [Act.put, List.setIfInBounds_toArray, List.set_cons_zero, List.set_cons_succ]
            refine wpAnyN_pure (i := 11) (v := .pointer (some ⟨w1.heap.size, 0, none⟩)) rfl (by kernel_rfl) (by kernel_rfl) (by kernel_rfl) (fun _ _ _ h => h) (Or.inl ⟨by rfl, fun W _ => by go_simp⟩) ?_
            try simp only [Act.put, List.setIfInBounds_toArray, List.set_cons_zero, List.set_cons_succ]
            refine wpAnyN_one (i := 10) (by kernel_rfl) rfl (fun K hK => ?_)
            refine step_app (o := ⟨some 52, _, _, _, _, _⟩) tyZ (by rfl) _ _ (by rfl) encZ (w1.heap.size + 1) V2 (t.map (·.2)) (by rfl) (TwoSt.own2 (w := w1) (base := w.heap.size) (B := w1.heap.size + 1) (b0 := w.heap.size) (bs := w1.heap.size) (vl := (Value.slice (some ⟨c, off, none⟩) l'.length cap)) (ll := l') (V1 := V1) (V2 := V2) (U1 := .slice A4 m4 k4) (L1 := (t.map (·.1)) ++ [y.1]) (by (repeat (first | with_reducible exact P4 | with_reducible refine TwoSt.alloc ?_ _ | with_reducible refine TwoSt.drew ?_)); done)) _ 1 [(n + y.2)] _ (by rfl) (sl_cell (by simp [*, go_sem]) (by first | omega | (simp; done) | (simp; omega))) (by first | omega | (simp; omega)) (by simp [maxLen]; omega) (by first | omega | (simp; omega)) ?_
            intro v5 w5 ho5 hg5 hl5 hb5 hn5
            obtain ⟨A5, k5, m5, rfl⟩ : ∃ A k m, v5 = .slice A m k := by obtain ⟨A, k, hv, _⟩ := ho5.form; exact ⟨A, k, _, hv⟩
            have P5 := TwoSt.app2 (w := w1) (base := w.heap.size) (B := w1.heap.size + 1) (b0 := w.heap.size) (bs := w1.heap.size) (vl := (Value.slice (some ⟨c, off, none⟩) l'.length cap)) (ll := l') (V1 := V1) (V2 := V2) (U1 := .slice A4 m4 k4) (L1 := (t.map (·.1)) ++ [y.1]) (U2 := V2) (L2 := (t.map (·.2))) (by (repeat (first | with_reducible exact P4 | with_reducible refine TwoSt.alloc ?_ _ | with_reducible refine TwoSt.drew ?_)); done) hg5 ho5 hl5 hb5
            have r5 := hg5.size
            try simp only [World.size_alloc, World.drew] at r5
            have G5 := grown_new hg5 wr.heap.size (fun g hg => W2.out g hg)
            have x5 := blk_cell P5.sums
            have f5 := blk_frozen P5.sums
            have y5 : w5.cell? ⟨wr.heap.size, 0, none⟩ = some (.int .i64 y.1) := (G5 wr.heap.size 0 (Nat.le_refl _) (by first | omega | (simp; omega))).trans (by simp [*, go_sem])
            have z5 : w1.heap.size < w5.heap.size := P5.size
            have q5 : wr.heap.size < w5.heap.size := by have := hg5.size; (try simp at this); omega
            clear hn5 hb5 hl5 hg5 ho5
            refine hK.out _ _ (fun _ _ => ?_) ?_
            · exact ⟨by simp [*, go_sem], by simp [*, go_sem], by simp [*, go_sem]⟩
            clear hK K
            try simp only [Act.put, List.setIfInBounds_toArray, List.set_cons_zero, List.set_cons_succ]
            refine wpAnyN_one (i := 12) (by kernel_rfl) rfl (fun K hK => ?_)
            go_simp
            refine hK.out _ _ (fun h _ => absurd (by decide) h) ?_
            clear hK K
            try simp only [Act.put, List.setIfInBounds_toArray, List.set_cons_zero, List.set_cons_succ]
            refine wpAnyN_pure (i := 13) (v := .pointer (some ⟨w1.heap.size, 1, none⟩)) rfl (by kernel_rfl) (by kernel_rfl) (by kernel_rfl) (fun _ _ _ h => h) (Or.inl ⟨by rfl, fun W _ => by go_simp⟩) ?_
            try simp only [Act.put, List.setIfInBounds_toArray, List.set_cons_zero, List.set_cons_succ]
            refine wpAnyN_one (i := 14) (by kernel_rfl) rfl (fun K hK => ?_)
            go_simp
            refine hK.out _ _ (fun h _ => absurd (by decide) h) ?_
            clear hK K
            try simp only [Act.put, List.setIfInBounds_toArray, List.set_cons_zero, List.set_cons_succ]
            refine wpAnyN_done (by kernel_rfl) ?_ _
            have E4 := P5.own1.len_le
            have E5 := P5.own2.len_le
            simp only [List.length_append, List.length_map, List.length_cons, List.length_nil] at E4 E5
            have F4 := Lib.hid E4.1
            have F5 := Lib.hid E5.1
            have PF := Lib.hid P5.st
            clear E4 E5 P4 P5 G4 G5 x4 x5 f4 f5 y4 y5 z4 z5 q4 q5 r4 r5 c20 z20 cs2 cf2
            refine NoPanic.normal ?_
            go_wp2_with fail
            go_roundw
            case rel => exact ⟨q + 1, m4, m5, t ++ [(y.1, n + y.2)], A4, A5, k4, k5, by omega, by go_num, by rw [HE1.out], by have := F4.out; simp; omega, by have := F5.out; simp; omega, by simpa using PF.out, by rw [HTS.out]; have := KT.out.more HLE.out HNE.out; rwa [← HN.out] at this, by simp; omega⟩
            case measure => simp [intOf]; omega
    · obtain rfl : q = l'.length := by omega
      rw [List.take_length] at KT
      have ct := blk_cell hst.zero
      have cft := blk_frozen hst.zero
      have zt := lt_of_block hst.zero
      clear hst htab
      subst hk1
      subst hk2
      go_wp2_with fail
      refine bodyPost_ret (v := .agg #[.slice A1 t.length c1, .slice A2 t.length c2]) (by simp only [results, Tryz.results144]; go_simp) rfl ⟨t, A1, c1, A2, c2, rfl, KT.out.perm HP.out, by have := HLen.out; omega, ?_, ?_, ?_⟩
      · exact ((KST.out.own1.setCellB (by simp only; omega)).setCellB (by simp only; omega)).base_le (by omega)
      · exact ((KST.out.own2.setCellB (by simp only; omega)).setCellB (by simp only; omega)).base_le (by omega)
      · have hB := (KST.out.blw.setCell (p := ⟨w.heap.size, 0, none⟩) (Nat.le_refl _) (.slice A1 t.length c1)).setCell (p := ⟨w.heap.size, 1, none⟩) (Nat.le_refl _) (.slice A2 t.length c2)
        have hA : Below w.heap.size w (w.alloc (.cells #[.slice none 0 0, .slice none 0 0] 178)) := (Below.refl _ _).alloc (Nat.le_refl _) _
        exact turn_then hA HTu.out hB
end Go.Proofs.YtpngailmhdiiiaaGreat
/- Package reach: Between. -/
namespace Go.Proofs.YtpngailmhdiiiaaGreat
open Go.ChangeShapes Go.WideShapes Go.ChangeAt Go.RowKit
set_option linter.unusedVariables false
set_option maxRecDepth 100000

/-- What those nodes weigh that lie in a range, and what those weigh that meet it. -/
def inLow (a b lo hi : Int) : Bool := decide (a ≤ lo) && decide (hi ≤ b)
def inHigh (a b lo hi : Int) : Bool := decide (lo ≤ b) && decide (a ≤ hi)
def betwLow (l : Int) (r : List Nd) (a b : Int) : Int := weighR l (inLow a b) r
def betwHigh (l : Int) (r : List Nd) (a b : Int) : Int := weighR l (inHigh a b) r
theorem weighR_one (l : Int) (f : Int → Int → Bool) (x : Nd) : weighR l f [x] = if f (endsOf l x.1).1 (endsOf l x.1).2.1 = true then x.2 else 0 := by simp only [weighR]; simp
theorem weighR_take {l : Int} {f : Int → Int → Bool} {r : List Nd} {q : Nat} (h : q < r.length) : weighR l f (r.take (q + 1)) = weighR l f (r.take q) + if f (endsOf l r[q].1).1 (endsOf l r[q].1).2.1 = true then r[q].2 else 0 := by
  rw [List.take_succ_eq_append_getElem h, weighR_append, weighR_one]

theorem le_or_dec (a b : Int) : a ≤ b ∨ decide (a ≤ b) = false := by
  by_cases h : a ≤ b
  · exact .inl h
  · exact .inr (decide_eq_false h)
theorem reach_Between1 (w : World) (id l a b : Int) (p q s : Nat) (hid : id ≤ 9223372036854775807) (h1 : w.cell? ⟨p, 0, none⟩ = some (.int .i64 l)) (h2 : w.cell? ⟨q, 0, none⟩ = some (.int .i64 a)) (h3 : w.cell? ⟨s, 0, none⟩ = some (.int .i64 b)) :
    Calls Tryz.prog 71 #[.int .i64 id, .pointer (some ⟨p, 0, none⟩), .pointer (some ⟨q, 0, none⟩), .pointer (some ⟨s, 0, none⟩)] w fun e w' => e = .returned (.tuple #[.bool (inLow a b (endsOf l id).1 (endsOf l id).2.1), .bool (inHigh a b (endsOf l id).1 (endsOf l id).2.1)]) ∧ Below w.heap.size w w' := by
  have HE := Lib.hid (twig_Ends · l id hid)
  have zq := lt_of_cell h2
  have zs := lt_of_cell h3
  generalize endsOf l id = t at HE ⊢
  obtain ⟨lo, hi, ok⟩ := t
  unfold endsV at HE
  simp only [inLow, inHigh]
  have H2 := Lib.hid h2
  have H3 := Lib.hid h3
  clear h2 h3
  rcases le_or_dec a lo with k1 | k1
  all_goals rcases le_or_dec lo b with k2 | k2
  all_goals (
    go_enter Tryz.func71, Tryz.ntmps71
    go_wp2_with fail
    refine (HE.out _).mono ?_
    rintro e w1 ⟨rfl, hb1⟩
    have B1 : Below w.heap.size w w1 := Below.then_ (by repeat (first | with_reducible exact Below.refl _ _ | with_reducible assumption | ((with_reducible refine Below.setCell ?_ ?_ _); rotate_left; · (first | omega | exact Nat.le_refl _ | (simp <;> omega))) | (with_reducible refine Below.allocW ?_ _) | (with_reducible refine Below.drew ?_) | (with_reducible refine Below.extW ?_ _))) hb1
    have s1 : w.heap.size ≤ w1.heap.size := B1.size
    have c2 := (hb1.cell (p := ⟨q, 0, none⟩) zq).trans H2.out
    have c3 := (hb1.cell (p := ⟨s, 0, none⟩) zs).trans H3.out
    have z2 := Nat.lt_of_lt_of_le zq s1
    have z3 := Nat.lt_of_lt_of_le zs s1
    go_wp2_with fail
    refine wp_region_ext (by kernel_rfl) (by kernel_rfl) ?_
    repeat (go_big_quiet_step (fail))
    refine wpQuiet_nil ?_
    intro w2 hb2
    replace hb2 := below_of_ext hb2
    have B2 : Below w.heap.size w w2 := Below.then_ (by repeat (first | with_reducible exact Below.refl _ _ | with_reducible assumption | ((with_reducible refine Below.setCell ?_ ?_ _); rotate_left; · (first | omega | exact Nat.le_refl _ | (simp <;> omega))) | (with_reducible refine Below.allocW ?_ _) | (with_reducible refine Below.drew ?_) | (with_reducible refine Below.extW ?_ _))) hb2
    have s2 : w.heap.size ≤ w2.heap.size := B2.size
    go_wp2_with fail
    go_ret2
    exact ⟨by simp [k1, k2], B2⟩)

/-- The cell of a Both. -/
def bothAt (w : World) (b : Nat) (lo hi : Int) : Prop := w.heap[b]? = some (.cells #[.int .i64 lo, .int .i64 hi] 29 (0, 0))
theorem bothAt.below {w w' : World} {b : Nat} {lo hi : Int} (h : bothAt w b lo hi) (hb : Below w.heap.size w w') : bothAt w' b lo hi := blk_below h hb
theorem bothAt.alloc {w : World} {b : Nat} {lo hi : Int} (h : bothAt w b lo hi) (o : Obj) : bothAt (w.alloc o) b lo hi := h.below ((Below.refl _ _).alloc (Nat.le_refl _) o)
theorem bothAt.drew {w : World} {b : Nat} {lo hi : Int} (h : bothAt w b lo hi) : bothAt w.drew b lo hi := h
theorem bothAt.set0 {w : World} {b : Nat} {lo hi : Int} (h : bothAt w b lo hi) (x : Int) : bothAt (w.setCell ⟨b, 0, none⟩ (.int .i64 x)) b x hi := heap_set_at (i := 0) h _
theorem bothAt.set1 {w : World} {b : Nat} {lo hi : Int} (h : bothAt w b lo hi) (x : Int) : bothAt (w.setCell ⟨b, 1, none⟩ (.int .i64 x)) b lo x := heap_set_at (i := 1) h _
theorem bothAt.set {w : World} {b q o : Nat} {lo hi : Int} (h : bothAt w b lo hi) (hne : b ≠ q) (u : Value) : bothAt (w.setCell ⟨q, o, none⟩ u) b lo hi := (Below.heap_setCell _ _ _ _ hne).trans h
theorem bothAt.new (w : World) (lo hi : Int) : bothAt (w.alloc (.cells #[.int .i64 lo, .int .i64 hi] 29)) w.heap.size lo hi := heap_alloc_new _ _

set_option maxHeartbeats 2000000 in
theorem sum_Between (w : World) (g K l : Nat) (k : Int) (r : List Nd) (F : Nat → Prop) (a b : Int) (p q s : Nat) (h : DigAt w g K l k r F) (hn : r.length ≤ 67108864) (h1 : w.cell? ⟨p, 0, none⟩ = some (.int .i64 l)) (h2 : w.cell? ⟨q, 0, none⟩ = some (.int .i64 a)) (h3 : w.cell? ⟨s, 0, none⟩ = some (.int .i64 b)) :
    Calls Tryz.prog 70 #[.pointer (some ⟨g, 0, none⟩), .func (.func 71) #[] #[.pointer (some ⟨p, 0, none⟩), .pointer (some ⟨q, 0, none⟩), .pointer (some ⟨s, 0, none⟩)]] w fun e w' => e = .returned (.agg #[.int .i64 (betwLow l r a b), .int .i64 (betwHigh l r a b)]) ∧ Below w.heap.size w w' := by
  have hf := h.fits
  have hll := h.l_le
  have HD := Lib.hid h
  have z1 := lt_of_cell h1
  have z2 := lt_of_cell h2
  have z3 := lt_of_cell h3
  have H1 := Lib.hid h1
  have H2 := Lib.hid h2
  have H3 := Lib.hid h3
  clear h h1 h2 h3
  go_enter Tryz.func70, Tryz.ntmps70
  go_wp2_with fail
  have B0 : Below w.heap.size w ((w.alloc (.cells #[.int .i64 0, .int .i64 0] 29)).alloc (.cells #[.int .i64 0, .int .i64 0] 29)) := (by repeat (first | with_reducible exact Below.refl _ _ | with_reducible assumption | ((with_reducible refine Below.setCell ?_ ?_ _); rotate_left; · (first | omega | exact Nat.le_refl _ | (simp <;> omega))) | (with_reducible refine Below.allocW ?_ _) | (with_reducible refine Below.drew ?_) | (with_reducible refine Below.extW ?_ _)))
  have K0 := Lib.hid ((bothAt.new w 0 0).alloc (.cells #[.int .i64 0, .int .i64 0] 29))
  have K1 := Lib.hid (bothAt.new (w.alloc (.cells #[.int .i64 0, .int .i64 0] 29)) 0 0)
  simp only [World.size_alloc] at K1
  refine (digest_Nodes _ g K l k r F (HD.out.below B0) hn).mono ?_
  rintro e w2 ⟨v, rfl, ho, hb2⟩
  have B2 : Below w.heap.size w w2 := Below.then_ (by repeat (first | with_reducible exact Below.refl _ _ | with_reducible assumption | ((with_reducible refine Below.setCell ?_ ?_ _); rotate_left; · (first | omega | exact Nat.le_refl _ | (simp <;> omega))) | (with_reducible refine Below.allocW ?_ _) | (with_reducible refine Below.drew ?_) | (with_reducible refine Below.extW ?_ _))) hb2
  have s2 : w.heap.size ≤ w2.heap.size := B2.size
  have HO := Lib.hid ho
  simp only [World.size_alloc] at HO
  have M0 := Lib.hid (K0.out.below hb2)
  have M1 := Lib.hid (K1.out.below hb2)
  have z0 : w.heap.size + 2 ≤ w2.heap.size := by have := hb2.size; simp at this; omega
  obtain ⟨A, cap, rfl, _⟩ := ho.form
  clear ho K0 K1 hb2 B0
  go_wp2_with fail
  go_loopw [13] (fun i wr => ∃ q : Nat, q ≤ r.length ∧ i = .int .i64 q ∧ bothAt wr w.heap.size 0 0 ∧ bothAt wr (w.heap.size + 1) (betwLow l (r.take q) a b) (betwHigh l (r.take q) a b) ∧ Own wr (w.heap.size + 1 + 1) 100 encN (.slice A r.length cap) r ∧ Below w.heap.size w wr) (fun i _ => r.length - (intOf i).toNat)
  case atStart => exact ⟨0, Nat.zero_le _, rfl, M0.out, M1.out, HO.out, B2⟩
  case round =>
    obtain ⟨j, hj, rfl, hm0, hm1, hown, hB⟩ := hrel
    have KO := Lib.hid hown
    have N0 := Lib.hid hm0
    have N1 := Lib.hid hm1
    have hs := hB.size
    have zn1 := lt_of_block hm1
    clear hown hm0
    by_cases hlt : j < r.length
    · obtain ⟨c, off, rfl, hc, hcl⟩ := KO.out.sl.at_ hlt
      have d0 := hcl 0 (.int .i64 r[j].1) rfl
      have d1 := hcl 1 (.int .i64 r[j].2) rfl
      simp only [Nat.add_zero] at d0
      have hx := hf.roll.2 _ (List.getElem_mem hlt)
      have hxl := hf.lt _ (List.getElem_mem hlt)
      have e1 := sumR_take_succ hlt
      have e2 := sumR_take_le hf.roll (j + 1)
      have e3 := hf.sum
      have e5 := weighR_le (l := l) (f := inLow a b) (hf.roll.take j)
      have e6 := weighR_le (l := l) (f := inHigh a b) (hf.roll.take j)
      have E7 : betwLow l (r.take (j + 1)) a b = _ := weighR_take hlt
      have E8 : betwHigh l (r.take (j + 1)) a b = _ := weighR_take hlt
      have hp := pow_48 (n := l) hll.2
      unfold betwLow at hm1 N1 E7 ⊢
      unfold betwHigh at hm1 N1 E8 ⊢
      obtain ⟨x, hxe⟩ : ∃ x, x = r[j] := ⟨_, rfl⟩
      rw [← hxe] at d0 d1 hx hxl e1 E7 E8
      have n2 : weighR l (inLow a b) (r.take j) + x.2 ≤ 72057594037927935 := by omega
      have n3 : weighR l (inHigh a b) (r.take j) + x.2 ≤ 72057594037927935 := by omega
      have n0 := e5.1
      have n1 := e6.1
      have hx1 : x.1 ≤ 562949953421312 := by omega
      have hx2 := hx.2
      have HC := Lib.hid (fun W => reach_Between1 W x.1 l a b p q s (by omega))
      generalize weighR l (inLow a b) (r.take j) = m at n0 n2 E7 hm1 N1
      generalize weighR l (inHigh a b) (r.take j) = n at n1 n3 E8 hm1 N1
      generalize inLow a b (endsOf l x.1).1 (endsOf l x.1).2.1 = bl at E7 HC
      generalize inHigh a b (endsOf l x.1).1 (endsOf l x.1).2.1 = bh at E8 HC
      have E7 := Lib.hid E7
      have E8 := Lib.hid E8
      clear hcl e1 e2 e3 e5 e6 hxe hxl hp hx hm1
      go_wp2_with fail
      have W3 : Below w.heap.size w (wr.alloc (.cells #[.int .i64 x.1, .int .i64 x.2] 100)) := hB.alloc hs _
      refine (HC.out _ ((W3.cell (p := ⟨p, 0, none⟩) z1).trans H1.out) ((W3.cell (p := ⟨q, 0, none⟩) z2).trans H2.out) ((W3.cell (p := ⟨s, 0, none⟩) z3).trans H3.out)).mono ?_
      rintro e w4 ⟨rfl, hb4⟩
      have B4 : Below w.heap.size w w4 := Below.then_ (by repeat (first | with_reducible exact Below.refl _ _ | with_reducible assumption | ((with_reducible refine Below.setCell ?_ ?_ _); rotate_left; · (first | omega | exact Nat.le_refl _ | (simp <;> omega))) | (with_reducible refine Below.allocW ?_ _) | (with_reducible refine Below.drew ?_) | (with_reducible refine Below.extW ?_ _))) hb4
      have s4 : w.heap.size ≤ w4.heap.size := B4.size
      have z4_0 : wr.heap.size < w4.heap.size := by have := hb4.size; (try simp at this); omega
      have y4_0 : wr.heap.size ≤ w4.heap.size := Nat.le_of_lt z4_0
      have c4_0 := fun o => hb4.cell (p := ⟨wr.heap.size, o, none⟩) (by first | omega | (simp <;> omega))
      have f4_0 := fun o => hb4.frozen (p := ⟨wr.heap.size, o, none⟩) (by first | omega | (simp <;> omega))
      have L0 := Lib.hid ((N0.out.alloc _).below hb4)
      have l1 := (N1.out.alloc _).below hb4
      have L1 := Lib.hid l1
      have LO := Lib.hid ((KO.out.alloc _).below hb4)
      have cc := blk_cell l1
      have cf := blk_frozen l1
      have zz := lt_of_block l1
      have hne : w.heap.size ≠ w.heap.size + 1 := by omega
      clear l1 hb4
      cases bl
      all_goals cases bh
      all_goals (
        go_wp2_with fail
        go_roundw
        case rel =>
          have F7 := E7.out
          have F8 := E8.out
          simp only [Bool.false_eq_true, if_false, if_true, Int.add_zero, reduceIte] at F7 F8
          refine ⟨j + 1, by omega, by go_num, ?_, ?_, ?_, (by repeat (first | with_reducible exact Below.refl _ _ | with_reducible assumption | ((with_reducible refine Below.setCell ?_ ?_ _); rotate_left; · (first | omega | exact Nat.le_refl _ | (simp <;> omega))) | (with_reducible refine Below.allocW ?_ _) | (with_reducible refine Below.drew ?_) | (with_reducible refine Below.extW ?_ _)))⟩
          · first
              | exact L0.out
              | exact L0.out.set hne _
              | exact (L0.out.set hne _).set hne _
          · rw [F7, F8]
            first
              | exact L1.out
              | exact L1.out.set0 _
              | exact L1.out.set1 _
              | exact (L1.out.set0 _).set1 _
          · first
              | exact LO.out
              | exact LO.out.setCellB (by simp only; omega)
              | exact (LO.out.setCellB (by simp only; omega)).setCellB (by simp only; omega)
        case measure => simp [intOf]; omega)
    · obtain rfl : j = r.length := by omega
      rw [List.take_length] at N1 hm1
      have cc := blk_cell hm1
      have cf0 := blk_frozen N0.out
      have cc0 := blk_cell N0.out
      have zn0 := lt_of_block N0.out
      clear hm1
      go_wp2_with fail
      exact bodyPost_ret (v := .agg #[.int .i64 (betwLow l r a b), .int .i64 (betwHigh l r a b)]) (by simp only [results, Tryz.results70]; go_simp) rfl ⟨rfl, (by repeat (first | with_reducible exact Below.refl _ _ | with_reducible assumption | ((with_reducible refine Below.setCell ?_ ?_ _); rotate_left; · (first | omega | exact Nat.le_refl _ | (simp <;> omega))) | (with_reducible refine Below.allocW ?_ _) | (with_reducible refine Below.drew ?_) | (with_reducible refine Below.extW ?_ _)))⟩
end Go.Proofs.YtpngailmhdiiiaaGreat
/- Package reach: Between and Share. -/
namespace Go.Proofs.YtpngailmhdiiiaaGreat
open Go.ChangeShapes Go.WideShapes Go.ChangeAt Go.RowKit
set_option linter.unusedVariables false
set_option maxRecDepth 100000

/-- What Between tells: the two weights, and the error. -/
def betw (l : Int) (r : List Nd) (a b : Int) : Int × Int × Int := if b < a then (0, 0, 2) else (betwLow l r a b, betwHigh l r a b, 0)
/-- What Share tells. -/
def share (l : Int) (r : List Nd) (a b d : Int) : Int × Int × Int :=
  if sumR r = 0 then (0, 0, 7) else if d < 1 ∨ b < a then (0, 0, 2) else (((betwLow l r a b).toNat * d.toNat / (sumR r).toNat : Nat), (upV (betwHigh l r a b).toNat d.toNat (sumR r).toNat : Nat), 0)
def bothV (t : Int × Int × Int) : Value := .tuple #[.agg #[.int .i64 t.1, .int .i64 t.2.1], .int .i64 t.2.2]
theorem betw_no {l a b : Int} {r : List Nd} (h : b < a) : bothV (betw l r a b) = .tuple #[.agg #[.int .i64 0, .int .i64 0], .int .i64 2] := by unfold betw; rw [if_pos h]; rfl
theorem betw_yes {l a b : Int} {r : List Nd} (h : ¬ b < a) : bothV (betw l r a b) = .tuple #[.agg #[.int .i64 (betwLow l r a b), .int .i64 (betwHigh l r a b)], .int .i64 0] := by unfold betw; rw [if_neg h]; rfl

theorem reach_Between (w : World) (g K l : Nat) (k : Int) (r : List Nd) (F : Nat → Prop) (a b : Int) (h : DigAt w g K l k r F) (hn : r.length ≤ 67108864) :
    Calls Tryz.prog 27 #[.pointer (some ⟨g, 0, none⟩), .int .i64 a, .int .i64 b] w fun e w' => e = .returned (bothV (betw l r a b)) ∧ Below w.heap.size w w' := by
  have HD := Lib.hid h
  clear h
  by_cases hab : b < a
  · rw [betw_no hab]
    go_enter Tryz.func27, Tryz.ntmps27
    go_wp2_with fail
    exact bodyPost_ret (v := .tuple #[.agg #[.int .i64 0, .int .i64 0], .int .i64 2]) (by simp only [results, Tryz.results27]; go_simp) rfl ⟨rfl, (by repeat (first | with_reducible exact Below.refl _ _ | with_reducible assumption | ((with_reducible refine Below.setCell ?_ ?_ _); rotate_left; · (first | omega | exact Nat.le_refl _ | (simp <;> omega))) | (with_reducible refine Below.allocW ?_ _) | (with_reducible refine Below.drew ?_) | (with_reducible refine Below.extW ?_ _)))⟩
  · rw [betw_yes hab]
    have h1 : decide (b < a) = false := by simpa using hab
    have hba : a ≤ b := by omega
    clear hab
    go_enter Tryz.func27, Tryz.ntmps27
    go_wp2_with fail
    have B0 : Below w.heap.size w (((w.alloc (.cells #[.int .i64 a] 3)).alloc (.cells #[.int .i64 b] 3)).alloc (.cells #[.int .i64 0, .int .i64 0] 29)) := (by repeat (first | with_reducible exact Below.refl _ _ | with_reducible assumption | ((with_reducible refine Below.setCell ?_ ?_ _); rotate_left; · (first | omega | exact Nat.le_refl _ | (simp <;> omega))) | (with_reducible refine Below.allocW ?_ _) | (with_reducible refine Below.drew ?_) | (with_reducible refine Below.extW ?_ _)))
    have ca : (((w.alloc (.cells #[.int .i64 a] 3)).alloc (.cells #[.int .i64 b] 3)).alloc (.cells #[.int .i64 0, .int .i64 0] 29)).cell? ⟨w.heap.size, 0, none⟩ = some (.int .i64 a) := by go_simp
    have cb : (((w.alloc (.cells #[.int .i64 a] 3)).alloc (.cells #[.int .i64 b] 3)).alloc (.cells #[.int .i64 0, .int .i64 0] 29)).cell? ⟨w.heap.size + 1, 0, none⟩ = some (.int .i64 b) := by go_simp
    have HA := Lib.hid ca
    have HB := Lib.hid cb
    clear ca cb
    refine (digest_Conf _ g K l k r F (HD.out.below B0)).mono ?_
    rintro e w1 ⟨rfl, hb1⟩
    have B1 : Below w.heap.size w w1 := Below.then_ (by repeat (first | with_reducible exact Below.refl _ _ | with_reducible assumption | ((with_reducible refine Below.setCell ?_ ?_ _); rotate_left; · (first | omega | exact Nat.le_refl _ | (simp <;> omega))) | (with_reducible refine Below.allocW ?_ _) | (with_reducible refine Below.drew ?_) | (with_reducible refine Below.extW ?_ _))) hb1
    have s1 : w.heap.size ≤ w1.heap.size := B1.size
    have z1_0 : w.heap.size < w1.heap.size := by have := hb1.size; (try simp at this); omega
    have y1_0 : w.heap.size ≤ w1.heap.size := Nat.le_of_lt z1_0
    have c1_0 := fun o => hb1.cell (p := ⟨w.heap.size, o, none⟩) (by first | omega | (simp <;> omega))
    have f1_0 := fun o => hb1.frozen (p := ⟨w.heap.size, o, none⟩) (by first | omega | (simp <;> omega))
    have z1_1 : w.heap.size + 1 < w1.heap.size := by have := hb1.size; (try simp at this); omega
    have y1_1 : w.heap.size + 1 ≤ w1.heap.size := Nat.le_of_lt z1_1
    have c1_1 := fun o => hb1.cell (p := ⟨w.heap.size + 1, o, none⟩) (by first | omega | (simp <;> omega))
    have f1_1 := fun o => hb1.frozen (p := ⟨w.heap.size + 1, o, none⟩) (by first | omega | (simp <;> omega))
    have z1_2 : w.heap.size + 1 + 1 < w1.heap.size := by have := hb1.size; (try simp at this); omega
    have y1_2 : w.heap.size + 1 + 1 ≤ w1.heap.size := Nat.le_of_lt z1_2
    have c1_2 := fun o => hb1.cell (p := ⟨w.heap.size + 1 + 1, o, none⟩) (by first | omega | (simp <;> omega))
    have f1_2 := fun o => hb1.frozen (p := ⟨w.heap.size + 1 + 1, o, none⟩) (by first | omega | (simp <;> omega))
    have KD := Lib.hid ((HD.out.below B1).below ((Below.refl w1.heap.size w1).alloc (Nat.le_refl _) (.cells #[.int .i64 l] 3)))
    have WA := (Below.refl w1.heap.size w1).alloc (Nat.le_refl _) (.cells #[.int .i64 l] 3)
    have ca := (WA.cell (p := ⟨w.heap.size, 0, none⟩) z1_0).trans ((c1_0 0).trans HA.out)
    have cb := (WA.cell (p := ⟨w.heap.size + 1, 0, none⟩) z1_1).trans ((c1_1 0).trans HB.out)
    have HA1 := Lib.hid ca
    have HB1 := Lib.hid cb
    clear ca cb WA hb1
    go_wp2_with fail
    refine (sum_Between _ g K l k r F a b w1.heap.size w.heap.size (w.heap.size + 1) KD.out hn (by go_simp) HA1.out HB1.out).mono ?_
    rintro e w2 ⟨rfl, hb2⟩
    have B2 : Below w.heap.size w w2 := Below.then_ (by repeat (first | with_reducible exact Below.refl _ _ | with_reducible assumption | ((with_reducible refine Below.setCell ?_ ?_ _); rotate_left; · (first | omega | exact Nat.le_refl _ | (simp <;> omega))) | (with_reducible refine Below.allocW ?_ _) | (with_reducible refine Below.drew ?_) | (with_reducible refine Below.extW ?_ _))) hb2
    have s2 : w.heap.size ≤ w2.heap.size := B2.size
    have z2_0 : w.heap.size + 1 + 1 < w2.heap.size := by have := hb2.size; (try simp at this); omega
    have y2_0 : w.heap.size + 1 + 1 ≤ w2.heap.size := Nat.le_of_lt z2_0
    have c2_0 := fun o => hb2.cell (p := ⟨w.heap.size + 1 + 1, o, none⟩) (by first | omega | (simp <;> omega))
    have f2_0 := fun o => hb2.frozen (p := ⟨w.heap.size + 1 + 1, o, none⟩) (by first | omega | (simp <;> omega))
    go_wp2_with fail
    exact bodyPost_ret (v := .tuple #[.agg #[.int .i64 (betwLow l r a b), .int .i64 (betwHigh l r a b)], .int .i64 0]) (by simp only [results, Tryz.results27]; go_simp) rfl ⟨rfl, (by repeat (first | with_reducible exact Below.refl _ _ | with_reducible assumption | ((with_reducible refine Below.setCell ?_ ?_ _); rotate_left; · (first | omega | exact Nat.le_refl _ | (simp <;> omega))) | (with_reducible refine Below.allocW ?_ _) | (with_reducible refine Below.drew ?_) | (with_reducible refine Below.extW ?_ _)))⟩
theorem reach_Between_nil (w : World) (a b : Int) :
    Calls Tryz.prog 27 #[.pointer none, .int .i64 a, .int .i64 b] w fun e w' => e = .returned (bothV (0, 0, 1)) ∧ Below w.heap.size w w' := by
  unfold bothV
  go_enter Tryz.func27, Tryz.ntmps27
  go_wp2_with fail
  exact bodyPost_ret (v := .tuple #[.agg #[.int .i64 0, .int .i64 0], .int .i64 1]) (by simp only [results, Tryz.results27]; go_simp) rfl ⟨rfl, (by repeat (first | with_reducible exact Below.refl _ _ | with_reducible assumption | ((with_reducible refine Below.setCell ?_ ?_ _); rotate_left; · (first | omega | exact Nat.le_refl _ | (simp <;> omega))) | (with_reducible refine Below.allocW ?_ _) | (with_reducible refine Below.drew ?_) | (with_reducible refine Below.extW ?_ _)))⟩
end Go.Proofs.YtpngailmhdiiiaaGreat
/- Package rank: tables. -/
namespace Go.Proofs.YtpngailmhdiiiaaGreat
open Go.ChangeShapes Go.WideShapes Go.ChangeAt Go.RowKit
set_option linter.unusedVariables false
set_option maxRecDepth 100000

/-- What a table says of a number. -/
def upT (t : List Nd) (x : Int) : Int := if atMost t x = 0 then 0 else (t.getD (atMost t x - 1) (0, 0)).2
theorem Tab.upT {l t : List Nd} (h : Tab l t) (x : Int) : upT t x = wUp l x := by
  unfold Go.Proofs.YtpngailmhdiiiaaGreat.upT
  by_cases h0 : atMost t x = 0
  · rw [if_pos h0, h.none h0]
  · have hi : atMost t x - 1 < t.length := by have := atMost_le t x; omega
    rw [if_neg h0, getD_at hi, h.some h0 hi]
theorem upTo_closure (W : World) (b2 b3 i n c2 blk off : Nat) (v2 : Value) (x y : Int) (hi : i < n) (hn : n ≤ 67108864) (h2 : W.cell? ⟨b2, 0, none⟩ = some (.slice (some ⟨blk, off, none⟩) n c2)) (h3 : W.cell? ⟨b3, 0, none⟩ = some (.int .i64 x)) (h4 : W.cell? ⟨blk, off + i, none⟩ = some (.int .i64 y)) :
    Calls Tryz.prog 207 (#[.int .i64 i] ++ #[.pointer (some ⟨b2, 0, none⟩), .pointer (some ⟨b3, 0, none⟩)]) W fun e w' => e = .returned (.bool (decide (x < y))) ∧ ∃ q os, w' = Go.Sort.grow (W.drewN q) os := by
  have hi1 : (i : Int) < (n : Int) := by omega
  go_enter Tryz.func207, Tryz.ntmps207
  go_wp2_with fail
  go_region
  all_goals go_wp2_with fail
  all_goals go_ret
  all_goals exact ⟨rfl, 1, #[], by rw [Go.Sort.grow_empty]; rfl⟩
theorem enters_upTo : ∀ args W, (callFunc 207 args).run Tryz.prog W = .ok (.enter 207 args) W := enters_of Tryz.func207 (by kernel_rfl) rfl
theorem rise_mono {t : List Nd} (hr : t.Pairwise fun a b => a.1 < b.1) (x : Int) (a b : Nat) (hab : a ≤ b) (hb : b < t.length) (h : decide (x < (t.getD a (0, 0)).1) = true) : decide (x < (t.getD b (0, 0)).1) = true := by
  rw [getD_at (by omega)] at h
  rw [getD_at hb]
  simp only [decide_eq_true_eq] at h ⊢
  rcases Nat.lt_or_ge a b with hlt | hge
  · have := List.pairwise_iff_getElem.1 hr a b (by omega) hb hlt; omega
  · obtain rfl : a = b := by omega
    exact h
theorem sums_upTo (w : World) (A1 A2 : Option Addr) (c1 c2 : Nat) (t : List Nd) (x : Int) (h1 : Sl w w.heap.size encZ A1 (t.map (·.1))) (h2 : Sl w w.heap.size encZ A2 (t.map (·.2))) (hm : t.length ≤ 67108864) (hr : t.Pairwise fun a b => a.1 < b.1) :
    Calls Tryz.prog 148 #[.agg #[.slice A1 t.length c1, .slice A2 t.length c2], .int .i64 x] w fun e w' => e = .returned (.int .i64 (upT t x)) ∧ Below w.heap.size w w' := by
  obtain ⟨W0, hW0⟩ : ∃ W0, W0 = (w.alloc (.cells #[.slice A1 t.length c1, .slice A2 t.length c2] 178)).alloc (.cells #[.int .i64 x] 3) := ⟨_, rfl⟩
  have hsz : W0.heap.size = w.heap.size + 1 + 1 := by rw [hW0]; simp
  have B0 : Below w.heap.size w W0 := by rw [hW0]; exact (by repeat (first | with_reducible exact Below.refl _ _ | with_reducible assumption | ((with_reducible refine Below.setCell ?_ ?_ _); rotate_left; · (first | omega | exact Nat.le_refl _ | (simp <;> omega))) | (with_reducible refine Below.allocW ?_ _) | (with_reducible refine Below.drew ?_) | (with_reducible refine Below.extW ?_ _)))
  have k0 : W0.cell? ⟨w.heap.size, 0, none⟩ = some (.slice A1 t.length c1) := by rw [hW0]; go_simp
  have k1 : W0.cell? ⟨w.heap.size, 1, none⟩ = some (.slice A2 t.length c2) := by rw [hW0]; go_simp
  have k2 : W0.cell? ⟨w.heap.size + 1, 0, none⟩ = some (.int .i64 x) := by rw [hW0]; go_simp
  have hS := Go.Proofs.Any.sort_Search Tryz.search 207 #[.pointer (some ⟨w.heap.size, 0, none⟩), .pointer (some ⟨w.heap.size + 1, 0, none⟩)] t.length (fun i => decide (x < (t.getD i (0, 0)).1)) W0 enters_upTo (by omega)
    (fun m os i hi => by
      rw [getD_at hi]
      rcases h1 with h1 | ⟨blk, off, rfl, hb, hc⟩
      · have : t.length = 0 := by have := congrArg List.length h1; simpa using this
        omega
      · have hc' := hc i t[i].1 (by simp [hi]) 0 (.int .i64 t[i].1) rfl
        simp only [Nat.add_zero, Nat.mul_one] at hc'
        refine upTo_closure _ w.heap.size (w.heap.size + 1) i t.length c1 blk off undef x t[i].1 hi hm (Go.cell_grown (by simp only [hsz]; omega) k0 m os) (Go.cell_grown (by simp only [hsz]; omega) k2 m os) (Go.cell_grown (by simp only [hsz]; omega) ((B0.cell (p := ⟨blk, off + i, none⟩) hb).trans hc') m os))
    (rise_mono hr x)
  have HS : Hid (Calls Tryz.prog 142 #[.int .i64 t.length, .func (.func 207) #[] #[.pointer (some ⟨w.heap.size, 0, none⟩), .pointer (some ⟨w.heap.size + 1, 0, none⟩)]] W0 fun e w' => e = .returned (.int .i64 (atMost t x)) ∧ ∃ q os, w' = Go.Sort.grow (W0.drewN q) os) := Lib.hid hS
  have hle := atMost_le t x
  have H2 := Lib.hid h2
  have HW := Lib.hid hW0
  have K1 := Lib.hid k1
  have HB0 := Lib.hid B0
  have HZ := Lib.hid hsz
  clear hS h1 h2 hr k0 k1 k2 B0 hsz hW0
  unfold upT
  generalize hk : atMost t x = k at HS hle ⊢
  clear hk
  by_cases hk0 : k = 0
  · subst hk0
    rw [if_pos rfl]
    go_enter Tryz.func148, Tryz.ntmps148
    go_wp2_with fail
    rw [← HW.out]
    refine HS.out.mono ?_
    rintro e w1 ⟨rfl, q, os, rfl⟩
    go_wp2_with fail
    go_ret
    exact ⟨rfl, HB0.out.trans (Go.Proofs.below_grown_sl w.heap.size W0 q os (by have := HZ.out; omega))⟩
  · rw [if_neg hk0]
    obtain ⟨m, rfl⟩ : ∃ m, k = m + 1 := ⟨k - 1, by omega⟩
    simp only [Nat.add_sub_cancel]
    have hm1 : m < t.length := by omega
    rw [getD_at hm1]
    have g0 : ((m + 1 : Nat) == 0) = false := by simp
    have g2 : (m : Int) < (t.length : Int) := by omega
    obtain ⟨blk, off, rfl, hb, hc⟩ := H2.out.at_ (k := m) (by simpa using hm1)
    have hc' := hc 0 (.int .i64 t[m].2) (by simp [encZ])
    simp only [Nat.add_zero, Nat.mul_one] at hc'
    generalize t[m].2 = z at hc' ⊢
    clear hc
    go_enter Tryz.func148, Tryz.ntmps148
    go_wp2_with fail
    rw [← HW.out]
    refine HS.out.mono ?_
    rintro e w1 ⟨rfl, q, os, hw1⟩
    have hB1 : Below w.heap.size w w1 := by rw [hw1]; exact HB0.out.trans (Go.Proofs.below_grown_sl w.heap.size W0 q os (by have := HZ.out; omega))
    have c1' : w1.cell? ⟨w.heap.size, 1, none⟩ = some (.slice (some ⟨blk, off, none⟩) t.length c2) := by rw [hw1]; exact Go.cell_grown (by have := HZ.out; simp only; omega) K1.out q os
    have c2' := (hB1.cell (p := ⟨blk, off + m, none⟩) hb).trans hc'
    clear hw1 hc'
    go_wp2_with fail
    go_ret
    exact ⟨rfl, hB1⟩
end Go.Proofs.YtpngailmhdiiiaaGreat
/- Package rank: Low, High, Both, Steps of a table; Of. -/
namespace Go.Proofs.YtpngailmhdiiiaaGreat
open Go.ChangeShapes Go.WideShapes Go.ChangeAt Go.RowKit
set_option linter.unusedVariables false
set_option maxRecDepth 100000

/-- A table in block g: n, and two tables; all of it in blocks from L on and below B. -/
def TabAt (w : World) (L B g : Nat) (n : Int) (lt ft : List Nd) : Prop :=
  L ≤ g ∧ g < B ∧ ∃ A1 c1 A2 c2 A3 c3 A4 c4, w.heap[g]? = some (.cells #[.int .i64 n, .slice A1 lt.length c1, .slice A2 lt.length c2, .slice A3 ft.length c3, .slice A4 ft.length c4] 181 (0, 0)) ∧
    (Own w L 3 encZ (.slice A1 lt.length c1) (lt.map (·.1)) ∧ Own w L 3 encZ (.slice A2 lt.length c2) (lt.map (·.2)) ∧ Own w L 3 encZ (.slice A3 ft.length c3) (ft.map (·.1)) ∧ Own w L 3 encZ (.slice A4 ft.length c4) (ft.map (·.2))) ∧
    ∀ A n c, (A, n, c) ∈ [(A1, lt.length, c1), (A2, lt.length, c2), (A3, ft.length, c3), (A4, ft.length, c4)] → ∀ k, (Value.slice A n c).ownBlock = some k → k < B
section
variable {w w' : World} {L B g : Nat} {n : Int} {lt ft : List Nd}
theorem TabAt.keep (h : TabAt w L B g n lt ft) (hk : ∀ b, L ≤ b → b < B → w'.heap[b]? = w.heap[b]?) : TabAt w' L B g n lt ft := by
  obtain ⟨h0, h0', A1, c1, A2, c2, A3, c3, A4, c4, h1, ⟨h2, h3, h4, h5⟩, h6⟩ := h
  refine ⟨h0, h0', A1, c1, A2, c2, A3, c3, A4, c4, (hk g h0 h0').trans h1, ⟨?_, ?_, ?_, ?_⟩, h6⟩
  · exact h2.of_block fun b hb => hk b (h2.lt b hb).1 (h6 _ _ _ (by simp) b hb)
  · exact h3.of_block fun b hb => hk b (h3.lt b hb).1 (h6 _ _ _ (by simp) b hb)
  · exact h4.of_block fun b hb => hk b (h4.lt b hb).1 (h6 _ _ _ (by simp) b hb)
  · exact h5.of_block fun b hb => hk b (h5.lt b hb).1 (h6 _ _ _ (by simp) b hb)
theorem TabAt.below (h : TabAt w L B g n lt ft) (hb : Below B w w') : TabAt w' L B g n lt ft := h.keep fun b _ hlt => hb.block b hlt
theorem TabAt.set (h : TabAt w L B g n lt ft) {p : Addr} (hp : p.block < L) (u : Value) : TabAt (w.setCell p u) L B g n lt ft := h.keep fun b hb _ => Below.heap_setCell _ _ _ _ (by omega)
theorem table_Low (x : Int) (h : TabAt w L B g n lt ft) (hm : lt.length ≤ 67108864) (hr : lt.Pairwise fun a b => a.1 < b.1) :
    Calls Tryz.prog 83 #[.pointer (some ⟨g, 0, none⟩), .int .i64 x] w fun e w' => e = .returned (.int .i64 (upT lt x)) ∧ Below w.heap.size w w' := by
  obtain ⟨h0, h0', A1, c1, A2, c2, A3, c3, A4, c4, h1, ⟨o2, o3, o4, o5⟩, h6⟩ := h
  have h2 := o2.sl
  have h3 := o3.sl
  have h4 := o4.sl
  have h5 := o5.sl
  have c := blk_cell h1
  have H2 := Lib.hid h2
  have H3 := Lib.hid h3
  have HR := Lib.hid hr
  clear h1 h2 h3 h4 h5 hr o2 o3 o4 o5 h6
  go_enter Tryz.func83, Tryz.ntmps83
  go_wp2_with fail
  refine (sums_upTo _ A1 A2 c1 c2 lt x H2.out H3.out hm HR.out).mono ?_
  rintro e w1 ⟨rfl, hb1⟩
  have B1 : Below w.heap.size w w1 := Below.then_ (by repeat (first | with_reducible exact Below.refl _ _ | with_reducible assumption | ((with_reducible refine Below.setCell ?_ ?_ _); rotate_left; · (first | omega | exact Nat.le_refl _ | (simp <;> omega))) | (with_reducible refine Below.allocW ?_ _) | (with_reducible refine Below.drew ?_) | (with_reducible refine Below.extW ?_ _))) hb1
  have s1 : w.heap.size ≤ w1.heap.size := B1.size
  go_wp2_with fail
  go_ret
  exact ⟨rfl, (by repeat (first | with_reducible exact Below.refl _ _ | with_reducible assumption | ((with_reducible refine Below.setCell ?_ ?_ _); rotate_left; · (first | omega | exact Nat.le_refl _ | (simp <;> omega))) | (with_reducible refine Below.allocW ?_ _) | (with_reducible refine Below.drew ?_) | (with_reducible refine Below.extW ?_ _)))⟩
theorem table_High (x : Int) (h : TabAt w L B g n lt ft) (hm : ft.length ≤ 67108864) (hr : ft.Pairwise fun a b => a.1 < b.1) :
    Calls Tryz.prog 208 #[.pointer (some ⟨g, 0, none⟩), .int .i64 x] w fun e w' => e = .returned (.int .i64 (upT ft x)) ∧ Below w.heap.size w w' := by
  obtain ⟨h0, h0', A1, c1, A2, c2, A3, c3, A4, c4, h1, ⟨o2, o3, o4, o5⟩, h6⟩ := h
  have h2 := o2.sl
  have h3 := o3.sl
  have h4 := o4.sl
  have h5 := o5.sl
  have c := blk_cell h1
  have H2 := Lib.hid h4
  have H3 := Lib.hid h5
  have HR := Lib.hid hr
  clear h1 h2 h3 h4 h5 hr o2 o3 o4 o5 h6
  go_enter Tryz.func208, Tryz.ntmps208
  go_wp2_with fail
  refine (sums_upTo _ A3 A4 c3 c4 ft x H2.out H3.out hm HR.out).mono ?_
  rintro e w1 ⟨rfl, hb1⟩
  have B1 : Below w.heap.size w w1 := Below.then_ (by repeat (first | with_reducible exact Below.refl _ _ | with_reducible assumption | ((with_reducible refine Below.setCell ?_ ?_ _); rotate_left; · (first | omega | exact Nat.le_refl _ | (simp <;> omega))) | (with_reducible refine Below.allocW ?_ _) | (with_reducible refine Below.drew ?_) | (with_reducible refine Below.extW ?_ _))) hb1
  have s1 : w.heap.size ≤ w1.heap.size := B1.size
  go_wp2_with fail
  go_ret
  exact ⟨rfl, (by repeat (first | with_reducible exact Below.refl _ _ | with_reducible assumption | ((with_reducible refine Below.setCell ?_ ?_ _); rotate_left; · (first | omega | exact Nat.le_refl _ | (simp <;> omega))) | (with_reducible refine Below.allocW ?_ _) | (with_reducible refine Below.drew ?_) | (with_reducible refine Below.extW ?_ _)))⟩
theorem table_Both (x : Int) (h : TabAt w L B g n lt ft) (hBw : B ≤ w.heap.size) (hm : lt.length ≤ 67108864) (hr : lt.Pairwise fun a b => a.1 < b.1) (hm2 : ft.length ≤ 67108864) (hr2 : ft.Pairwise fun a b => a.1 < b.1) :
    Calls Tryz.prog 151 #[.pointer (some ⟨g, 0, none⟩), .int .i64 x] w fun e w' => e = .returned (.agg #[.int .i64 (upT lt x), .int .i64 (upT ft x)]) ∧ Below w.heap.size w w' := by
  have HA := Lib.hid (h.below ((Below.refl B w).alloc hBw (.cells #[.int .i64 0, .int .i64 0] 29)))
  have HR := Lib.hid hr
  have HR2 := Lib.hid hr2
  clear h hr hr2
  go_enter Tryz.func151, Tryz.ntmps151
  go_wp2_with fail
  refine (table_Low x HA.out hm HR.out).mono ?_
  rintro e w1 ⟨rfl, hb1⟩
  have B1 : Below w.heap.size w w1 := Below.then_ (by repeat (first | with_reducible exact Below.refl _ _ | with_reducible assumption | ((with_reducible refine Below.setCell ?_ ?_ _); rotate_left; · (first | omega | exact Nat.le_refl _ | (simp <;> omega))) | (with_reducible refine Below.allocW ?_ _) | (with_reducible refine Below.drew ?_) | (with_reducible refine Below.extW ?_ _))) hb1
  have s1 : w.heap.size ≤ w1.heap.size := B1.size
  have z1_0 : w.heap.size < w1.heap.size := by have := hb1.size; (try simp at this); omega
  have y1_0 : w.heap.size ≤ w1.heap.size := Nat.le_of_lt z1_0
  have c1_0 := fun o => hb1.cell (p := ⟨w.heap.size, o, none⟩) (by first | omega | (simp <;> omega))
  have f1_0 := fun o => hb1.frozen (p := ⟨w.heap.size, o, none⟩) (by first | omega | (simp <;> omega))
  have HA1 := Lib.hid (HA.out.below (hb1.mono (by simp; omega)))
  have K := Lib.hid ((bothAt.new w 0 0).below hb1)
  go_wp2_with fail
  refine (table_High x HA1.out hm2 HR2.out).mono ?_
  rintro e w2 ⟨rfl, hb2⟩
  have B2 : Below w.heap.size w w2 := Below.then_ (by repeat (first | with_reducible exact Below.refl _ _ | with_reducible assumption | ((with_reducible refine Below.setCell ?_ ?_ _); rotate_left; · (first | omega | exact Nat.le_refl _ | (simp <;> omega))) | (with_reducible refine Below.allocW ?_ _) | (with_reducible refine Below.drew ?_) | (with_reducible refine Below.extW ?_ _))) hb2
  have s2 : w.heap.size ≤ w2.heap.size := B2.size
  have k := K.out.below hb2
  have cc := blk_cell k
  have cf := blk_frozen k
  have zz := lt_of_block k
  clear k
  go_wp2_with fail
  exact bodyPost_ret (v := .agg #[.int .i64 (upT lt x), .int .i64 (upT ft x)]) (by simp only [results, Tryz.results151]; go_simp) rfl ⟨rfl, (by repeat (first | with_reducible exact Below.refl _ _ | with_reducible assumption | ((with_reducible refine Below.setCell ?_ ?_ _); rotate_left; · (first | omega | exact Nat.le_refl _ | (simp <;> omega))) | (with_reducible refine Below.allocW ?_ _) | (with_reducible refine Below.drew ?_) | (with_reducible refine Below.extW ?_ _)))⟩
end
@[go_sem] theorem run_eqZ_nil (w : World) (A : Option Addr) (n c : Nat) : (binOp .eql 27 (.slice A n c) (.slice none 0 0)).run Tryz.prog w = .ok (.bool A.isNone) w := Lib.run_eql_slice_nil w _ _ A n c 0 0 Tryz.underlying27
theorem clone_Z (w : World) (A : Option Addr) (cap : Nat) (l : List Int) (hS : Sl w w.heap.size encZ A l) (hn : l.length ≤ 67108864) :
    Calls Tryz.prog 112 #[.slice A l.length cap] w (OwnPost 3 encZ l w) := by
  rcases A with _ | a
  · have h0 : l = [] := by
      rcases hS with h | ⟨b, off, hA, _⟩
      · exact h
      · cases hA
    subst h0
    go_enter Tryz.func112, Tryz.ntmps112
    go_wp2_with fail
    go_ret
    exact ⟨_, rfl, Own.nil _ _ _ _, (by repeat (first | with_reducible exact Below.refl _ _ | with_reducible assumption | ((with_reducible refine Below.setCell ?_ ?_ _); rotate_left; · (first | omega | exact Nat.le_refl _ | (simp <;> omega))) | (with_reducible refine Below.allocW ?_ _) | (with_reducible refine Below.drew ?_) | (with_reducible refine Below.extW ?_ _)))⟩
  · have HS := Lib.hid hS
    clear hS
    go_enter Tryz.func112, Tryz.ntmps112
    go_wp2_with ((at_builtin; refine wpList_app tyZ rfl _ _ rfl encZ w.heap.size (.slice (some ⟨w.heap.size, 0, none⟩) 0 0) [] rfl ?ho (some a) cap l w.heap.size rfl ?hs ?c1 ?c2 ?c3 ?c4))
    case ho => exact .inr ⟨w.heap.size, 0, 0, #[], rfl, Nat.le_refl _, heap_alloc_new w _, Nat.le_refl _, by simp, by simp, fun j u hj => by simp at hj⟩
    case hs => exact HS.out.keep (Nat.le_refl _) fun p hp => ((Below.refl w.heap.size w).alloc (Nat.le_refl _) _).cell hp
    case c1 => simp; omega
    case c2 => simp [maxLen]; omega
    case c3 => simp
    case c4 =>
      intro v' w1 ho1 _ _ hb1 _
      have B1 : Below w.heap.size w w1 := ((Below.refl w.heap.size w).alloc (Nat.le_refl _) _).trans hb1
      have HO1 := Lib.hid (show Own w1 w.heap.size 3 encZ v' l by simpa using ho1)
      clear ho1
      go_wp2_with fail
      go_ret
      exact ⟨_, rfl, HO1.out, B1⟩
theorem table_Steps {w : World} {L B g : Nat} {n : Int} {lt ft : List Nd} (h : TabAt w L B g n lt ft) (hm : lt.length ≤ 67108864) :
    Calls Tryz.prog 80 #[.pointer (some ⟨g, 0, none⟩)] w (OwnPost 3 encZ (lt.map (·.1)) w) := by
  obtain ⟨h0, h0', A1, c1, A2, c2, A3, c3, A4, c4, h1, ⟨o2, o3, o4, o5⟩, h6⟩ := h
  have h2 := o2.sl
  have h3 := o3.sl
  have h4 := o4.sl
  have h5 := o5.sl
  have c := blk_cell h1
  have HC := Lib.hid (clone_Z w A1 c1 (lt.map (·.1)) h2 (by simpa using hm))
  rw [List.length_map] at HC
  clear h1 h2 h3 h4 h5 o2 o3 o4 o5 h6
  go_enter Tryz.func80, Tryz.ntmps80
  go_wp2_with fail
  refine HC.out.mono ?_
  rintro e w1 ⟨v, rfl, ho, hb⟩
  have HO := Lib.hid ho
  clear ho
  go_wp2_with fail
  go_ret
  exact ⟨_, rfl, HO.out, hb⟩
end Go.Proofs.YtpngailmhdiiiaaGreat
/- The ends of the nodes of a roll that fits. -/
namespace Go.Proofs.YtpngailmhdiiiaaGreat
open Go.ChangeShapes Go.WideShapes Go.ChangeAt Go.RowKit
set_option linter.unusedVariables false

theorem ends_48 {l : Nat} (hl : l ≤ 48) {id : Int} (h : isNode l id = true) : 0 ≤ (endsOf l id).1 ∧ (endsOf l id).1 ≤ (endsOf l id).2.1 ∧ (endsOf l id).2.1 ≤ 281474976710655 := by
  have h1 := ends_bounds h
  have h2 := pow_48 (n := l) hl
  omega
theorem Fits.nodes {l : Nat} {r : List Nd} (hf : Fits l r) (hl : 1 ≤ l ∧ l ≤ 48) : ∀ x ∈ r, isNode l x.1 = true := by
  intro x hx
  have h1 := (hf.roll.2 x hx).1
  have h2 := hf.lt x hx
  simp only [isNode, decide_eq_true_eq, Int.toNat_natCast]
  omega
end Go.Proofs.YtpngailmhdiiiaaGreat
/- Package rank: Of: a digest's table. -/
namespace Go.Proofs.YtpngailmhdiiiaaGreat
open Go.ChangeShapes Go.WideShapes Go.ChangeAt Go.RowKit
set_option linter.unusedVariables false
set_option maxRecDepth 100000

/-- Where nodes end, and begin, and what they weigh. -/
def lastL (l : Int) (r : List Nd) : List Nd := r.map fun x => ((endsOf l x.1).2.1, x.2)
def firstL (l : Int) (r : List Nd) : List Nd := r.map fun x => ((endsOf l x.1).1, x.2)
theorem low_up (l : Int) (r : List Nd) (y : Int) : wUp (lastL l r) y = lowOf l r y := by
  induction r with
  | nil => rfl
  | cons x r ih =>
    simp only [lastL, List.map_cons, wUp, lowOf, weighR, decide_eq_true_eq] at ih ⊢
    rw [ih]
theorem high_up (l : Int) (r : List Nd) (y : Int) : wUp (firstL l r) y = highOf l r y := by
  induction r with
  | nil => rfl
  | cons x r ih =>
    simp only [firstL, List.map_cons, wUp, highOf, weighR, decide_eq_true_eq] at ih ⊢
    rw [ih]
theorem sum_last (l : Int) (r : List Nd) : sumR (lastL l r) = sumR r := by
  induction r with
  | nil => rfl
  | cons x r ih => simp only [lastL, List.map_cons, sumR] at ih ⊢; rw [ih]
theorem sum_first (l : Int) (r : List Nd) : sumR (firstL l r) = sumR r := by
  induction r with
  | nil => rfl
  | cons x r ih => simp only [firstL, List.map_cons, sumR] at ih ⊢; rw [ih]
theorem tyRd : SliceTy Tryz.prog 44 106 2 16 (.agg #[.int .i64 0, .int .i64 0]) := ⟨Tryz.underlying44, by kernel_rfl, rfl, by decide⟩
/-- A digest's table. -/
def OfPost (l : Int) (r : List Nd) (w : World) (e : Ending) (w' : World) : Prop :=
  ∃ g lt ft, e = .returned (.pointer (some ⟨g, 0, none⟩)) ∧ TabAt w' w.heap.size w'.heap.size g (sumR r) lt ft ∧ Tab (lastL l r) lt ∧ Tab (firstL l r) ft ∧ lt.length ≤ r.length ∧ ft.length ≤ r.length ∧ Below w.heap.size w w'
/-- Two lists of readings that grow. -/
structure TwoR (W : World) (B : Nat) (U1 : Value) (L1 : List Nd) (U2 : Value) (L2 : List Nd) : Prop where
  own1 : Own W B 106 encN U1 L1
  own2 : Own W B 106 encN U2 L2
  sep : Sep U1 U2
section
variable {W W' : World} {B : Nat} {U1 U1' : Value} {L1 L1' : List Nd} {U2 U2' : Value} {L2 L2' : List Nd}
theorem TwoR.below (h : TwoR W B U1 L1 U2 L2) (hb : Below W.heap.size W W') : TwoR W' B U1 L1 U2 L2 := ⟨h.own1.below hb, h.own2.below hb, h.sep⟩
theorem TwoR.app1 (h : TwoR W B U1 L1 U2 L2) {k : Nat} (hg : W.grownBy W' U1.ownBlock) (ho : Own W' B 106 encN U1' L1') (hl : U1'.ownBlock = U1.ownBlock ∨ U1'.ownBlock = some (W.heap.size + k)) : TwoR W' B U1' L1' U2 L2 :=
  ⟨ho, h.own2.kept hg (by
    cases e : U2.ownBlock with
    | none => exact .inl rfl
    | some g => exact .inr fun he => h.sep g (by rw [← he]) e), fun g h1 h2 => by
      rcases hl with hl | hl
      · exact h.sep g (hl ▸ h1) h2
      · rw [hl] at h1; cases h1; have := (h.own2.lt _ h2).2; omega⟩
theorem TwoR.app2 (h : TwoR W B U1 L1 U2 L2) {k : Nat} (hg : W.grownBy W' U2.ownBlock) (ho : Own W' B 106 encN U2' L2') (hl : U2'.ownBlock = U2.ownBlock ∨ U2'.ownBlock = some (W.heap.size + k)) : TwoR W' B U1 L1 U2' L2' :=
  ⟨h.own1.kept hg (by
    cases e : U1.ownBlock with
    | none => exact .inl rfl
    | some g => exact .inr fun he => h.sep g e (by rw [← he])), ho, fun g h1 h2 => by
      rcases hl with hl | hl
      · exact h.sep g h1 (hl ▸ h2)
      · rw [hl] at h2; cases h2; have := (h.own1.lt _ h1).2; omega⟩
end
theorem take_last {l : Int} {r : List Nd} {q : Nat} (h : q < r.length) : lastL l (r.take (q + 1)) = lastL l (r.take q) ++ [((endsOf l r[q].1).2.1, r[q].2)] := by
  unfold lastL; rw [List.take_succ_eq_append_getElem h, List.map_append]; rfl
theorem take_first {l : Int} {r : List Nd} {q : Nat} (h : q < r.length) : firstL l (r.take (q + 1)) = firstL l (r.take q) ++ [((endsOf l r[q].1).1, r[q].2)] := by
  unfold firstL; rw [List.take_succ_eq_append_getElem h, List.map_append]; rfl
theorem rank_Of_nil (w : World) : Calls Tryz.prog 79 #[.pointer none] w fun e w' => e = .returned (.pointer none) ∧ Below w.heap.size w w' := by
  go_enter Tryz.func79, Tryz.ntmps79
  go_wp2_with fail
  go_ret
  exact ⟨rfl, (by repeat (first | with_reducible exact Below.refl _ _ | with_reducible assumption | ((with_reducible refine Below.setCell ?_ ?_ _); rotate_left; · (first | omega | exact Nat.le_refl _ | (simp <;> omega))) | (with_reducible refine Below.allocW ?_ _) | (with_reducible refine Below.drew ?_) | (with_reducible refine Below.extW ?_ _)))⟩
set_option maxHeartbeats 2000000 in
theorem rank_Of (w : World) (g K l : Nat) (k : Int) (r : List Nd) (F : Nat → Prop) (h : DigAt w g K l k r F) (hn : r.length ≤ 67108864) :
    Calls Tryz.prog 79 #[.pointer (some ⟨g, 0, none⟩)] w (OfPost l r w) := by
  have hf := h.fits
  have hll := h.l_le
  have HD := Lib.hid h
  have hnd := hf.nodes hll
  have hlast : ∀ x ∈ lastL l r, 0 ≤ x.1 ∧ x.1 ≤ 281474976710655 := fun x hx => by
    obtain ⟨y, hy, rfl⟩ := List.mem_map.1 hx
    have := ends_48 hll.2 (hnd y hy); simp only; omega
  have hfirst : ∀ x ∈ firstL l r, 0 ≤ x.1 ∧ x.1 ≤ 281474976710655 := fun x hx => by
    obtain ⟨y, hy, rfl⟩ := List.mem_map.1 hx
    have := ends_48 hll.2 (hnd y hy); simp only; omega
  have hlast1 : ∀ x ∈ lastL l r, 1 ≤ x.2 := fun x hx => by obtain ⟨y, hy, rfl⟩ := List.mem_map.1 hx; exact (hf.roll.2 y hy).2
  have hfirst1 : ∀ x ∈ firstL l r, 1 ≤ x.2 := fun x hx => by obtain ⟨y, hy, rfl⟩ := List.mem_map.1 hx; exact (hf.roll.2 y hy).2
  have ML := Lib.hid (fun W base v (ho : Own W base 106 encN v (lastL l r)) => rank_made W base v (lastL l r) ho hlast hlast1 (by rw [sum_last]; exact hf.sum) (by simpa [lastL] using hn))
  have MF := Lib.hid (fun W base v (ho : Own W base 106 encN v (firstL l r)) => rank_made W base v (firstL l r) ho hfirst hfirst1 (by rw [sum_first]; exact hf.sum) (by simpa [firstL] using hn))
  clear h hlast hfirst hlast1 hfirst1 hnd
  go_enter Tryz.func79, Tryz.ntmps79
  go_wp2_with fail
  refine (digest_Conf _ g K l k r F HD.out).mono ?_
  rintro e w1 ⟨rfl, hb1⟩
  have B1 : Below w.heap.size w w1 := Below.then_ (by repeat (first | with_reducible exact Below.refl _ _ | with_reducible assumption | ((with_reducible refine Below.setCell ?_ ?_ _); rotate_left; · (first | omega | exact Nat.le_refl _ | (simp <;> omega))) | (with_reducible refine Below.allocW ?_ _) | (with_reducible refine Below.drew ?_) | (with_reducible refine Below.extW ?_ _))) hb1
  have s1 : w.heap.size ≤ w1.heap.size := B1.size
  have HD1 := Lib.hid (HD.out.below B1)
  go_wp2_with fail
  refine (digest_Nodes _ g K l k r F HD1.out hn).mono ?_
  rintro e w2 ⟨v, rfl, ho, hb2⟩
  have B2 : Below w.heap.size w w2 := Below.then_ (by repeat (first | with_reducible exact Below.refl _ _ | with_reducible assumption | ((with_reducible refine Below.setCell ?_ ?_ _); rotate_left; · (first | omega | exact Nat.le_refl _ | (simp <;> omega))) | (with_reducible refine Below.allocW ?_ _) | (with_reducible refine Below.drew ?_) | (with_reducible refine Below.extW ?_ _))) hb2
  have s2 : w.heap.size ≤ w2.heap.size := B2.size
  have HO := Lib.hid ho
  have HB2 := Lib.hid B2
  obtain ⟨A, cap, rfl, _⟩ := ho.form
  clear ho hb1 hb2 B1 B2
  go_wp2_with fail
  go_loopw [3, 4, 19] (fun f t i wr => ∃ (q : Nat) (v1 v2 : Value), q ≤ r.length ∧ i = .int .i64 q ∧ f = v1 ∧ t = v2 ∧ TwoR wr w2.heap.size v1 (firstL l (r.take q)) v2 (lastL l (r.take q)) ∧ Own wr w1.heap.size 100 encN (.slice A r.length cap) r ∧ Below w.heap.size w wr ∧ w2.heap.size ≤ wr.heap.size) (fun _ _ i _ => r.length - (intOf i).toNat)
  case atStart => exact ⟨0, .slice none 0 0, .slice none 0 0, Nat.zero_le _, rfl, rfl, rfl, ⟨Own.nil _ _ _ _, Own.nil _ _ _ _, (fun g h => by cases h)⟩, HO.out, HB2.out, Nat.le_refl _⟩
  case round =>
    obtain ⟨q, v1, v2, hq, rfl, rfl, rfl, htwo, hown, hB, hs⟩ := hrel
    have KT := Lib.hid htwo
    have KO := Lib.hid hown
    have KB := Lib.hid hB
    clear htwo hown
    by_cases hlt : q < r.length
    · obtain ⟨c, off, rfl, hc, hcl⟩ := KO.out.sl.at_ hlt
      have d0 := hcl 0 (.int .i64 r[q].1) rfl
      have d1 := hcl 1 (.int .i64 r[q].2) rfl
      simp only [Nat.add_zero] at d0
      have hxl := hf.lt _ (List.getElem_mem hlt)
      have hp := pow_48 (n := l) hll.2
      have TL := Lib.hid (take_last (l := l) hlt)
      have TF := Lib.hid (take_first (l := l) hlt)
      obtain ⟨x, hxe⟩ : ∃ x, x = r[q] := ⟨_, rfl⟩
      rw [← hxe] at d0 d1 hxl TL TF
      have hx1 : x.1 ≤ 562949953421312 := by omega
      have HE := Lib.hid (twig_Ends · l x.1 (by omega))
      have lf : (firstL l (r.take q)).length = q := by simp [firstL]; omega
      have ll : (lastL l (r.take q)).length = q := by simp [lastL]; omega
      have LF := Lib.hid lf
      have LL := Lib.hid ll
      generalize endsOf l x.1 = t at HE TL TF
      obtain ⟨t1, t2, t3⟩ := t
      simp only at TL TF
      unfold endsV at HE
      clear hcl hxe hxl hp lf ll
      go_wp2_with fail
      refine (HE.out _).mono ?_
      rintro e w3 ⟨rfl, hb3⟩
      have c3 := fun o => hb3.cell (p := ⟨wr.heap.size, o, none⟩) (by simp)
      have z3 : wr.heap.size < w3.heap.size := by have := hb3.size; simp at this; omega
      have BW : Below wr.heap.size wr w3 := ((Below.refl wr.heap.size wr).alloc (Nat.le_refl _) _).trans (hb3.mono (by simp))
      have T3 := Lib.hid (KT.out.below BW)
      have O3 := Lib.hid (KO.out.below BW)
      have B3 := Lib.hid (KB.out.trans (BW.mono KB.out.size))
      clear BW hb3
      go_wp2_with ((at_builtin; refine wpList_push tyRd rfl _ _ rfl encN w3 w2.heap.size u3 _ rfl T3.out.own1 (t1, x.2) (by go_simp) rfl ?c1 ?c2 ?c3 ?c4))
      case c1 => have := LF.out; omega
      case c2 => have := LF.out; simp only [maxLen]; omega
      case c3 => omega
      case c4 =>
        intro v1' w4 ho4 hg4 hz4 hl4 hb4 _
        have T4 := Lib.hid (T3.out.app1 hg4 ho4 hl4)
        have O4 := Lib.hid (O3.out.kept hg4 (own_ne O3.out T3.out.own1 (by decide)))
        have s2w : w.heap.size ≤ w2.heap.size := HB2.out.size
        have B4 := Lib.hid (B3.out.trans (hb4.mono s2w))
        have ow1 : ∀ g, (u3 : Value).ownBlock = some g → g < wr.heap.size := fun g hg => (KT.out.own1.lt g hg).2
        have c4 := fun o => (grown_cell hg4 wr.heap.size z3 (fun h => by have := ow1 _ h; omega) o).trans (c3 o)
        have z4 : wr.heap.size < w4.heap.size := by omega
        clear ho4 hg4 hl4 hb4 ow1 c3
        go_wp2_with ((at_builtin; refine wpList_push tyRd rfl _ _ rfl encN w4 w2.heap.size u4 _ rfl T4.out.own2 (t2, x.2) (by go_simp) rfl ?c1 ?c2 ?c3 ?c4))
        case c1 => have := LL.out; omega
        case c2 => have := LL.out; simp only [maxLen]; omega
        case c3 => omega
        case c4 =>
          intro v2' w5 ho5 hg5 hz5 hl5 hb5 _
          have T5 := Lib.hid (T4.out.app2 hg5 ho5 hl5)
          have O5 := Lib.hid (O4.out.kept hg5 (own_ne O4.out T4.out.own2 (by decide)))
          have B5 := Lib.hid (B4.out.trans (hb5.mono s2w))
          have z5 : w2.heap.size ≤ w5.heap.size := by omega
          clear ho5 hg5 hl5 hb5
          go_wp2_with fail
          go_roundw
          case rel => exact ⟨q + 1, v1', v2', by omega, by go_num, rfl, rfl, by rw [TF.out, TL.out]; exact T5.out, O5.out, B5.out, z5⟩
          case measure => simp [intOf]; omega
    · obtain rfl : q = r.length := by omega
      rw [List.take_length] at KT
      have s2w : w.heap.size ≤ w2.heap.size := HB2.out.size
      have HDr := Lib.hid (HD.out.below KB.out)
      go_wp2_with fail
      refine (digest_N _ g K l k r F HDr.out).mono ?_
      rintro e w3 ⟨rfl, hb3⟩
      have B3 : Below w.heap.size w w3 := Below.then_ (by repeat (first | with_reducible exact Below.refl _ _ | with_reducible assumption | ((with_reducible refine Below.setCell ?_ ?_ _); rotate_left; · (first | omega | exact Nat.le_refl _ | (simp <;> omega))) | (with_reducible refine Below.allocW ?_ _) | (with_reducible refine Below.drew ?_) | (with_reducible refine Below.extW ?_ _))) hb3
      have s3 : w.heap.size ≤ w3.heap.size := B3.size
      have T3 := Lib.hid (KT.out.below hb3)
      go_wp2_with fail
      refine (ML.out w3 _ _ T3.out.own2).mono ?_
      rintro e w4 ⟨lt, A1, c1, A2, c2, rfl, htl, hll1, o1, o2, hT4⟩
      have B4 := Lib.hid (hT4.below (base := w2.heap.size) (fun b hb => (T3.out.own2.lt b hb).1) (by have := hb3.size; omega))
      have F4 := Lib.hid (hT4.own T3.out.own1 (fun b hb => T3.out.sep b hb))
      have P1 := Lib.hid o1
      have P2 := Lib.hid o2
      have HTL := Lib.hid htl
      have HLL := Lib.hid hll1
      have hs4 := hT4.size
      have hfb := Lib.hid (fun b hb => (T3.out.own1.lt b hb).2)
      clear o1 o2 htl hll1 hT4
      go_wp2_with fail
      refine (MF.out w4 _ _ F4.out).mono ?_
      rintro e w5 ⟨ft, A3, c3, A4, c4, rfl, htf, hll2, o3, o4, hT5⟩
      have B5 := Lib.hid (hT5.below (base := w2.heap.size) (fun b hb => (F4.out.lt b hb).1) (by have := hb3.size; omega))
      have Q1 := Lib.hid (hT5.own P1.out (fun b hb hf => by have := (P1.out.lt b hb).1; have := hfb.out b hf; omega))
      have Q2 := Lib.hid (hT5.own P2.out (fun b hb hf => by have := (P2.out.lt b hb).1; have := hfb.out b hf; omega))
      have Q3 := Lib.hid o3
      have Q4 := Lib.hid o4
      have HTF := Lib.hid htf
      have HLL2 := Lib.hid hll2
      clear o3 o4 htf hll2 hT5
      go_wp2_with fail
      go_ret
      have BF : Below w.heap.size w w5 := (B3.trans ((B4.out.trans B5.out).mono s2w))
      have l1 := (Q1.out.alloc (.cells #[.int .i64 (sumR r), .slice A1 lt.length c1, .slice A2 lt.length c2, .slice A3 ft.length c3, .slice A4 ft.length c4] 181)).base_le (b := w.heap.size) (by have := BF.size; have := hb3.size; omega)
      have l2 := (Q2.out.alloc (.cells #[.int .i64 (sumR r), .slice A1 lt.length c1, .slice A2 lt.length c2, .slice A3 ft.length c3, .slice A4 ft.length c4] 181)).base_le (b := w.heap.size) (by have := BF.size; have := hb3.size; omega)
      have l3 := (Q3.out.alloc (.cells #[.int .i64 (sumR r), .slice A1 lt.length c1, .slice A2 lt.length c2, .slice A3 ft.length c3, .slice A4 ft.length c4] 181)).base_le (b := w.heap.size) (by have := B4.out.size; have := hb3.size; omega)
      have l4 := (Q4.out.alloc (.cells #[.int .i64 (sumR r), .slice A1 lt.length c1, .slice A2 lt.length c2, .slice A3 ft.length c3, .slice A4 ft.length c4] 181)).base_le (b := w.heap.size) (by have := B4.out.size; have := hb3.size; omega)
      refine ⟨w5.heap.size, lt, ft, rfl, ⟨BF.size, by simp, A1, c1, A2, c2, A3, c3, A4, c4, heap_alloc_new w5 _, ⟨l1, l2, l3, l4⟩, fun A n c hm k hk => ?_⟩, HTL.out, HTF.out, by have := HLL.out; simpa [lastL] using this, by have := HLL2.out; simpa [firstL] using this, BF.alloc (by have := BF.size; omega) _⟩
      simp only [List.mem_cons, List.not_mem_nil, or_false, Prod.mk.injEq] at hm
      rcases hm with ⟨rfl, rfl, rfl⟩ | ⟨rfl, rfl, rfl⟩ | ⟨rfl, rfl, rfl⟩ | ⟨rfl, rfl, rfl⟩
      · exact (l1.lt k hk).2
      · exact (l2.lt k hk).2
      · exact (l3.lt k hk).2
      · exact (l4.lt k hk).2
end Go.Proofs.YtpngailmhdiiiaaGreat
/- Package gap: less, wrong, side, Side. -/
namespace Go.Proofs.YtpngailmhdiiiaaGreat
open Go.ChangeShapes Go.WideShapes Go.ChangeAt Go.RowKit
set_option linter.unusedVariables false
set_option maxRecDepth 100000

theorem table_N {w : World} {L B g : Nat} {n : Int} {lt ft : List Nd} (h : TabAt w L B g n lt ft) :
    Calls Tryz.prog 153 #[.pointer (some ⟨g, 0, none⟩)] w fun e w' => e = .returned (.int .i64 n) ∧ Below w.heap.size w w' := by
  obtain ⟨h0, h0', A1, c1, A2, c2, A3, c3, A4, c4, h1, _, _⟩ := h
  have c := blk_cell h1
  have z := lt_of_block h1
  clear h1
  go_enter Tryz.func153, Tryz.ntmps153
  go_wp2_with fail
  go_ret
  exact ⟨rfl, (by repeat (first | with_reducible exact Below.refl _ _ | with_reducible assumption | ((with_reducible refine Below.setCell ?_ ?_ _); rotate_left; · (first | omega | exact Nat.le_refl _ | (simp <;> omega))) | (with_reducible refine Below.allocW ?_ _) | (with_reducible refine Below.drew ?_) | (with_reducible refine Below.extW ?_ _)))⟩
theorem gap_less (w : World) (a b c d : Nat) (ha : a ≤ 9223372036854775807) (hb : b ≤ 9223372036854775807) (hc : c ≤ 9223372036854775807) (hd : d ≤ 9223372036854775807) :
    Calls Tryz.prog 152 #[.int .i64 a, .int .i64 b, .int .i64 c, .int .i64 d] w fun e w' => e = .returned (.bool (decide (a * d < c * b))) ∧ Below w.heap.size w w' := by
  have HO := Lib.hid (reckon_Order · a d c b ha hd hc hb)
  have e : decide (a * d < c * b) = decide (ordV a d c b < 0) := by unfold ordV; rw [decide_eq_decide]; exact (cmpV_lt _ _).symm
  rw [e]
  generalize ordV a d c b = o at HO
  clear e
  go_enter Tryz.func152, Tryz.ntmps152
  go_wp2_with fail
  refine (HO.out _).mono ?_
  rintro e w1 ⟨rfl, hb1⟩
  have B1 : Below w.heap.size w w1 := Below.then_ (by repeat (first | with_reducible exact Below.refl _ _ | with_reducible assumption | ((with_reducible refine Below.setCell ?_ ?_ _); rotate_left; · (first | omega | exact Nat.le_refl _ | (simp <;> omega))) | (with_reducible refine Below.allocW ?_ _) | (with_reducible refine Below.drew ?_) | (with_reducible refine Below.extW ?_ _))) hb1
  have s1 : w.heap.size ≤ w1.heap.size := B1.size
  go_wp2_with fail
  go_ret
  exact ⟨rfl, B1⟩
/-- What is wrong with two. -/
def gapErr (l m : Int) (a b : List Nd) : Int := if l ≠ m then 6 else if sumR a = 0 ∨ sumR b = 0 then 7 else 0
def sideN (n m pl ph ql qh : Nat) : Int := if qh * n < pl * m then 1 else if ph * m < ql * n then -1 else 0
set_option maxHeartbeats 1000000 in
theorem gap_side (w : World) (x : Int) {L1 B1 g1 L2 B2 g2 : Nat} {lt1 ft1 lt2 ft2 : List Nd} (n m pl ph ql qh : Nat) (h1 : TabAt w L1 B1 g1 n lt1 ft1) (h2 : TabAt w L2 B2 g2 m lt2 ft2) (b1 : B1 ≤ w.heap.size) (b2 : B2 ≤ w.heap.size)
    (m1 : lt1.length ≤ 67108864) (r1 : lt1.Pairwise fun a b => a.1 < b.1) (m1' : ft1.length ≤ 67108864) (r1' : ft1.Pairwise fun a b => a.1 < b.1) (m2 : lt2.length ≤ 67108864) (r2 : lt2.Pairwise fun a b => a.1 < b.1) (m2' : ft2.length ≤ 67108864) (r2' : ft2.Pairwise fun a b => a.1 < b.1)
    (e1 : upT lt1 x = pl) (e2 : upT ft1 x = ph) (e3 : upT lt2 x = ql) (e4 : upT ft2 x = qh) (k1 : n ≤ 9223372036854775807) (k2 : m ≤ 9223372036854775807) (k3 : pl ≤ 9223372036854775807) (k4 : ph ≤ 9223372036854775807) (k5 : ql ≤ 9223372036854775807) (k6 : qh ≤ 9223372036854775807) :
    Calls Tryz.prog 87 #[.pointer (some ⟨g1, 0, none⟩), .pointer (some ⟨g2, 0, none⟩), .int .i64 x] w fun e w' => e = .returned (.int .i64 (sideN n m pl ph ql qh)) ∧ Below w.heap.size w w' := by
  have HB1 := Lib.hid (fun W (h : TabAt W L1 B1 g1 n lt1 ft1) (hb : B1 ≤ W.heap.size) => table_Both x h hb m1 r1 m1' r1')
  have HB2 := Lib.hid (fun W (h : TabAt W L2 B2 g2 m lt2 ft2) (hb : B2 ≤ W.heap.size) => table_Both x h hb m2 r2 m2' r2')
  rw [e1, e2] at HB1
  rw [e3, e4] at HB2
  have T1 := Lib.hid h1
  have T2 := Lib.hid h2
  have HL1 := Lib.hid (fun W => gap_less W qh m pl n k6 k2 k3 k1)
  have HL2 := Lib.hid (fun W => gap_less W ph n ql m k4 k1 k5 k2)
  clear h1 h2 r1 r2 r1' r2' e1 e2 e3 e4
  have hcase : (decide (qh * n < pl * m) = true ∧ sideN n m pl ph ql qh = 1) ∨ (decide (qh * n < pl * m) = false ∧ decide (ph * m < ql * n) = true ∧ sideN n m pl ph ql qh = -1) ∨ (decide (qh * n < pl * m) = false ∧ decide (ph * m < ql * n) = false ∧ sideN n m pl ph ql qh = 0) := by
    unfold sideN
    by_cases d1 : qh * n < pl * m
    · exact .inl ⟨by simpa using d1, by rw [if_pos d1]⟩
    · by_cases d2 : ph * m < ql * n
      · exact .inr (.inl ⟨by simpa using d1, by simpa using d2, by rw [if_neg d1, if_pos d2]⟩)
      · exact .inr (.inr ⟨by simpa using d1, by simpa using d2, by rw [if_neg d1, if_neg d2]⟩)
  rcases hcase with ⟨f1, f3⟩ | ⟨f1, f2, f3⟩ | ⟨f1, f2, f3⟩
  all_goals (
    rw [f1] at HL1
    (try rw [f2] at HL2)
    rw [f3]
    clear f1 f3
    (try clear f2)
    go_enter Tryz.func87, Tryz.ntmps87
    go_wp2_with fail
    refine (HB1.out _ T1.out b1).mono ?_
    rintro e w1 ⟨rfl, hb1⟩
    have s1 := hb1.size
    have U1 := Lib.hid (T1.out.below (hb1.mono b1))
    have U2 := Lib.hid (T2.out.below (hb1.mono b2))
    have BB1 := Lib.hid hb1
    clear hb1
    go_wp2_with fail
    refine (HB2.out _ U2.out (by omega)).mono ?_
    rintro e w2 ⟨rfl, hb2⟩
    have s2 := hb2.size
    have V1 := Lib.hid (U1.out.below (hb2.mono (by omega)))
    have V2 := Lib.hid (U2.out.below (hb2.mono (by omega)))
    have BB2 := Lib.hid (BB1.out.trans (hb2.mono s1))
    clear hb2
    go_wp2_with fail
    have BA : Below w2.heap.size w2 ((w2.alloc (.cells #[.int .i64 pl, .int .i64 ph] 29)).alloc (.cells #[.int .i64 ql, .int .i64 qh] 29)) := ((Below.refl _ _).alloc (Nat.le_refl _) _).alloc (by simp) _
    have P3 : Hid (bothAt ((w2.alloc (.cells #[.int .i64 pl, .int .i64 ph] 29)).alloc (.cells #[.int .i64 ql, .int .i64 qh] 29)) w2.heap.size pl ph) := Lib.hid ((bothAt.new w2 pl ph).alloc _)
    have Q3 : Hid (bothAt ((w2.alloc (.cells #[.int .i64 pl, .int .i64 ph] 29)).alloc (.cells #[.int .i64 ql, .int .i64 qh] 29)) (w2.heap.size + 1) ql qh) := Lib.hid (heap_new_at _ _ (w2.heap.size + 1) (by simp))
    have BB3 := Lib.hid (BB2.out.trans (BA.mono (Nat.le_trans s1 s2)))
    have s3 := BA.size
    have T3 : Hid (TabAt ((w2.alloc (.cells #[.int .i64 pl, .int .i64 ph] 29)).alloc (.cells #[.int .i64 ql, .int .i64 qh] 29)) L1 B1 g1 n lt1 ft1 ∧ TabAt ((w2.alloc (.cells #[.int .i64 pl, .int .i64 ph] 29)).alloc (.cells #[.int .i64 ql, .int .i64 qh] 29)) L2 B2 g2 m lt2 ft2 ∧ B1 ≤ ((w2.alloc (.cells #[.int .i64 pl, .int .i64 ph] 29)).alloc (.cells #[.int .i64 ql, .int .i64 qh] 29)).heap.size ∧ B2 ≤ ((w2.alloc (.cells #[.int .i64 pl, .int .i64 ph] 29)).alloc (.cells #[.int .i64 ql, .int .i64 qh] 29)).heap.size) := Lib.hid ⟨V1.out.below (BA.mono (by omega)), V2.out.below (BA.mono (by omega)), by omega, by omega⟩
    clear BA
    generalize (w2.alloc (.cells #[.int .i64 pl, .int .i64 ph] 29)).alloc (.cells #[.int .i64 ql, .int .i64 qh] 29) = W3 at P3 Q3 BB3 s3 T3 ⊢
    have cp := blk_cell P3.out
    have cq := blk_cell Q3.out
    have zp := lt_of_block P3.out
    have zq := lt_of_block Q3.out)
  · refine wp_region_ext (by kernel_rfl) (by kernel_rfl) ?_
    repeat (go_big_quiet_step (first
      | (go_at_call_of 153 (Value.pointer (some ⟨g1, 0, none⟩)); exact quiet_ext (table_N (T3.out.1.below ((ext_below _ _).mono T3.out.2.2.1))))
      | (go_at_call_of 153 (Value.pointer (some ⟨g2, 0, none⟩)); exact quiet_ext (table_N (T3.out.2.1.below ((ext_below _ _).mono T3.out.2.2.2))))
      | (go_at_call 152; exact quiet_ext (HL1.out _))))
    have BX := BB3.out
    refine wpQuiet_nil ?_
    intro w4 hb4
    replace hb4 := below_of_ext hb4
    have B4 : Below w.heap.size w w4 := Below.then_ (by repeat (first | with_reducible exact Below.refl _ _ | with_reducible assumption | ((with_reducible refine Below.setCell ?_ ?_ _); rotate_left; · (first | omega | exact Nat.le_refl _ | (simp <;> omega))) | (with_reducible refine Below.allocW ?_ _) | (with_reducible refine Below.drew ?_) | (with_reducible refine Below.extW ?_ _))) hb4
    have s4 : w.heap.size ≤ w4.heap.size := B4.size
    go_wp2_with fail
    go_ret
    exact ⟨rfl, BB3.out.trans (hb4.mono BB3.out.size)⟩
  · refine wp_region_ext (by kernel_rfl) (by kernel_rfl) ?_
    repeat (go_big_quiet_step (first
      | (go_at_call_of 153 (Value.pointer (some ⟨g1, 0, none⟩)); exact quiet_ext (table_N (T3.out.1.below ((ext_below _ _).mono T3.out.2.2.1))))
      | (go_at_call_of 153 (Value.pointer (some ⟨g2, 0, none⟩)); exact quiet_ext (table_N (T3.out.2.1.below ((ext_below _ _).mono T3.out.2.2.2))))
      | (go_at_call 152; exact quiet_ext (HL1.out _))))
    have BX := BB3.out
    refine wpQuiet_nil ?_
    intro w4 hb4
    replace hb4 := below_of_ext hb4
    have B4 : Below w.heap.size w w4 := Below.then_ (by repeat (first | with_reducible exact Below.refl _ _ | with_reducible assumption | ((with_reducible refine Below.setCell ?_ ?_ _); rotate_left; · (first | omega | exact Nat.le_refl _ | (simp <;> omega))) | (with_reducible refine Below.allocW ?_ _) | (with_reducible refine Below.drew ?_) | (with_reducible refine Below.extW ?_ _))) hb4
    have s4 : w.heap.size ≤ w4.heap.size := B4.size
    have P4 := Lib.hid (P3.out.below hb4)
    have Q4 := Lib.hid (Q3.out.below hb4)
    have BB4 := Lib.hid (BB3.out.trans (hb4.mono BB3.out.size))
    have s4' := hb4.size
    have T4 : Hid (TabAt w4 L1 B1 g1 n lt1 ft1 ∧ TabAt w4 L2 B2 g2 m lt2 ft2 ∧ B1 ≤ w4.heap.size ∧ B2 ≤ w4.heap.size) := Lib.hid ⟨T3.out.1.below (hb4.mono T3.out.2.2.1), T3.out.2.1.below (hb4.mono T3.out.2.2.2), Nat.le_trans T3.out.2.2.1 s4', Nat.le_trans T3.out.2.2.2 s4'⟩
    clear cp cq zp zq
    have cp := blk_cell P4.out
    have cq := blk_cell Q4.out
    have zp := lt_of_block P4.out
    have zq := lt_of_block Q4.out
    go_wp2_with fail
    refine wp_region_ext (by kernel_rfl) (by kernel_rfl) ?_
    repeat (go_big_quiet_step (first
      | (go_at_call_of 153 (Value.pointer (some ⟨g1, 0, none⟩)); exact quiet_ext (table_N (T4.out.1.below ((ext_below _ _).mono T4.out.2.2.1))))
      | (go_at_call_of 153 (Value.pointer (some ⟨g2, 0, none⟩)); exact quiet_ext (table_N (T4.out.2.1.below ((ext_below _ _).mono T4.out.2.2.2))))
      | (go_at_call 152; exact quiet_ext (HL2.out _))))
    have BY := BB4.out
    refine wpQuiet_nil ?_
    intro w5 hb5
    replace hb5 := below_of_ext hb5
    have B5 : Below w.heap.size w w5 := Below.then_ (by repeat (first | with_reducible exact Below.refl _ _ | with_reducible assumption | ((with_reducible refine Below.setCell ?_ ?_ _); rotate_left; · (first | omega | exact Nat.le_refl _ | (simp <;> omega))) | (with_reducible refine Below.allocW ?_ _) | (with_reducible refine Below.drew ?_) | (with_reducible refine Below.extW ?_ _))) hb5
    have s5 : w.heap.size ≤ w5.heap.size := B5.size
    go_wp2_with fail
    go_ret
    exact ⟨rfl, BB4.out.trans (hb5.mono BB4.out.size)⟩
  · refine wp_region_ext (by kernel_rfl) (by kernel_rfl) ?_
    repeat (go_big_quiet_step (first
      | (go_at_call_of 153 (Value.pointer (some ⟨g1, 0, none⟩)); exact quiet_ext (table_N (T3.out.1.below ((ext_below _ _).mono T3.out.2.2.1))))
      | (go_at_call_of 153 (Value.pointer (some ⟨g2, 0, none⟩)); exact quiet_ext (table_N (T3.out.2.1.below ((ext_below _ _).mono T3.out.2.2.2))))
      | (go_at_call 152; exact quiet_ext (HL1.out _))))
    have BX := BB3.out
    refine wpQuiet_nil ?_
    intro w4 hb4
    replace hb4 := below_of_ext hb4
    have B4 : Below w.heap.size w w4 := Below.then_ (by repeat (first | with_reducible exact Below.refl _ _ | with_reducible assumption | ((with_reducible refine Below.setCell ?_ ?_ _); rotate_left; · (first | omega | exact Nat.le_refl _ | (simp <;> omega))) | (with_reducible refine Below.allocW ?_ _) | (with_reducible refine Below.drew ?_) | (with_reducible refine Below.extW ?_ _))) hb4
    have s4 : w.heap.size ≤ w4.heap.size := B4.size
    have P4 := Lib.hid (P3.out.below hb4)
    have Q4 := Lib.hid (Q3.out.below hb4)
    have BB4 := Lib.hid (BB3.out.trans (hb4.mono BB3.out.size))
    have s4' := hb4.size
    have T4 : Hid (TabAt w4 L1 B1 g1 n lt1 ft1 ∧ TabAt w4 L2 B2 g2 m lt2 ft2 ∧ B1 ≤ w4.heap.size ∧ B2 ≤ w4.heap.size) := Lib.hid ⟨T3.out.1.below (hb4.mono T3.out.2.2.1), T3.out.2.1.below (hb4.mono T3.out.2.2.2), Nat.le_trans T3.out.2.2.1 s4', Nat.le_trans T3.out.2.2.2 s4'⟩
    clear cp cq zp zq
    have cp := blk_cell P4.out
    have cq := blk_cell Q4.out
    have zp := lt_of_block P4.out
    have zq := lt_of_block Q4.out
    go_wp2_with fail
    refine wp_region_ext (by kernel_rfl) (by kernel_rfl) ?_
    repeat (go_big_quiet_step (first
      | (go_at_call_of 153 (Value.pointer (some ⟨g1, 0, none⟩)); exact quiet_ext (table_N (T4.out.1.below ((ext_below _ _).mono T4.out.2.2.1))))
      | (go_at_call_of 153 (Value.pointer (some ⟨g2, 0, none⟩)); exact quiet_ext (table_N (T4.out.2.1.below ((ext_below _ _).mono T4.out.2.2.2))))
      | (go_at_call 152; exact quiet_ext (HL2.out _))))
    have BY := BB4.out
    refine wpQuiet_nil ?_
    intro w5 hb5
    replace hb5 := below_of_ext hb5
    have B5 : Below w.heap.size w w5 := Below.then_ (by repeat (first | with_reducible exact Below.refl _ _ | with_reducible assumption | ((with_reducible refine Below.setCell ?_ ?_ _); rotate_left; · (first | omega | exact Nat.le_refl _ | (simp <;> omega))) | (with_reducible refine Below.allocW ?_ _) | (with_reducible refine Below.drew ?_) | (with_reducible refine Below.extW ?_ _))) hb5
    have s5 : w.heap.size ≤ w5.heap.size := B5.size
    go_wp2_with fail
    go_ret
    exact ⟨rfl, BB4.out.trans (hb5.mono BB4.out.size)⟩
theorem gap_wrong (w : World) (g1 K1 l1 g2 K2 l2 : Nat) (k1 k2 : Int) (r1 r2 : List Nd) (F1 F2 : Nat → Prop) (h1 : DigAt w g1 K1 l1 k1 r1 F1) (h2 : DigAt w g2 K2 l2 k2 r2 F2) :
    Calls Tryz.prog 86 #[.pointer (some ⟨g1, 0, none⟩), .pointer (some ⟨g2, 0, none⟩)] w fun e w' => e = .returned (.int .i64 (gapErr l1 l2 r1 r2)) ∧ Below w.heap.size w w' := by
  have HD1 := Lib.hid h1
  have HD2 := Lib.hid h2
  have HC1 := Lib.hid (digest_Conf · g1 K1 l1 k1 r1 F1 ·)
  have HC2 := Lib.hid (digest_Conf · g2 K2 l2 k2 r2 F2 ·)
  have HN1 := Lib.hid (digest_N · g1 K1 l1 k1 r1 F1 ·)
  have HN2 := Lib.hid (digest_N · g2 K2 l2 k2 r2 F2 ·)
  have q1 := h1.l_le
  have q2 := h2.l_le
  have hcase : (((l1 : Int) == (l2 : Int)) = false ∧ gapErr l1 l2 r1 r2 = 6) ∨ (l1 = l2 ∧ sumR r1 = 0 ∧ gapErr l1 l2 r1 r2 = 7) ∨ (l1 = l2 ∧ (sumR r1 == 0) = false ∧ sumR r2 = 0 ∧ gapErr l1 l2 r1 r2 = 7) ∨ (l1 = l2 ∧ (sumR r1 == 0) = false ∧ (sumR r2 == 0) = false ∧ gapErr l1 l2 r1 r2 = 0) := by
    unfold gapErr
    by_cases c1 : (l1 : Int) = l2
    · have c1' : l1 = l2 := by omega
      by_cases c2 : sumR r1 = 0
      · exact .inr (.inl ⟨c1', c2, by rw [if_neg (not_not_intro c1), if_pos (.inl c2)]⟩)
      · by_cases c3 : sumR r2 = 0
        · exact .inr (.inr (.inl ⟨c1', by simpa using c2, c3, by rw [if_neg (not_not_intro c1), if_pos (.inr c3)]⟩))
        · exact .inr (.inr (.inr ⟨c1', by simpa using c2, by simpa using c3, by rw [if_neg (not_not_intro c1), if_neg (by simp [c2, c3])]⟩))
    · exact .inl ⟨by simpa using c1, by rw [if_pos c1]⟩
  clear h1 h2
  rcases hcase with ⟨f1, fe⟩ | ⟨f1, f2, fe⟩ | ⟨f1, f2, f3, fe⟩ | ⟨f1, f2, f3, fe⟩
  · rw [fe]
    clear fe HN1 HN2
    go_enter Tryz.func86, Tryz.ntmps86
    go_wp2_with fail
    refine (HC1.out _ HD1.out).mono ?_
    rintro e w1 ⟨rfl, hb1⟩
    have B1 : Below w.heap.size w w1 := Below.then_ (by repeat (first | with_reducible exact Below.refl _ _ | with_reducible assumption | ((with_reducible refine Below.setCell ?_ ?_ _); rotate_left; · (first | omega | exact Nat.le_refl _ | (simp <;> omega))) | (with_reducible refine Below.allocW ?_ _) | (with_reducible refine Below.drew ?_) | (with_reducible refine Below.extW ?_ _))) hb1
    have s1 : w.heap.size ≤ w1.heap.size := B1.size
    go_wp2_with fail
    refine (HC2.out _ (HD2.out.below hb1)).mono ?_
    rintro e w2 ⟨rfl, hb2⟩
    have B2 : Below w.heap.size w w2 := Below.then_ (by repeat (first | with_reducible exact Below.refl _ _ | with_reducible assumption | ((with_reducible refine Below.setCell ?_ ?_ _); rotate_left; · (first | omega | exact Nat.le_refl _ | (simp <;> omega))) | (with_reducible refine Below.allocW ?_ _) | (with_reducible refine Below.drew ?_) | (with_reducible refine Below.extW ?_ _))) hb2
    have s2 : w.heap.size ≤ w2.heap.size := B2.size
    go_wp2_with fail
    go_ret
    exact ⟨rfl, (by repeat (first | with_reducible exact Below.refl _ _ | with_reducible assumption | ((with_reducible refine Below.setCell ?_ ?_ _); rotate_left; · (first | omega | exact Nat.le_refl _ | (simp <;> omega))) | (with_reducible refine Below.allocW ?_ _) | (with_reducible refine Below.drew ?_) | (with_reducible refine Below.extW ?_ _)))⟩
  · subst f1
    rw [fe]
    rw [f2] at HN1
    clear fe f2 HN2
    go_enter Tryz.func86, Tryz.ntmps86
    go_wp2_with fail
    refine (HC1.out _ HD1.out).mono ?_
    rintro e w1 ⟨rfl, hb1⟩
    have B1 : Below w.heap.size w w1 := Below.then_ (by repeat (first | with_reducible exact Below.refl _ _ | with_reducible assumption | ((with_reducible refine Below.setCell ?_ ?_ _); rotate_left; · (first | omega | exact Nat.le_refl _ | (simp <;> omega))) | (with_reducible refine Below.allocW ?_ _) | (with_reducible refine Below.drew ?_) | (with_reducible refine Below.extW ?_ _))) hb1
    have s1 : w.heap.size ≤ w1.heap.size := B1.size
    have D1 := Lib.hid (HD1.out.below hb1)
    have D2 := Lib.hid (HD2.out.below hb1)
    go_wp2_with fail
    refine (HC2.out _ D2.out).mono ?_
    rintro e w2 ⟨rfl, hb2⟩
    have B2 : Below w.heap.size w w2 := Below.then_ (by repeat (first | with_reducible exact Below.refl _ _ | with_reducible assumption | ((with_reducible refine Below.setCell ?_ ?_ _); rotate_left; · (first | omega | exact Nat.le_refl _ | (simp <;> omega))) | (with_reducible refine Below.allocW ?_ _) | (with_reducible refine Below.drew ?_) | (with_reducible refine Below.extW ?_ _))) hb2
    have s2 : w.heap.size ≤ w2.heap.size := B2.size
    go_wp2_with fail
    refine (HN1.out _ (D1.out.below hb2)).mono ?_
    rintro e w3 ⟨rfl, hb3⟩
    have B3 : Below w.heap.size w w3 := Below.then_ (by repeat (first | with_reducible exact Below.refl _ _ | with_reducible assumption | ((with_reducible refine Below.setCell ?_ ?_ _); rotate_left; · (first | omega | exact Nat.le_refl _ | (simp <;> omega))) | (with_reducible refine Below.allocW ?_ _) | (with_reducible refine Below.drew ?_) | (with_reducible refine Below.extW ?_ _))) hb3
    have s3 : w.heap.size ≤ w3.heap.size := B3.size
    go_wp2_with fail
    go_ret
    exact ⟨rfl, (by repeat (first | with_reducible exact Below.refl _ _ | with_reducible assumption | ((with_reducible refine Below.setCell ?_ ?_ _); rotate_left; · (first | omega | exact Nat.le_refl _ | (simp <;> omega))) | (with_reducible refine Below.allocW ?_ _) | (with_reducible refine Below.drew ?_) | (with_reducible refine Below.extW ?_ _)))⟩
  · subst f1
    rw [fe]
    rw [f3] at HN2
    generalize sumR r1 = n at HN1 f2
    clear fe f3
    go_enter Tryz.func86, Tryz.ntmps86
    go_wp2_with fail
    refine (HC1.out _ HD1.out).mono ?_
    rintro e w1 ⟨rfl, hb1⟩
    have B1 : Below w.heap.size w w1 := Below.then_ (by repeat (first | with_reducible exact Below.refl _ _ | with_reducible assumption | ((with_reducible refine Below.setCell ?_ ?_ _); rotate_left; · (first | omega | exact Nat.le_refl _ | (simp <;> omega))) | (with_reducible refine Below.allocW ?_ _) | (with_reducible refine Below.drew ?_) | (with_reducible refine Below.extW ?_ _))) hb1
    have s1 : w.heap.size ≤ w1.heap.size := B1.size
    have D1 := Lib.hid (HD1.out.below hb1)
    have D2 := Lib.hid (HD2.out.below hb1)
    go_wp2_with fail
    refine (HC2.out _ D2.out).mono ?_
    rintro e w2 ⟨rfl, hb2⟩
    have B2 : Below w.heap.size w w2 := Below.then_ (by repeat (first | with_reducible exact Below.refl _ _ | with_reducible assumption | ((with_reducible refine Below.setCell ?_ ?_ _); rotate_left; · (first | omega | exact Nat.le_refl _ | (simp <;> omega))) | (with_reducible refine Below.allocW ?_ _) | (with_reducible refine Below.drew ?_) | (with_reducible refine Below.extW ?_ _))) hb2
    have s2 : w.heap.size ≤ w2.heap.size := B2.size
    have E1 := Lib.hid (D1.out.below hb2)
    have E2 := Lib.hid (D2.out.below hb2)
    go_wp2_with fail
    refine (HN1.out _ E1.out).mono ?_
    rintro e w3 ⟨rfl, hb3⟩
    have B3 : Below w.heap.size w w3 := Below.then_ (by repeat (first | with_reducible exact Below.refl _ _ | with_reducible assumption | ((with_reducible refine Below.setCell ?_ ?_ _); rotate_left; · (first | omega | exact Nat.le_refl _ | (simp <;> omega))) | (with_reducible refine Below.allocW ?_ _) | (with_reducible refine Below.drew ?_) | (with_reducible refine Below.extW ?_ _))) hb3
    have s3 : w.heap.size ≤ w3.heap.size := B3.size
    go_wp2_with fail
    refine (HN2.out _ (E2.out.below hb3)).mono ?_
    rintro e w4 ⟨rfl, hb4⟩
    have B4 : Below w.heap.size w w4 := Below.then_ (by repeat (first | with_reducible exact Below.refl _ _ | with_reducible assumption | ((with_reducible refine Below.setCell ?_ ?_ _); rotate_left; · (first | omega | exact Nat.le_refl _ | (simp <;> omega))) | (with_reducible refine Below.allocW ?_ _) | (with_reducible refine Below.drew ?_) | (with_reducible refine Below.extW ?_ _))) hb4
    have s4 : w.heap.size ≤ w4.heap.size := B4.size
    go_wp2_with fail
    go_ret
    exact ⟨rfl, (by repeat (first | with_reducible exact Below.refl _ _ | with_reducible assumption | ((with_reducible refine Below.setCell ?_ ?_ _); rotate_left; · (first | omega | exact Nat.le_refl _ | (simp <;> omega))) | (with_reducible refine Below.allocW ?_ _) | (with_reducible refine Below.drew ?_) | (with_reducible refine Below.extW ?_ _)))⟩
  · subst f1
    rw [fe]
    generalize sumR r1 = n at HN1 f2
    generalize sumR r2 = m at HN2 f3
    clear fe
    go_enter Tryz.func86, Tryz.ntmps86
    go_wp2_with fail
    refine (HC1.out _ HD1.out).mono ?_
    rintro e w1 ⟨rfl, hb1⟩
    have B1 : Below w.heap.size w w1 := Below.then_ (by repeat (first | with_reducible exact Below.refl _ _ | with_reducible assumption | ((with_reducible refine Below.setCell ?_ ?_ _); rotate_left; · (first | omega | exact Nat.le_refl _ | (simp <;> omega))) | (with_reducible refine Below.allocW ?_ _) | (with_reducible refine Below.drew ?_) | (with_reducible refine Below.extW ?_ _))) hb1
    have s1 : w.heap.size ≤ w1.heap.size := B1.size
    have D1 := Lib.hid (HD1.out.below hb1)
    have D2 := Lib.hid (HD2.out.below hb1)
    go_wp2_with fail
    refine (HC2.out _ D2.out).mono ?_
    rintro e w2 ⟨rfl, hb2⟩
    have B2 : Below w.heap.size w w2 := Below.then_ (by repeat (first | with_reducible exact Below.refl _ _ | with_reducible assumption | ((with_reducible refine Below.setCell ?_ ?_ _); rotate_left; · (first | omega | exact Nat.le_refl _ | (simp <;> omega))) | (with_reducible refine Below.allocW ?_ _) | (with_reducible refine Below.drew ?_) | (with_reducible refine Below.extW ?_ _))) hb2
    have s2 : w.heap.size ≤ w2.heap.size := B2.size
    have E1 := Lib.hid (D1.out.below hb2)
    have E2 := Lib.hid (D2.out.below hb2)
    go_wp2_with fail
    refine (HN1.out _ E1.out).mono ?_
    rintro e w3 ⟨rfl, hb3⟩
    have B3 : Below w.heap.size w w3 := Below.then_ (by repeat (first | with_reducible exact Below.refl _ _ | with_reducible assumption | ((with_reducible refine Below.setCell ?_ ?_ _); rotate_left; · (first | omega | exact Nat.le_refl _ | (simp <;> omega))) | (with_reducible refine Below.allocW ?_ _) | (with_reducible refine Below.drew ?_) | (with_reducible refine Below.extW ?_ _))) hb3
    have s3 : w.heap.size ≤ w3.heap.size := B3.size
    go_wp2_with fail
    refine (HN2.out _ (E2.out.below hb3)).mono ?_
    rintro e w4 ⟨rfl, hb4⟩
    have B4 : Below w.heap.size w w4 := Below.then_ (by repeat (first | with_reducible exact Below.refl _ _ | with_reducible assumption | ((with_reducible refine Below.setCell ?_ ?_ _); rotate_left; · (first | omega | exact Nat.le_refl _ | (simp <;> omega))) | (with_reducible refine Below.allocW ?_ _) | (with_reducible refine Below.drew ?_) | (with_reducible refine Below.extW ?_ _))) hb4
    have s4 : w.heap.size ≤ w4.heap.size := B4.size
    go_wp2_with fail
    go_ret
    exact ⟨rfl, (by repeat (first | with_reducible exact Below.refl _ _ | with_reducible assumption | ((with_reducible refine Below.setCell ?_ ?_ _); rotate_left; · (first | omega | exact Nat.le_refl _ | (simp <;> omega))) | (with_reducible refine Below.allocW ?_ _) | (with_reducible refine Below.drew ?_) | (with_reducible refine Below.extW ?_ _)))⟩
theorem sideV_nat (n m pl ph ql qh : Nat) : sideV n m pl ph ql qh = sideN n m pl ph ql qh := by
  unfold sideV sideN
  have e : ∀ a b c d : Nat, ((a : Int) * b < (c : Int) * d) = (a * b < c * d) := fun a b c d => by rw [← Int.natCast_mul, ← Int.natCast_mul]; exact propext Int.ofNat_lt
  simp only [e]
/-- What Side tells. -/
def sideT (l m : Int) (a b : List Nd) (x : Int) : Int := if gapErr l m a b = 0 then sideOf l a b x else 0
theorem gapErr_ok {l m : Int} {a b : List Nd} (h : gapErr l m a b = 0) : l = m := by
  unfold gapErr at h
  split at h
  · cases h
  · rename_i h1; exact Decidable.not_not.1 h1
theorem low_range {l : Int} {r : List Nd} (hr : Roll r) (x : Int) : 0 ≤ lowOf l r x ∧ lowOf l r x ≤ sumR r := weighR_le hr
theorem high_range' {l : Int} {r : List Nd} (hr : Roll r) (x : Int) : 0 ≤ highOf l r x ∧ highOf l r x ≤ sumR r := weighR_le hr
theorem gap_Side (w : World) (g1 K1 l1 g2 K2 l2 : Nat) (k1 k2 : Int) (r1 r2 : List Nd) (F1 F2 : Nat → Prop) (x : Int) (h1 : DigAt w g1 K1 l1 k1 r1 F1) (h2 : DigAt w g2 K2 l2 k2 r2 F2) (hn1 : r1.length ≤ 67108864) (hn2 : r2.length ≤ 67108864) :
    Calls Tryz.prog 36 #[.pointer (some ⟨g1, 0, none⟩), .pointer (some ⟨g2, 0, none⟩), .int .i64 x] w fun e w' => e = .returned (.tuple #[.int .i64 (sideT l1 l2 r1 r2 x), .int .i64 (gapErr l1 l2 r1 r2)]) ∧ Below w.heap.size w w' := by
  have HW := Lib.hid (gap_wrong w g1 K1 l1 g2 K2 l2 k1 k2 r1 r2 F1 F2 h1 h2)
  have hf1 := h1.fits
  have hf2 := h2.fits
  have HD1 := Lib.hid h1
  have HD2 := Lib.hid h2
  by_cases he : gapErr l1 l2 r1 r2 = 0
  · have hll := gapErr_ok he
    obtain rfl : l1 = l2 := by omega
    have hs : sideT l1 l1 r1 r2 x = sideOf l1 r1 r2 x := by unfold sideT; rw [if_pos he]
    rw [he] at HW
    rw [he, hs]
    clear he hs hll h1 h2
    unfold sideOf
    have z1 := sumR_nonneg hf1.roll
    have z2 := sumR_nonneg hf2.roll
    have y1 := hf1.sum
    have y2 := hf2.sum
    have a1 := low_range (l := l1) hf1.roll x
    have a2 := high_range' (l := l1) hf1.roll x
    have a3 := low_range (l := l1) hf2.roll x
    have a4 := high_range' (l := l1) hf2.roll x
    have HO1 := Lib.hid (rank_Of · g1 K1 l1 k1 r1 F1 · hn1)
    have HO2 := Lib.hid (rank_Of · g2 K2 l1 k2 r2 F2 · hn2)
    obtain ⟨n, e1⟩ := Int.eq_ofNat_of_zero_le z1
    obtain ⟨m, e2⟩ := Int.eq_ofNat_of_zero_le z2
    obtain ⟨pl, e3⟩ := Int.eq_ofNat_of_zero_le a1.1
    obtain ⟨ph, e4⟩ := Int.eq_ofNat_of_zero_le a2.1
    obtain ⟨ql, e5⟩ := Int.eq_ofNat_of_zero_le a3.1
    obtain ⟨qh, e6⟩ := Int.eq_ofNat_of_zero_le a4.1
    rw [e1, e2, e3, e4, e5, e6, sideV_nat]
    have E := Lib.hid (And.intro e1 (And.intro e2 (And.intro e3 (And.intro e4 (And.intro e5 e6)))))
    have b1 : n ≤ 9223372036854775807 := by omega
    have b2 : m ≤ 9223372036854775807 := by omega
    have b3 : pl ≤ 9223372036854775807 := by omega
    have b4 : ph ≤ 9223372036854775807 := by omega
    have b5 : ql ≤ 9223372036854775807 := by omega
    have b6 : qh ≤ 9223372036854775807 := by omega
    clear e1 e2 e3 e4 e5 e6 a1 a2 a3 a4 z1 z2 y1 y2
    go_enter Tryz.func36, Tryz.ntmps36
    go_wp2_with fail
    refine (HW.out).mono ?_
    rintro e w1 ⟨rfl, hb1⟩
    have B1 : Below w.heap.size w w1 := Below.then_ (by repeat (first | with_reducible exact Below.refl _ _ | with_reducible assumption | ((with_reducible refine Below.setCell ?_ ?_ _); rotate_left; · (first | omega | exact Nat.le_refl _ | (simp <;> omega))) | (with_reducible refine Below.allocW ?_ _) | (with_reducible refine Below.drew ?_) | (with_reducible refine Below.extW ?_ _))) hb1
    have s1 : w.heap.size ≤ w1.heap.size := B1.size
    go_wp2_with fail
    refine (HO1.out _ (HD1.out.below hb1)).mono ?_
    rintro e w2 ⟨t1, lt1, ft1, rfl, htab1, htl1, htf1, hl1, hl2, hb2⟩
    have B2 : Below w.heap.size w w2 := B1.trans (hb2.mono s1)
    have s2 := B2.size
    have T1 := Lib.hid htab1
    have D2 := Lib.hid ((HD2.out.below hb1).below hb2)
    clear hb2 htab1
    go_wp2_with fail
    refine (HO2.out _ D2.out).mono ?_
    rintro e w3 ⟨t2, lt2, ft2, rfl, htab2, htl2, htf2, hl3, hl4, hb3⟩
    have B3 : Below w.heap.size w w3 := B2.trans (hb3.mono s2)
    have s3 := B3.size
    have s23 := hb3.size
    have TT1 := Lib.hid (T1.out.below hb3)
    have TT2 := Lib.hid htab2
    clear hb3 htab2
    have U1 : Hid (TabAt w3 w1.heap.size w2.heap.size t1 n lt1 ft1) := Lib.hid (E.out.1 ▸ TT1.out)
    have U2 : Hid (TabAt w3 w2.heap.size w3.heap.size t2 m lt2 ft2) := Lib.hid (E.out.2.1 ▸ TT2.out)
    have HGS := Lib.hid (gap_side w3 x n m pl ph ql qh U1.out U2.out s23 (Nat.le_refl _) (by omega) htl1.rise (by omega) htf1.rise (by omega) htl2.rise (by omega) htf2.rise
      (by rw [htl1.upT, low_up]; exact E.out.2.2.1) (by rw [htf1.upT, high_up]; exact E.out.2.2.2.1) (by rw [htl2.upT, low_up]; exact E.out.2.2.2.2.1) (by rw [htf2.upT, high_up]; exact E.out.2.2.2.2.2) b1 b2 b3 b4 b5 b6)
    clear htl1 htf1 htl2 htf2
    go_wp2_with fail
    refine HGS.out.mono ?_
    rintro e w4 ⟨rfl, hb4⟩
    go_wp2_with fail
    go_ret2
    exact ⟨rfl, B3.trans (hb4.mono s3)⟩
  · have hs : sideT l1 l2 r1 r2 x = 0 := by unfold sideT; rw [if_neg he]
    rw [hs]
    have hne : (gapErr l1 l2 r1 r2 == 0) = false := by simpa using he
    clear hs he h1 h2
    generalize gapErr l1 l2 r1 r2 = er at HW hne
    go_enter Tryz.func36, Tryz.ntmps36
    go_wp2_with fail
    refine (HW.out).mono ?_
    rintro e w1 ⟨rfl, hb1⟩
    have B1 : Below w.heap.size w w1 := Below.then_ (by repeat (first | with_reducible exact Below.refl _ _ | with_reducible assumption | ((with_reducible refine Below.setCell ?_ ?_ _); rotate_left; · (first | omega | exact Nat.le_refl _ | (simp <;> omega))) | (with_reducible refine Below.allocW ?_ _) | (with_reducible refine Below.drew ?_) | (with_reducible refine Below.extW ?_ _))) hb1
    have s1 : w.heap.size ≤ w1.heap.size := B1.size
    go_wp2_with fail
    go_ret2
    exact ⟨rfl, B1⟩
end Go.Proofs.YtpngailmhdiiiaaGreat
/- The reference of layer 21 (gap): wrong. -/
namespace Go.Proofs.YtpngailmhdiiiaaGreat
open Go.ChangeShapes Go.WideShapes Go.ChangeAt Go.RowKit
set_option linter.unusedVariables false
set_option maxRecDepth 100000

theorem ref21_wrong (w : World) (k1 k2 : Int) (l1 l2 : Nat) (A1 A2 : Option Addr) (cap1 cap2 : Nat) (r1 r2 : List Nd) (h1 : l1 ≤ 48) (h2 : l2 ≤ 48) (hS1 : Sl w w.heap.size encN A1 r1) (hS2 : Sl w w.heap.size encN A2 r2) (hI1 : ints r1) (hI2 : ints r2) (m1 : r1.length ≤ 67108864) (m2 : r2.length ≤ 67108864) (t1 : (totalOf r1).1 = sumR r1) (t2 : (totalOf r2).1 = sumR r2) :
    Calls Tryz.prog 88 #[.agg #[.int .i64 k1, .int .i64 l1, .slice A1 r1.length cap1], .agg #[.int .i64 k2, .int .i64 l2, .slice A2 r2.length cap2]] w fun e w' => e = .returned (.int .i64 (gapErr l1 l2 r1 r2)) ∧ Below w.heap.size w w' := by
  have HW1 := Lib.hid (ref13_Weight · k1 l1 A1 cap1 r1 · hI1 (by unfold maxLen; omega))
  have HW2 := Lib.hid (ref13_Weight · k2 l2 A2 cap2 r2 · hI2 (by unfold maxLen; omega))
  rw [t1] at HW1
  rw [t2] at HW2
  have BA : Below w.heap.size w ((w.alloc (.cells #[.int .i64 k1, .int .i64 l1, .slice A1 r1.length cap1] 37)).alloc (.cells #[.int .i64 k2, .int .i64 l2, .slice A2 r2.length cap2] 37)) := (by repeat (first | with_reducible exact Below.refl _ _ | with_reducible assumption | ((with_reducible refine Below.setCell ?_ ?_ _); rotate_left; · (first | omega | exact Nat.le_refl _ | (simp <;> omega))) | (with_reducible refine Below.allocW ?_ _) | (with_reducible refine Below.drew ?_) | (with_reducible refine Below.extW ?_ _)))
  have S1 := Lib.hid (hS1.keep (B' := ((w.alloc (.cells #[.int .i64 k1, .int .i64 l1, .slice A1 r1.length cap1] 37)).alloc (.cells #[.int .i64 k2, .int .i64 l2, .slice A2 r2.length cap2] 37)).heap.size) BA.size fun p hp => BA.cell hp)
  have S2 := Lib.hid (hS2.keep (B' := ((w.alloc (.cells #[.int .i64 k1, .int .i64 l1, .slice A1 r1.length cap1] 37)).alloc (.cells #[.int .i64 k2, .int .i64 l2, .slice A2 r2.length cap2] 37)).heap.size) BA.size fun p hp => BA.cell hp)
  have K2 := Lib.hid (heap_new_at (w.alloc (.cells #[.int .i64 k1, .int .i64 l1, .slice A1 r1.length cap1] 37)) (.cells #[.int .i64 k2, .int .i64 l2, .slice A2 r2.length cap2] 37) (w.heap.size + 1) (by simp))
  have hcase : (((l1 : Int) == (l2 : Int)) = false ∧ gapErr l1 l2 r1 r2 = 6) ∨ (l1 = l2 ∧ sumR r1 = 0 ∧ gapErr l1 l2 r1 r2 = 7) ∨ (l1 = l2 ∧ (sumR r1 == 0) = false ∧ sumR r2 = 0 ∧ gapErr l1 l2 r1 r2 = 7) ∨ (l1 = l2 ∧ (sumR r1 == 0) = false ∧ (sumR r2 == 0) = false ∧ gapErr l1 l2 r1 r2 = 0) := by
    unfold gapErr
    by_cases c1 : (l1 : Int) = l2
    · have c1' : l1 = l2 := by omega
      by_cases c2 : sumR r1 = 0
      · exact .inr (.inl ⟨c1', c2, by rw [if_neg (not_not_intro c1), if_pos (.inl c2)]⟩)
      · by_cases c3 : sumR r2 = 0
        · exact .inr (.inr (.inl ⟨c1', by simpa using c2, c3, by rw [if_neg (not_not_intro c1), if_pos (.inr c3)]⟩))
        · exact .inr (.inr (.inr ⟨c1', by simpa using c2, by simpa using c3, by rw [if_neg (not_not_intro c1), if_neg (by simp [c2, c3])]⟩))
    · exact .inl ⟨by simpa using c1, by rw [if_pos c1]⟩
  clear hS1 hS2 hI1 hI2 t1 t2 BA
  rcases hcase with ⟨f1, fe⟩ | ⟨f1, f2, fe⟩ | ⟨f1, f2, f3, fe⟩ | ⟨f1, f2, f3, fe⟩
  · rw [fe]
    clear fe HW1 HW2 S1 S2
    go_enter Tryz.func88, Tryz.ntmps88
    go_wp2_with fail
    go_ret
    exact ⟨rfl, (by repeat (first | with_reducible exact Below.refl _ _ | with_reducible assumption | ((with_reducible refine Below.setCell ?_ ?_ _); rotate_left; · (first | omega | exact Nat.le_refl _ | (simp <;> omega))) | (with_reducible refine Below.allocW ?_ _) | (with_reducible refine Below.drew ?_) | (with_reducible refine Below.extW ?_ _)))⟩
  · subst f1
    rw [fe]
    rw [f2] at HW1
    clear fe f2 HW2
    go_enter Tryz.func88, Tryz.ntmps88
    go_wp2_with fail
    refine (HW1.out _ S1.out).mono ?_
    rintro e w1 ⟨rfl, hb1⟩
    have B1 : Below w.heap.size w w1 := Below.then_ (by repeat (first | with_reducible exact Below.refl _ _ | with_reducible assumption | ((with_reducible refine Below.setCell ?_ ?_ _); rotate_left; · (first | omega | exact Nat.le_refl _ | (simp <;> omega))) | (with_reducible refine Below.allocW ?_ _) | (with_reducible refine Below.drew ?_) | (with_reducible refine Below.extW ?_ _))) hb1
    have s1 : w.heap.size ≤ w1.heap.size := B1.size
    go_wp2_with fail
    go_ret
    exact ⟨rfl, (by repeat (first | with_reducible exact Below.refl _ _ | with_reducible assumption | ((with_reducible refine Below.setCell ?_ ?_ _); rotate_left; · (first | omega | exact Nat.le_refl _ | (simp <;> omega))) | (with_reducible refine Below.allocW ?_ _) | (with_reducible refine Below.drew ?_) | (with_reducible refine Below.extW ?_ _)))⟩
  · subst f1
    rw [fe]
    rw [f3] at HW2
    generalize sumR r1 = n at HW1 f2
    clear fe f3
    go_enter Tryz.func88, Tryz.ntmps88
    go_wp2_with fail
    refine (HW1.out _ S1.out).mono ?_
    rintro e w1 ⟨rfl, hb1⟩
    have B1 : Below w.heap.size w w1 := Below.then_ (by repeat (first | with_reducible exact Below.refl _ _ | with_reducible assumption | ((with_reducible refine Below.setCell ?_ ?_ _); rotate_left; · (first | omega | exact Nat.le_refl _ | (simp <;> omega))) | (with_reducible refine Below.allocW ?_ _) | (with_reducible refine Below.drew ?_) | (with_reducible refine Below.extW ?_ _))) hb1
    have s1 : w.heap.size ≤ w1.heap.size := B1.size
    have k2' := blk_below K2.out hb1
    have ck2 := blk_cell k2'
    have zk2 := lt_of_block k2'
    have U2 := Lib.hid (S2.out.keep hb1.size fun p hp => hb1.cell hp)
    clear k2'
    go_wp2_with fail
    refine (HW2.out _ U2.out).mono ?_
    rintro e w2 ⟨rfl, hb2⟩
    have B2 : Below w.heap.size w w2 := Below.then_ (by repeat (first | with_reducible exact Below.refl _ _ | with_reducible assumption | ((with_reducible refine Below.setCell ?_ ?_ _); rotate_left; · (first | omega | exact Nat.le_refl _ | (simp <;> omega))) | (with_reducible refine Below.allocW ?_ _) | (with_reducible refine Below.drew ?_) | (with_reducible refine Below.extW ?_ _))) hb2
    have s2 : w.heap.size ≤ w2.heap.size := B2.size
    go_wp2_with fail
    go_ret
    exact ⟨rfl, (by repeat (first | with_reducible exact Below.refl _ _ | with_reducible assumption | ((with_reducible refine Below.setCell ?_ ?_ _); rotate_left; · (first | omega | exact Nat.le_refl _ | (simp <;> omega))) | (with_reducible refine Below.allocW ?_ _) | (with_reducible refine Below.drew ?_) | (with_reducible refine Below.extW ?_ _)))⟩
  · subst f1
    rw [fe]
    generalize sumR r1 = n at HW1 f2
    generalize sumR r2 = m at HW2 f3
    clear fe
    go_enter Tryz.func88, Tryz.ntmps88
    go_wp2_with fail
    refine (HW1.out _ S1.out).mono ?_
    rintro e w1 ⟨rfl, hb1⟩
    have B1 : Below w.heap.size w w1 := Below.then_ (by repeat (first | with_reducible exact Below.refl _ _ | with_reducible assumption | ((with_reducible refine Below.setCell ?_ ?_ _); rotate_left; · (first | omega | exact Nat.le_refl _ | (simp <;> omega))) | (with_reducible refine Below.allocW ?_ _) | (with_reducible refine Below.drew ?_) | (with_reducible refine Below.extW ?_ _))) hb1
    have s1 : w.heap.size ≤ w1.heap.size := B1.size
    have k2' := blk_below K2.out hb1
    have ck2 := blk_cell k2'
    have zk2 := lt_of_block k2'
    have U2 := Lib.hid (S2.out.keep hb1.size fun p hp => hb1.cell hp)
    clear k2'
    go_wp2_with fail
    refine (HW2.out _ U2.out).mono ?_
    rintro e w2 ⟨rfl, hb2⟩
    have B2 : Below w.heap.size w w2 := Below.then_ (by repeat (first | with_reducible exact Below.refl _ _ | with_reducible assumption | ((with_reducible refine Below.setCell ?_ ?_ _); rotate_left; · (first | omega | exact Nat.le_refl _ | (simp <;> omega))) | (with_reducible refine Below.allocW ?_ _) | (with_reducible refine Below.drew ?_) | (with_reducible refine Below.extW ?_ _))) hb2
    have s2 : w.heap.size ≤ w2.heap.size := B2.size
    go_wp2_with fail
    go_ret
    exact ⟨rfl, (by repeat (first | with_reducible exact Below.refl _ _ | with_reducible assumption | ((with_reducible refine Below.setCell ?_ ?_ _); rotate_left; · (first | omega | exact Nat.le_refl _ | (simp <;> omega))) | (with_reducible refine Below.allocW ?_ _) | (with_reducible refine Below.drew ?_) | (with_reducible refine Below.extW ?_ _)))⟩
end Go.Proofs.YtpngailmhdiiiaaGreat
/- Package reckon: Plus, Over. -/
namespace Go.Proofs.YtpngailmhdiiiaaGreat
open Go.ChangeShapes Go.WideShapes Go.ChangeAt Go.RowKit
set_option linter.unusedVariables false
set_option maxRecDepth 100000

/-- A number of two words. -/
def wideV (n : Nat) : Value := .agg #[.int .u64 (n % 18446744073709551616 : Nat), .int .u64 (n / 18446744073709551616 : Nat)]
theorem wide_add {n p : Nat} : ((n + p) % 18446744073709551616 = (n % 18446744073709551616 + p % 18446744073709551616) % 18446744073709551616) ∧
    (n + p) / 18446744073709551616 = n / 18446744073709551616 + p / 18446744073709551616 + (n % 18446744073709551616 + p % 18446744073709551616) / 18446744073709551616 := by omega
theorem wide_div (n : Nat) : n / 18446744073709551616 * 18446744073709551616 + n % 18446744073709551616 = n := Nat.div_add_mod' _ _
end Go.Proofs.YtpngailmhdiiiaaGreat
/- Reference 1: Bits: a number of two words as digits. -/
namespace Go.Proofs.YtpngailmhdiiiaaGreat
open Go.ChangeShapes Go.WideShapes Go.ChangeAt Go.RowKit
set_option linter.unusedVariables false
set_option maxRecDepth 100000

theorem bits_step (x m : Nat) : x / 2 ^ m = 2 * (x / 2 ^ (m + 1)) + x / 2 ^ m % 2 := by
  rw [Nat.pow_succ, ← Nat.div_div_eq_div_mul]; omega
theorem bits_val (b x m j : Nat) (h : j = m + 1) (hj : j ≤ 64) : (b * 2 ^ (64 - j) + x / 2 ^ j) + (b * 2 ^ (64 - j) + x / 2 ^ j) + x / 2 ^ m % 2 = b * 2 ^ (64 - m) + x / 2 ^ m := by
  subst h
  have e : 64 - m = (64 - (m + 1)) + 1 := by omega
  have := bits_step x m
  rw [e, Nat.pow_succ 2 (64 - (m + 1)), ← Nat.mul_assoc b]
  omega
end Go.Proofs.YtpngailmhdiiiaaGreat
/- Package bound: each: a function value called for all nodes. -/
namespace Go.Proofs.YtpngailmhdiiiaaGreat
open Go.ChangeShapes Go.WideShapes Go.ChangeAt Go.RowKit
set_option linter.unusedVariables false
set_option maxRecDepth 100000

/-- What is so of the world behind so many nodes: it stays where only new blocks come. -/
structure Stays (I : Nat → World → Prop) : Prop where
  st : ∀ q W W', I q W → Below W.heap.size W W' → I q W'
end Go.Proofs.YtpngailmhdiiiaaGreat
/- Package bound: Least, Greatest. -/
namespace Go.Proofs.YtpngailmhdiiiaaGreat
open Go.ChangeShapes Go.WideShapes Go.ChangeAt Go.RowKit
set_option linter.unusedVariables false
set_option maxRecDepth 100000

def wrongOf (r : List Nd) : Int := if sumR r = 0 then 7 else 0
/-- The least first, and the least last value of nodes. -/
def leastStep (l : Int) (a : Int × Int) (x : Nd) : Int × Int := (min a.1 (endsOf l x.1).1, min a.2 (endsOf l x.1).2.1)
def leastOf (l : Int) (r : List Nd) : Int × Int := r.foldl (leastStep l) (9223372036854775807, 9223372036854775807)
theorem leastOf_succ {l : Int} {r : List Nd} {q : Nat} (h : q < r.length) : leastOf l (r.take (q + 1)) = leastStep l (leastOf l (r.take q)) r[q] := by
  unfold leastOf
  rw [List.take_succ_eq_append_getElem h, List.foldl_append]; rfl
theorem KeepN.set {w : World} {b o : Nat} {x y : Int} (h : bothAt w b x y) (u : Value) : KeepN w (w.setCell ⟨b, o, none⟩ u) := by
  refine ⟨by simp [World.setCell], fun c cs fr hc => ?_⟩
  have hne : c ≠ b := by
    rintro rfl
    unfold bothAt at h
    rw [h] at hc
    injection hc with hc
    injection hc with _ ht
    exact absurd ht (by decide)
  exact (Below.heap_setCell _ _ _ _ hne).trans hc
theorem Below.set_at {B : Nat} {w W : World} {b o : Nat} {u : Value} (h : Below B w W) (hb : B ≤ b) : Below B w (W.setCell ⟨b, o, none⟩ u) := h.setCell (p := ⟨b, o, none⟩) hb u

/-- The two results in memory behind some nodes. -/
def BoundI (w : World) (b0 b1 : Nat) (f : Nat → Int × Int) (q : Nat) (W : World) : Prop := Below w.heap.size w W ∧ bothAt W b0 0 0 ∧ bothAt W b1 (f q).1 (f q).2
theorem boundI_stays (w : World) (b0 b1 : Nat) (f : Nat → Int × Int) : Stays (BoundI w b0 b1 f) := ⟨fun q W W' ⟨h1, h2, h3⟩ hb => ⟨h1.trans (hb.mono h1.size), h2.below hb, h3.below hb⟩⟩
def leastT (l : Int) (r : List Nd) : Int × Int × Int := if sumR r = 0 then (0, 0, 7) else ((leastOf l r).1, (leastOf l r).2, 0)
end Go.Proofs.YtpngailmhdiiiaaGreat
/- Package bound: Greatest, Spread. -/
namespace Go.Proofs.YtpngailmhdiiiaaGreat
open Go.ChangeShapes Go.WideShapes Go.ChangeAt Go.RowKit
set_option linter.unusedVariables false
set_option maxRecDepth 100000

/-- The greatest first, and the greatest last value of nodes. -/
def mostStep (l : Int) (a : Int × Int) (x : Nd) : Int × Int := (max a.1 (endsOf l x.1).1, max a.2 (endsOf l x.1).2.1)
def mostOf (l : Int) (r : List Nd) : Int × Int := r.foldl (mostStep l) (0, 0)
theorem mostOf_succ {l : Int} {r : List Nd} {q : Nat} (h : q < r.length) : mostOf l (r.take (q + 1)) = mostStep l (mostOf l (r.take q)) r[q] := by
  unfold mostOf
  rw [List.take_succ_eq_append_getElem h, List.foldl_append]; rfl
def mostT (l : Int) (r : List Nd) : Int × Int × Int := if sumR r = 0 then (0, 0, 7) else ((mostOf l r).1, (mostOf l r).2, 0)
end Go.Proofs.YtpngailmhdiiiaaGreat
/- Package bound: Sum, Mean. -/
namespace Go.Proofs.YtpngailmhdiiiaaGreat
open Go.ChangeShapes Go.WideShapes Go.ChangeAt Go.RowKit
set_option linter.unusedVariables false
set_option maxRecDepth 100000

/-- Values times weights. -/
def sumW (l : Int) (hi : Bool) : List Nd → Nat
  | [] => 0
  | x :: r => (if hi = true then (endsOf l x.1).2.1 else (endsOf l x.1).1).toNat * x.2.toNat + sumW l hi r
theorem sumW_append (l : Int) (hi : Bool) (a b : List Nd) : sumW l hi (a ++ b) = sumW l hi a + sumW l hi b := by
  induction a with
  | nil => simp [sumW]
  | cons x a ih => simp only [List.cons_append, sumW, ih]; omega
theorem sumW_succ {l : Int} {hi : Bool} {r : List Nd} {q : Nat} (h : q < r.length) : sumW l hi (r.take (q + 1)) = sumW l hi (r.take q) + (if hi = true then (endsOf l r[q].1).2.1 else (endsOf l r[q].1).1).toNat * r[q].2.toNat := by
  rw [List.take_succ_eq_append_getElem h, sumW_append]
  simp [sumW]
theorem sumW_le {l : Nat} (hl : l ≤ 48) {r : List Nd} (hr : Roll r) (hn : ∀ x ∈ r, isNode l x.1 = true) (hi : Bool) : sumW l hi r ≤ 281474976710655 * (sumR r).toNat := by
  induction r with
  | nil => simp [sumW]
  | cons x r ih =>
    have hx := ends_48 hl (hn x (by simp))
    have h0 := sumR_nonneg hr.tail
    have hx2 := (hr.2 x (by simp)).2
    have hi2 := ih hr.tail (fun y hy => hn y (by simp [hy]))
    have e : (sumR (x :: r)).toNat = x.2.toNat + (sumR r).toNat := by simp only [sumR]; omega
    rw [e, Nat.mul_add]
    simp only [sumW]
    have : (if hi = true then (endsOf l x.1).2.1 else (endsOf l x.1).1).toNat ≤ 281474976710655 := by split <;> omega
    have := Nat.mul_le_mul_right x.2.toNat this
    omega
theorem KeepN.setT {w W : World} {b o t : Nat} (k : KeepN w W) (h : TypeAt W b t) (ht : t ≠ 100) (u : Value) : KeepN w (W.setCell ⟨b, o, none⟩ u) := by
  refine keepN_t k ⟨by simp [World.setCell], fun c cs fr hc => ?_⟩
  have hne : c ≠ b := by
    rintro rfl
    obtain ⟨cs', fr', h⟩ := h
    rw [h] at hc
    injection hc with hc
    injection hc with _ h2
    exact ht h2
  exact (Below.heap_setCell _ _ _ _ hne).trans hc
theorem KeepN.more {w W W' : World} (k : KeepN w W) (h : Below W.heap.size W W') : KeepN w W' := keepN_t k (KeepN.of_below h)
theorem sum_step {l : Nat} (hl1 : 1 ≤ l ∧ l ≤ 48) {r : List Nd} (hf : Fits l r) {q : Nat} (hq : q < r.length) : ∃ lo hi c : Nat, (endsOf l r[q].1).1 = lo ∧ (endsOf l r[q].1).2.1 = hi ∧ r[q].2 = c ∧ lo ≤ 281474976710655 ∧ hi ≤ 281474976710655 ∧ c ≤ 72057594037927935 ∧
    sumW l false (r.take (q + 1)) = sumW l false (r.take q) + lo * c ∧ sumW l true (r.take (q + 1)) = sumW l true (r.take q) + hi * c ∧ sumW l false (r.take (q + 1)) / 18446744073709551616 ≤ 18446744073709551615 ∧ sumW l true (r.take (q + 1)) / 18446744073709551616 ≤ 18446744073709551615 := by
  have hn := hf.nodes hl1
  have hl := hl1.2
  have hx := ends_48 hl (hn _ (List.getElem_mem hq))
  have hx2 := (hf.roll.2 _ (List.getElem_mem hq)).2
  have hc := sumR_take_le hf.roll (q + 1)
  have hc2 := sumR_take_succ hq
  have hc3 := sumR_nonneg (hf.roll.take q)
  have hs := hf.sum
  have b0 := sumW_le hl (hf.roll.take (q + 1)) (fun x hx => hn x (List.mem_of_mem_take hx)) false
  have b1 := sumW_le hl (hf.roll.take (q + 1)) (fun x hx => hn x (List.mem_of_mem_take hx)) true
  have hm : 281474976710655 * (sumR (r.take (q + 1))).toNat ≤ 281474976710655 * 72057594037927935 := Nat.mul_le_mul_left _ (by omega)
  refine ⟨(endsOf l r[q].1).1.toNat, (endsOf l r[q].1).2.1.toNat, r[q].2.toNat, by omega, by omega, by omega, by omega, by omega, by omega, ?_, ?_, by omega, by omega⟩
  · rw [sumW_succ hq]; simp
  · rw [sumW_succ hq]; simp
def meanT (l : Int) (r : List Nd) : Int × Int × Int := if sumR r = 0 then (0, 0, 7) else ((sumW l false r / (sumR r).toNat : Nat), (sumW l true r / (sumR r).toNat + (if sumW l true r % (sumR r).toNat = 0 then 0 else 1) : Nat), 0)
end Go.Proofs.YtpngailmhdiiiaaGreat
/- The reference of layer 20 (bound): Ends. -/
namespace Go.Proofs.YtpngailmhdiiiaaGreat
open Go.ChangeShapes Go.WideShapes Go.ChangeAt Go.RowKit
set_option linter.unusedVariables false
set_option maxRecDepth 100000

theorem lt_or_dec (a b : Int) : a < b ∨ decide (a < b) = false := by
  by_cases h : a < b
  · exact .inl h
  · exact .inr (decide_eq_false h)
/-- The four ends, as the document finds them. -/
structure E4 where
  a : Int
  b : Int
  c : Int
  d : Int
def e4Step (l : Int) (e : E4) (x : Nd) : E4 := ⟨if (endsOf l x.1).1 < e.a then (endsOf l x.1).1 else e.a, if (endsOf l x.1).2.1 < e.b then (endsOf l x.1).2.1 else e.b, if e.c < (endsOf l x.1).1 then (endsOf l x.1).1 else e.c, if e.d < (endsOf l x.1).2.1 then (endsOf l x.1).2.1 else e.d⟩
def e4Of (l : Int) (r : List Nd) : E4 := r.foldl (e4Step l) ⟨281474976710656, 281474976710656, -1, -1⟩
theorem e4Of_succ {l : Int} {r : List Nd} {q : Nat} (h : q < r.length) : e4Of l (r.take (q + 1)) = e4Step l (e4Of l (r.take q)) r[q] := by
  unfold e4Of
  rw [List.take_succ_eq_append_getElem h, List.foldl_append]; rfl
theorem blk_set {w : World} {b q o : Nat} {u : Value} {ob : Obj} (h : w.heap[b]? = some ob) (hne : b ≠ q) : (w.setCell ⟨q, o, none⟩ u).heap[b]? = some ob := (Below.heap_setCell _ _ _ _ hne).trans h

end Go.Proofs.YtpngailmhdiiiaaGreat
/- The reference of layer 20 (bound): Sum. -/
namespace Go.Proofs.YtpngailmhdiiiaaGreat
open Go.ChangeShapes Go.WideShapes Go.ChangeAt Go.RowKit
set_option linter.unusedVariables false
set_option maxRecDepth 100000

theorem drew_hs (W : World) : W.drew.heap = W.heap := rfl
/-- What a reference's sum leaves: a list of digits. -/
def SumPost (n : Nat) (m : Nat) (w : World) (e : Ending) (w' : World) : Prop := ∃ v L, e = .returned v ∧ Own w' w.heap.size 3 encD v L ∧ okD L ∧ valD L = n ∧ L.length ≤ m ∧ Below w.heap.size w w'
end Go.Proofs.YtpngailmhdiiiaaGreat
/- The reference of layer 20 (bound): Mean. -/
namespace Go.Proofs.YtpngailmhdiiiaaGreat
open Go.ChangeShapes Go.WideShapes Go.ChangeAt Go.RowKit
set_option linter.unusedVariables false
set_option maxRecDepth 100000

end Go.Proofs.YtpngailmhdiiiaaGreat
/- Package bound: Worst, Spread. -/
namespace Go.Proofs.YtpngailmhdiiiaaGreat
open Go.ChangeShapes Go.WideShapes Go.ChangeAt Go.RowKit
set_option linter.unusedVariables false
set_option maxRecDepth 100000

/-- A number in a block. -/
def intAt (w : World) (b : Nat) (x : Int) : Prop := w.heap[b]? = some (.cells #[.int .i64 x] 3 (0, 0))
theorem intAt.below {w w' : World} {b : Nat} {x : Int} (h : intAt w b x) (hb : Below w.heap.size w w') : intAt w' b x := blk_below h hb
theorem intAt.alloc {w : World} {b : Nat} {x : Int} (h : intAt w b x) (o : Obj) : intAt (w.alloc o) b x := h.below ((Below.refl _ _).alloc (Nat.le_refl _) o)
theorem intAt.set {w : World} {b q o : Nat} {x : Int} (h : intAt w b x) (hne : b ≠ q) (u : Value) : intAt (w.setCell ⟨q, o, none⟩ u) b x := (Below.heap_setCell _ _ _ _ hne).trans h
theorem intAt.put {w : World} {b : Nat} {x : Int} (h : intAt w b x) (y : Int) : intAt (w.setCell ⟨b, 0, none⟩ (.int .i64 y)) b y := heap_set_at (i := 0) h _
theorem intAt.ty {w : World} {b : Nat} {x : Int} (h : intAt w b x) : TypeAt w b 3 := .of h
/-- Where least is told, and how little: one number more. -/
def worstStep (a : Int × Int) (at_ n : Int) : Int × Int := if a.2 < n ∨ n = a.2 ∧ at_ < a.1 then (at_, n) else a
/-- What became of the world. -/
def TryEnd (w : World) (bx bg : Nat) (r : Int × Int) (w' : World) : Prop :=
  intAt w' bx r.1 ∧ intAt w' bg r.2 ∧ KeepN w w' ∧ (∀ C, C ≤ bx → C ≤ bg → C ≤ w.heap.size → Below C w w') ∧ (∀ b, b < w.heap.size → b ≠ bx → b ≠ bg → w'.heap[b]? = w.heap[b]?)
theorem try_same {w w1 : World} {bx bg : Nat} {x gp : Int} (hb : Below w.heap.size w w1) (X : intAt w1 bx x) (G : intAt w1 bg gp) (o : Obj) : TryEnd w bx bg (x, gp) (w1.alloc o) :=
  have hB := hb.alloc hb.size o
  ⟨X.alloc o, G.alloc o, KeepN.of_below hB, fun C _ _ h => hB.mono h, fun b h _ _ => hB.block b h⟩
theorem try_put {w w1 : World} {bx bg : Nat} {x gp : Int} (hb : Below w.heap.size w w1) (X : intAt w1 bx x) (G : intAt w1 bg gp) (hne : bg ≠ bx) (o : Obj) (a n : Int) :
    TryEnd w bx bg (a, n) (((w1.setCell ⟨bx, 0, none⟩ (.int .i64 a)).setCell ⟨bg, 0, none⟩ (.int .i64 n)).alloc o) :=
  ⟨((X.put a).set hne.symm _).alloc o, ((G.set hne _).put n).alloc o, (((KeepN.of_below hb).setT X.ty (by decide) _).setT (G.set hne _).ty (by decide) _).more ((Below.refl _ _).alloc (Nat.le_refl _) o),
    fun C h1 h2 h3 => (((hb.mono h3).setCell (p := ⟨bx, 0, none⟩) h1 _).setCell (p := ⟨bg, 0, none⟩) h2 _).alloc (by have := hb.size; simp only [World.size_setCell]; omega) o,
    fun b h h1 h2 => (Below.heap_alloc _ o b (by have := hb.size; simp only [World.size_setCell]; omega)).trans ((Below.heap_setCell _ _ _ _ h2).trans ((Below.heap_setCell _ _ _ _ h1).trans (hb.block b h)))⟩
end Go.Proofs.YtpngailmhdiiiaaGreat
/- Package bound: Worst. -/
namespace Go.Proofs.YtpngailmhdiiiaaGreat
open Go.ChangeShapes Go.WideShapes Go.ChangeAt Go.RowKit
set_option linter.unusedVariables false
set_option maxRecDepth 100000

@[go_sem] theorem run_store_func (P : Program) (w : World) (a : Addr) (m : Mode) (f : Fn) (ts : Array Value) (cs : Array Value) : (store a (.func f ts cs) m).run P w = stored P w a (.func f ts cs) m := run_store P w a _ m rfl
def gapAt (l : Int) (r : List Nd) (x : Int) : Int := highOf l r x - lowOf l r x
/-- The worst behind some nodes. -/
def worstPre (l : Int) (r : List Nd) (p : List Nd) : Int × Int := p.foldl (fun a x => worstStep a (endsOf l x.1).1 (gapAt l r (endsOf l x.1).1)) (worstStep (0, 0) 0 (gapAt l r 0))
theorem worstPre_succ {l : Int} {r : List Nd} {q : Nat} (h : q < r.length) : worstPre l r (r.take (q + 1)) = worstStep (worstPre l r (r.take q)) (endsOf l r[q].1).1 (gapAt l r (endsOf l r[q].1).1) := by
  unfold worstPre
  rw [List.take_succ_eq_append_getElem h, List.foldl_append]; rfl
theorem gap_range {l : Int} {r : List Nd} (h : Roll r) (hs : sumR r ≤ 72057594037927935) (x : Int) : -72057594037927936 ≤ gapAt l r x ∧ gapAt l r x ≤ 72057594037927936 := by
  have h1 := weighR_le (l := l) (f := fun _ hi => decide (hi ≤ x)) h
  have h2 := weighR_le (l := l) (f := fun lo _ => decide (lo ≤ x)) h
  unfold gapAt highOf lowOf
  omega
def worstT (l : Int) (r : List Nd) : Int × Int × Int := if sumR r = 0 then (0, 0, 7) else ((worstPre l r r).1, (worstPre l r r).2, 0)
def triV (t : Int × Int × Int) : Value := .tuple #[.int .i64 t.1, .int .i64 t.2.1, .int .i64 t.2.2]
end Go.Proofs.YtpngailmhdiiiaaGreat
/- Chapter 20's example. -/
namespace Go.Proofs.YtpngailmhdiiiaaGreat
open Go.ChangeShapes Go.WideShapes Go.ChangeAt Go.RowKit
set_option linter.unusedVariables false
set_option maxRecDepth 100000

theorem least20 : leastT ((2 : Nat) : Int) nodes16 = (0, 0, 0) := by decide +kernel
theorem most20 : mostT ((2 : Nat) : Int) nodes16 = (3, 3, 0) := by decide +kernel
theorem mean20 : meanT ((2 : Nat) : Int) nodes16 = (1, 2, 0) := by decide +kernel
theorem worst20 : worstT ((2 : Nat) : Int) nodes16 = (0, 1, 0) := by decide +kernel
end Go.Proofs.YtpngailmhdiiiaaGreat
/- Chapter 20: the sums and the mean: the law. -/
namespace Go.Proofs.YtpngailmhdiiiaaGreat
open Go.ChangeShapes Go.WideShapes Go.ChangeAt Go.RowKit
set_option linter.unusedVariables false
set_option linter.unusedSimpArgs false
set_option maxRecDepth 100000

/-- What it holds then: the record, and the mean. -/
def MeanAt (W : World) (p q : Nat) (k l : Int) (A : Option Addr) (n cap : Nat) (x y : Int) : Prop :=
  W.heap[p]? = some (.cells #[.int .i64 k, .int .i64 l, .slice A n cap] 37 (0, 0)) ∧ bothAt W q x y
theorem MeanAt.below {w w' : World} {p q : Nat} {k l : Int} {A : Option Addr} {n cap : Nat} {x y : Int} (h : MeanAt w p q k l A n cap x y) (hb : Below w.heap.size w w') : MeanAt w' p q k l A n cap x y :=
  ⟨blk_below h.1 hb, h.2.below hb⟩
end Go.Proofs.YtpngailmhdiiiaaGreat
/- The reference of layer 21 (gap): both. -/
namespace Go.Proofs.YtpngailmhdiiiaaGreat
open Go.ChangeShapes Go.WideShapes Go.ChangeAt Go.RowKit
set_option linter.unusedVariables false
set_option linter.unusedSimpArgs false
set_option maxRecDepth 100000

set_option maxHeartbeats 1000000 in
theorem ref21_both (w : World) (k u : Int) (A : Option Addr) (cap : Nat) (l : List Nd) (x : Int) (hS : Sl w w.heap.size encN A l) (hI : ints l) (hm : l.length ≤ 67108864) (hr : Roll l) (hs : sumR l ≤ 72057594037927935) :
    Calls Tryz.prog 154 #[.agg #[.int .i64 k, .int .i64 u, .slice A l.length cap], .int .i64 x] w fun e w' => e = .returned (.agg #[.int .i64 (lowOf u l x), .int .i64 (highOf u l x)]) ∧ Below w.heap.size w w' := by
  have HLo := Lib.hid (fun (W : World) (h : Sl W W.heap.size encN A l) => ref16_Low W u A cap l x h hI hm hr hs)
  have HHi := Lib.hid (fun (W : World) (h : Sl W W.heap.size encN A l) => ref16_High W u A cap l x h hI hm hr hs)
  have BA : Below w.heap.size w ((w.alloc (.cells #[.int .i64 k, .int .i64 u, .slice A l.length cap] 37)).alloc (.cells #[.int .i64 0, .int .i64 0] 29)) := (by repeat (first | with_reducible exact Below.refl _ _ | with_reducible assumption | ((with_reducible refine Below.setCell ?_ ?_ _); rotate_left; · (first | omega | exact Nat.le_refl _ | (simp <;> omega))) | (with_reducible refine Below.allocW ?_ _) | (with_reducible refine Below.drew ?_) | (with_reducible refine Below.extW ?_ _)))
  have HB0 := Lib.hid BA
  have S0 := Lib.hid (hS.keep (B' := ((w.alloc (.cells #[.int .i64 k, .int .i64 u, .slice A l.length cap] 37)).alloc (.cells #[.int .i64 0, .int .i64 0] 29)).heap.size) BA.size fun p hp => BA.cell hp)
  have H0 : Hid (MeanAt ((w.alloc (.cells #[.int .i64 k, .int .i64 u, .slice A l.length cap] 37)).alloc (.cells #[.int .i64 0, .int .i64 0] 29)) w.heap.size (w.heap.size + 1) k u A l.length cap 0 0) := Lib.hid ⟨(Below.heap_alloc _ _ _ (by simp)).trans (heap_alloc_new w _), heap_new_at (w.alloc _) _ (w.heap.size + 1) (by simp)⟩
  clear hS hI BA
  go_enter Tryz.func154, Tryz.ntmps154
  go_wp2_with fail
  generalize (w.alloc (.cells #[.int .i64 k, .int .i64 u, .slice A l.length cap] 37)).alloc (.cells #[.int .i64 0, .int .i64 0] 29) = W0 at H0 S0 HB0 ⊢
  refine wp_region_noPanic ?_
  refine wp_region_N (fun W => MeanAt W w.heap.size (w.heap.size + 1) k u A l.length cap 0 0) [17] (by kernel_rfl) H0.out (fun hHeld => ?_)
  refine wpAnyN_pure (i := 0) (v := .pointer (some ⟨w.heap.size, 1, none⟩)) rfl (by kernel_rfl) (by kernel_rfl) (by kernel_rfl) (fun _ _ _ h => h) (Or.inl ⟨by rfl, fun W _ => by go_simp⟩) ?_
  try simp only [Act.put, List.setIfInBounds_toArray, List.set_cons_zero, List.set_cons_succ]
  refine wpAnyN_pure (i := 1) (v := .pointer (some ⟨w.heap.size, 1, none⟩)) rfl (by kernel_rfl) (by kernel_rfl) (by kernel_rfl) (fun _ _ _ h => h) (Or.inl ⟨by rfl, fun W _ => by go_simp⟩) ?_
  try simp only [Act.put, List.setIfInBounds_toArray, List.set_cons_zero, List.set_cons_succ]
  refine wpAnyN_take (i := 2) (v := .int .i64 u) rfl (by kernel_rfl) (by kernel_rfl) (by kernel_rfl) (by kernel_rfl) (fun _ _ _ h => h) (Or.inl ⟨by rfl, fun W hW => by have q1 := blk_cell hW.1; have q2 := blk_cell hW.2; go_simp⟩) hHeld ?_
  try simp only [Act.put, List.setIfInBounds_toArray, List.set_cons_zero, List.set_cons_succ]
  refine wpAnyN_pure (i := 3) (v := .pointer (some ⟨w.heap.size, 1, none⟩)) rfl (by kernel_rfl) (by kernel_rfl) (by kernel_rfl) (fun _ _ _ h => h) (Or.inl ⟨by rfl, fun W _ => by go_simp⟩) ?_
  try simp only [Act.put, List.setIfInBounds_toArray, List.set_cons_zero, List.set_cons_succ]
  refine wpAnyN_pure (i := 4) (v := .pointer (some ⟨w.heap.size, 2, none⟩)) rfl (by kernel_rfl) (by kernel_rfl) (by kernel_rfl) (fun _ _ _ h => h) (Or.inl ⟨by rfl, fun W _ => by go_simp⟩) ?_
  try simp only [Act.put, List.setIfInBounds_toArray, List.set_cons_zero, List.set_cons_succ]
  refine wpAnyN_take (i := 5) (v := .slice A l.length cap) rfl (by kernel_rfl) (by kernel_rfl) (by kernel_rfl) (by kernel_rfl) (fun _ _ _ h => h) (Or.inl ⟨by rfl, fun W hW => by have q1 := blk_cell hW.1; have q2 := blk_cell hW.2; go_simp⟩) hHeld ?_
  try simp only [Act.put, List.setIfInBounds_toArray, List.set_cons_zero, List.set_cons_succ]
  refine wpAnyN_pure (i := 6) (v := .int .i64 x) rfl (by kernel_rfl) (by kernel_rfl) (by kernel_rfl) (fun _ _ _ h => h) (Or.inl ⟨by rfl, fun W _ => by go_simp⟩) ?_
  try simp only [Act.put, List.setIfInBounds_toArray, List.set_cons_zero, List.set_cons_succ]
  refine wpAnyN_pure (i := 8) (v := .pointer (some ⟨w.heap.size, 1, none⟩)) rfl (by kernel_rfl) (by kernel_rfl) (by kernel_rfl) (fun _ _ _ h => h) (Or.inl ⟨by rfl, fun W _ => by go_simp⟩) ?_
  try simp only [Act.put, List.setIfInBounds_toArray, List.set_cons_zero, List.set_cons_succ]
  refine wpAnyN_pure (i := 9) (v := .pointer (some ⟨w.heap.size, 1, none⟩)) rfl (by kernel_rfl) (by kernel_rfl) (by kernel_rfl) (fun _ _ _ h => h) (Or.inl ⟨by rfl, fun W _ => by go_simp⟩) ?_
  try simp only [Act.put, List.setIfInBounds_toArray, List.set_cons_zero, List.set_cons_succ]
  refine wpAnyN_take (i := 10) (v := .int .i64 u) rfl (by kernel_rfl) (by kernel_rfl) (by kernel_rfl) (by kernel_rfl) (fun _ _ _ h => h) (Or.inl ⟨by rfl, fun W hW => by have q1 := blk_cell hW.1; have q2 := blk_cell hW.2; go_simp⟩) hHeld ?_
  try simp only [Act.put, List.setIfInBounds_toArray, List.set_cons_zero, List.set_cons_succ]
  refine wpAnyN_pure (i := 11) (v := .pointer (some ⟨w.heap.size, 1, none⟩)) rfl (by kernel_rfl) (by kernel_rfl) (by kernel_rfl) (fun _ _ _ h => h) (Or.inl ⟨by rfl, fun W _ => by go_simp⟩) ?_
  try simp only [Act.put, List.setIfInBounds_toArray, List.set_cons_zero, List.set_cons_succ]
  refine wpAnyN_pure (i := 12) (v := .pointer (some ⟨w.heap.size, 2, none⟩)) rfl (by kernel_rfl) (by kernel_rfl) (by kernel_rfl) (fun _ _ _ h => h) (Or.inl ⟨by rfl, fun W _ => by go_simp⟩) ?_
  try simp only [Act.put, List.setIfInBounds_toArray, List.set_cons_zero, List.set_cons_succ]
  refine wpAnyN_take (i := 13) (v := .slice A l.length cap) rfl (by kernel_rfl) (by kernel_rfl) (by kernel_rfl) (by kernel_rfl) (fun _ _ _ h => h) (Or.inl ⟨by rfl, fun W hW => by have q1 := blk_cell hW.1; have q2 := blk_cell hW.2; go_simp⟩) hHeld ?_
  try simp only [Act.put, List.setIfInBounds_toArray, List.set_cons_zero, List.set_cons_succ]
  refine wpAnyN_pure (i := 14) (v := .int .i64 x) rfl (by kernel_rfl) (by kernel_rfl) (by kernel_rfl) (fun _ _ _ h => h) (Or.inl ⟨by rfl, fun W _ => by go_simp⟩) ?_
  try simp only [Act.put, List.setIfInBounds_toArray, List.set_cons_zero, List.set_cons_succ]
  refine wpAnyN_one (i := 7) (by kernel_rfl) rfl (fun K hK => ?_)
  go_simp
  refine (HLo.out _ S0.out.drew).mono ?_
  rintro e w1 ⟨rfl, hb1⟩
  have H1 := Lib.hid (MeanAt.below (w := World.drew W0) H0.out hb1)
  have S1 := Lib.hid (S0.out.drew.keep hb1.size fun p hp => hb1.cell hp)
  have HB1 := Lib.hid ((Below.drew HB0.out).trans (hb1.mono (Below.drew HB0.out).size))
  refine hK.out _ _ (fun _ _ => H1.out) ?_
  clear hK K hb1 hHeld
  try simp only [Act.put, List.setIfInBounds_toArray, List.set_cons_zero, List.set_cons_succ]
  refine wpAnyN_one (i := 15) (by kernel_rfl) rfl (fun K hK => ?_)
  go_simp
  refine (HHi.out _ S1.out).mono ?_
  rintro e w2 ⟨rfl, hb2⟩
  have H2 := Lib.hid (H1.out.below hb2)
  have HB2 := Lib.hid (HB1.out.trans (hb2.mono HB1.out.size))
  refine hK.out _ _ (fun _ _ => H2.out) ?_
  clear hK K hb2
  try simp only [Act.put, List.setIfInBounds_toArray, List.set_cons_zero, List.set_cons_succ]
  refine wpAnyN_pure (i := 16) (v := .agg #[.int .i64 (lowOf u l x), .int .i64 (highOf u l x)]) rfl (by kernel_rfl) (by kernel_rfl) (by kernel_rfl) (fun _ _ _ h => h) (Or.inl ⟨by rfl, fun W _ => by go_simp⟩) ?_
  try simp only [Act.put, List.setIfInBounds_toArray, List.set_cons_zero, List.set_cons_succ]
  have hq := H2.out.2
  have zq := lt_of_block hq
  have cq := blk_cell hq
  have fq := blk_frozen hq
  refine wpAnyN_one (i := 17) (by kernel_rfl) rfl (fun K hK => ?_)
  go_simp
  refine hK.out _ _ (fun h _ => (h (by simp)).elim) ?_
  clear hK K
  try simp only [Act.put, List.setIfInBounds_toArray, List.set_cons_zero, List.set_cons_succ]
  refine wpAnyN_done (by kernel_rfl) ?_ _
  refine NoPanic.normal ?_
  have hz := (hq.set0 (lowOf u l x)).set1 (highOf u l x)
  have cz := blk_cell hz
  have fz := blk_frozen hz
  have zz := lt_of_block hz
  have BZ : Below w.heap.size w ((w2.setCell ⟨w.heap.size + 1, 0, none⟩ (.int .i64 (lowOf u l x))).setCell ⟨w.heap.size + 1, 1, none⟩ (.int .i64 (highOf u l x))) := (HB2.out.setCell (p := ⟨w.heap.size + 1, 0, none⟩) (by simp) _).setCell (p := ⟨w.heap.size + 1, 1, none⟩) (by simp) _
  generalize (w2.setCell ⟨w.heap.size + 1, 0, none⟩ (.int .i64 (lowOf u l x))).setCell ⟨w.heap.size + 1, 1, none⟩ (.int .i64 (highOf u l x)) = w3 at hz cz fz zz BZ ⊢
  clear hz hq cq fq zq
  go_wp2_with fail
  exact bodyPost_ret (v := .agg #[.int .i64 (lowOf u l x), .int .i64 (highOf u l x)]) (by simp only [results, Tryz.results154]; go_simp) rfl ⟨rfl, BZ⟩
end Go.Proofs.YtpngailmhdiiiaaGreat
