/-
  Texts of this proof, one behind the other: Bound2, BoundRef, BinsOfP, Alive19, OpenInts, BinsBarsW, Ref19, BinsOfW, Plus, Mean, Worst, Worst2, Order, WorstRef, Alive20, BoundWorstW.
-/
import Derived.Deep.DeepCutAuto
import Derived.Deep.RegionWith
import Derived.Laws.Externs
import Derived.Test.YtbmmkhbdcaokkaaGreatP3
import Derived.Test.YtbmmkhbdcaokkaaGreatP4
/- Package bound: Greatest, Spread. -/
set_option linter.unusedSimpArgs false namespace Go.Proofs.YtbmmkhbdcaokkaaGreat
open Go.ChangeShapes Go.WideShapes Go.ChangeAt Go.RowKit
set_option linter.unusedVariables false
set_option maxRecDepth 100000

/-- The greatest first, and the greatest last value of nodes. -/
def mostStep (l : Int) (a : Int × Int) (x : Nd) : Int × Int := (max a.1 (endsOf l x.1).1, max a.2 (endsOf l x.1).2.1)
def mostOf (l : Int) (r : List Nd) : Int × Int := r.foldl (mostStep l) (0, 0)
theorem mostOf_succ {l : Int} {r : List Nd} {q : Nat} (h : q < r.length) : mostOf l (r.take (q + 1)) = mostStep l (mostOf l (r.take q)) r[q] := by
  unfold mostOf
  rw [List.take_succ_eq_append_getElem h, List.foldl_append]; rfl
theorem bound_Greatest1 (w : World) (lo hi n x y : Int) (b : Nat) (h : bothAt w b x y) :
    Calls Tryz.prog 154 #[.int .i64 lo, .int .i64 hi, .int .i64 n, .pointer (some ⟨b, 0, none⟩)] w fun e w' => e = .returned (.tuple #[]) ∧ w' = (w.setCell ⟨b, 0, none⟩ (.int .i64 (max x lo))).setCell ⟨b, 1, none⟩ (.int .i64 (max y hi)) := by
  have cc := blk_cell h
  have cf := blk_frozen h
  have zb := lt_of_block h
  clear h
  go_enter Tryz.func154, Tryz.ntmps154
  go_wp2_with fail
  go_end0
  exact ⟨rfl, rfl⟩
def mostT (l : Int) (r : List Nd) : Int × Int × Int := if sumR r = 0 then (0, 0, 7) else ((mostOf l r).1, (mostOf l r).2, 0)
theorem enters_Greatest : ∀ args W, (callFunc 154 args).run Tryz.prog W = .ok (.enter 154 args) W := enters_of Tryz.func154 (by kernel_rfl) rfl
theorem bound_Greatest (w : World) (g K l : Nat) (k : Int) (r : List Nd) (F : Nat → Prop) (h : DigAt w g K l k r F) (hn : r.length ≤ 67108864) :
    Calls Tryz.prog 86 #[.pointer (some ⟨g, 0, none⟩)] w fun e w' => e = .returned (bothV (mostT l r)) ∧ Below w.heap.size w w' := by
  have HD := Lib.hid (h.alloc (.cells #[.int .i64 0, .int .i64 0] 29))
  have HW := Lib.hid (bound_wrong · g K l k r F ·)
  clear h
  unfold bothV mostT
  unfold wrongOf at HW
  by_cases hN : sumR r = 0
  · rw [if_pos hN]
    rw [if_pos hN] at HW
    clear hN
    go_enter Tryz.func86, Tryz.ntmps86
    go_wp2_with fail
    refine (HW.out _ HD.out).mono ?_
    rintro e w1 ⟨rfl, hb1⟩
    have B1 : Below w.heap.size w w1 := Below.then_ (by repeat (first | with_reducible exact Below.refl _ _ | with_reducible assumption | ((with_reducible refine Below.setCell ?_ ?_ _); rotate_left; · (first | omega | exact Nat.le_refl _ | (simp <;> omega))) | (with_reducible refine Below.allocW ?_ _) | (with_reducible refine Below.drew ?_) | (with_reducible refine Below.extW ?_ _))) hb1
    have s1 : w.heap.size ≤ w1.heap.size := B1.size
    have z1_0 : w.heap.size < w1.heap.size := by have := hb1.size; (try simp at this); omega
    have y1_0 : w.heap.size ≤ w1.heap.size := Nat.le_of_lt z1_0
    have c1_0 := fun o => hb1.cell (p := ⟨w.heap.size, o, none⟩) (by first | omega | (simp <;> omega))
    have f1_0 := fun o => hb1.frozen (p := ⟨w.heap.size, o, none⟩) (by first | omega | (simp <;> omega))
    go_wp2_with fail
    exact bodyPost_ret (v := .tuple #[.agg #[.int .i64 0, .int .i64 0], .int .i64 7]) (by simp only [results, Tryz.results86]; go_simp) rfl ⟨rfl, (by repeat (first | with_reducible exact Below.refl _ _ | with_reducible assumption | ((with_reducible refine Below.setCell ?_ ?_ _); rotate_left; · (first | omega | exact Nat.le_refl _ | (simp <;> omega))) | (with_reducible refine Below.allocW ?_ _) | (with_reducible refine Below.drew ?_) | (with_reducible refine Below.extW ?_ _)))⟩
  · rw [if_neg hN]
    rw [if_neg hN] at HW
    clear hN
    have N0 := Lib.hid (bothAt.new w 0 0)
    go_enter Tryz.func86, Tryz.ntmps86
    go_wp2_with fail
    refine (HW.out _ HD.out).mono ?_
    rintro e w1 ⟨rfl, hb1⟩
    have B1 : Below w.heap.size w w1 := Below.then_ (by repeat (first | with_reducible exact Below.refl _ _ | with_reducible assumption | ((with_reducible refine Below.setCell ?_ ?_ _); rotate_left; · (first | omega | exact Nat.le_refl _ | (simp <;> omega))) | (with_reducible refine Below.allocW ?_ _) | (with_reducible refine Below.drew ?_) | (with_reducible refine Below.extW ?_ _))) hb1
    have s1 : w.heap.size ≤ w1.heap.size := B1.size
    have z1_0 : w.heap.size < w1.heap.size := by have := hb1.size; (try simp at this); omega
    have y1_0 : w.heap.size ≤ w1.heap.size := Nat.le_of_lt z1_0
    have c1_0 := fun o => hb1.cell (p := ⟨w.heap.size, o, none⟩) (by first | omega | (simp <;> omega))
    have f1_0 := fun o => hb1.frozen (p := ⟨w.heap.size, o, none⟩) (by first | omega | (simp <;> omega))
    have n0 := Lib.hid ((N0.out.below hb1).alloc (.cells #[.int .i64 0, .int .i64 0] 29))
    have n1 := Lib.hid (bothAt.new w1 0 0)
    have HD1 := Lib.hid ((HD.out.below hb1).alloc (.cells #[.int .i64 0, .int .i64 0] 29))
    have BA : Hid (Below w.heap.size w (w1.alloc (.cells #[.int .i64 0, .int .i64 0] 29))) := Lib.hid (by repeat (first | with_reducible exact Below.refl _ _ | with_reducible assumption | ((with_reducible refine Below.setCell ?_ ?_ _); rotate_left; · (first | omega | exact Nat.le_refl _ | (simp <;> omega))) | (with_reducible refine Below.allocW ?_ _) | (with_reducible refine Below.drew ?_) | (with_reducible refine Below.extW ?_ _)))
    go_wp2_with fail
    refine (bound_each _ g K l k r F HD1.out hn 154 #[.pointer (some ⟨w1.heap.size, 0, none⟩)] enters_Greatest (BoundI w w.heap.size w1.heap.size (fun q => mostOf l (r.take q))) (boundI_stays _ _ _ _) ⟨BA.out, n0.out, n1.out⟩ ?_).mono ?_
    · intro q hq W ⟨i1, i2, i3⟩
      refine (bound_Greatest1 W _ _ _ _ _ _ i3).mono ?_
      rintro e W' ⟨rfl, rfl⟩
      refine ⟨rfl, ⟨Below.set_at (Below.set_at i1 (by omega)) (by omega), (i2.set (by omega) _).set (by omega) _, ?_⟩, keepN_t (KeepN.set i3 _) (KeepN.set (i3.set0 _) _)⟩
      simp only
      rw [mostOf_succ hq]
      exact (i3.set0 _).set1 _
    · rintro e w2 ⟨rfl, ⟨i1, i2, i3⟩, hs2⟩
      simp only [List.take_length] at i3
      have cc := blk_cell i3
      have cf := blk_frozen i2
      have c0 := blk_cell i2
      have z0 := lt_of_block i2
      have z1 := lt_of_block i3
      clear i2 i3
      go_wp2_with fail
      exact bodyPost_ret (v := .tuple #[.agg #[.int .i64 (mostOf l r).1, .int .i64 (mostOf l r).2], .int .i64 0]) (by simp only [results, Tryz.results86]; go_simp) rfl ⟨rfl, (by repeat (first | with_reducible exact Below.refl _ _ | with_reducible assumption | ((with_reducible refine Below.setCell ?_ ?_ _); rotate_left; · (first | omega | exact Nat.le_refl _ | (simp <;> omega))) | (with_reducible refine Below.allocW ?_ _) | (with_reducible refine Below.drew ?_) | (with_reducible refine Below.extW ?_ _)))⟩
end Go.Proofs.YtbmmkhbdcaokkaaGreat
/- The reference of layer 20 (bound): Ends. -/
namespace Go.Proofs.YtbmmkhbdcaokkaaGreat
open Go.ChangeShapes Go.WideShapes Go.ChangeAt Go.RowKit
set_option linter.unusedVariables false
set_option maxRecDepth 100000

theorem lt_or_dec (a b : Int) : a < b ∨ decide (a < b) = false := by
  by_cases h : a < b
  · exact .inl h
  · exact .inr (decide_eq_false h)
/-- The four ends, as the document finds them. -/
structure E4 where
  a : Int
  b : Int
  c : Int
  d : Int
def e4Step (l : Int) (e : E4) (x : Nd) : E4 := ⟨if (endsOf l x.1).1 < e.a then (endsOf l x.1).1 else e.a, if (endsOf l x.1).2.1 < e.b then (endsOf l x.1).2.1 else e.b, if e.c < (endsOf l x.1).1 then (endsOf l x.1).1 else e.c, if e.d < (endsOf l x.1).2.1 then (endsOf l x.1).2.1 else e.d⟩
def e4Of (l : Int) (r : List Nd) : E4 := r.foldl (e4Step l) ⟨281474976710656, 281474976710656, -1, -1⟩
theorem e4Of_succ {l : Int} {r : List Nd} {q : Nat} (h : q < r.length) : e4Of l (r.take (q + 1)) = e4Step l (e4Of l (r.take q)) r[q] := by
  unfold e4Of
  rw [List.take_succ_eq_append_getElem h, List.foldl_append]; rfl
theorem blk_set {w : World} {b q o : Nat} {u : Value} {ob : Obj} (h : w.heap[b]? = some ob) (hne : b ≠ q) : (w.setCell ⟨q, o, none⟩ u).heap[b]? = some ob := (Below.heap_setCell _ _ _ _ hne).trans h

end Go.Proofs.YtbmmkhbdcaokkaaGreat
/- Package bins: Of. -/
namespace Go.Proofs.YtbmmkhbdcaokkaaGreat
open Go.ChangeShapes Go.WideShapes Go.ChangeAt Go.RowKit
set_option linter.unusedVariables false
set_option maxRecDepth 100000
attribute [local go_sem] Oper.semAt_some

/-- What Of tells. -/
def ofBins (l : Nat) (r : List Nd) (es : List Int) : List Int := if binErr l es = 0 then binsL l r es else []
def BinsPost (l : Nat) (r : List Nd) (es : List Int) (w : World) (e : Ending) (w' : World) : Prop := ∃ v, e = .returned (.tuple #[v, .int .i64 (binErr l es)]) ∧ Own w' w.heap.size 3 encZ v (ofBins l r es) ∧ Below w.heap.size w w'
theorem bins_Of_nil (w : World) (v : Value) : Calls Tryz.prog 26 #[.pointer none, v] w fun e w' => e = .returned (.tuple #[.slice none 0 0, .int .i64 1]) ∧ Below w.heap.size w w' := by
  refine (callsIn_wide (n := 3)).1 ?_
  refine callsIn_of_wp_marks Tryz.func26 rfl trivial ?_ rfl
  simp only [Tryz.ntmps26, List.size_toArray, List.length_cons, List.length_nil, Nat.reduceAdd, Nat.reduceSub, Array.replicate_succ, Array.replicate_zero, List.push_toArray, List.append_toArray, List.nil_append, List.cons_append]
  gi_wp2_with fail
  refine ⟨trivial, ?_⟩
  refine (callsIn_wide.2 (bins_wrong_nil _ v)).mono ?_
  rintro e w1 ⟨rfl, hb1⟩
  gi_wp2_with fail
  exact ⟨.tuple #[.slice none 0 0, .int .i64 1], by simp [results, Tryz.f26, go_sem], rfl, hb1⟩
theorem rightE_all {l : Nat} (es : List Int) : ∀ p, rightE l p es = true → ∀ x ∈ es, 0 ≤ x ∧ x < 2 ^ l := by
  induction es with
  | nil => intro p _ x hx; simp at hx
  | cons y es ih =>
    intro p h x hx
    simp only [rightE, Bool.and_eq_true, decide_eq_true_eq] at h
    rcases List.mem_cons.1 hx with rfl | hx
    · exact h.1.1
    · exact ih y h.2 x hx
/-- The state behind some runs. -/
structure OfI (w : World) (l : Nat) (r : List Nd) (L B g bt bo ba z : Nat) (lt ft : List Nd) (pre : List (Int × Int)) (W : World) : Prop where
  t : W.heap[bt]? = some (.cells #[.pointer (some ⟨g, 0, none⟩)] 126 (0, 0))
  o : ∃ v, W.heap[bo]? = some (.cells #[v] 27 (0, 0)) ∧ Own W z 3 encZ v (binFold l r pre).1
  a : W.heap[ba]? = some (.cells #[.int .i64 (binFold l r pre).2] 3 (0, 0))
  tab : TabAt W L B g (sumR r) lt ft
  sz : z ≤ W.heap.size
theorem tab_grown {A B : World} {L B0 g : Nat} {n : Int} {lt ft : List Nd} {row : Option Nat} (h : TabAt A L B0 g n lt ft) (hg : A.grownBy B row) (hr : ∀ r, row = some r → ∃ o : Obj, A.heap[r]? = some o ∧ o.isCells = false) : TabAt B L B0 g n lt ft := by
  obtain ⟨h0, h0', A1, c1, A2, c2, A3, c3, A4, c4, h1, ⟨h2, h3, h4, h5⟩, h6⟩ := h
  exact ⟨h0, h0', A1, c1, A2, c2, A3, c3, A4, c4, row_grown h1 hg hr, ⟨own_grown h2 hg hr, own_grown h3 hg hr, own_grown h4 hg hr, own_grown h5 hg hr⟩, h6⟩
theorem binFold_range2 (l : Int) (r : List Nd) (hr : Roll r) (ps : List (Int × Int)) : 0 ≤ (binFold l r ps).2 ∧ (binFold l r ps).2 ≤ sumR r := by
  have h0 := sumR_nonneg hr
  rcases List.eq_nil_or_concat ps with rfl | ⟨qs, p, rfl⟩
  · simp only [binFold, List.foldl_nil]; omega
  · rw [List.concat_eq_append, binFold_snoc]
    exact weighR_le hr
set_option maxHeartbeats 1000000 in
theorem bins_Of (w : World) (g K l : Nat) (k : Int) (r : List Nd) (F : Nat → Prop) (A : Option Addr) (cap : Nat) (es : List Int) (h : DigAt w g K l k r F) (hn : r.length ≤ 67108864) (hS : Sl w w.heap.size encZ A es) (hm : es.length ≤ 67108864) (hr : rightOf l r = true) :
    Calls Tryz.prog 26 #[.pointer (some ⟨g, 0, none⟩), .slice A es.length cap] w (BinsPost l r es w) := by
  have hl := h.l_le
  have hfit := h.fits
  have HD := Lib.hid h
  have HS := Lib.hid hS
  have HW := Lib.hid (bins_wrong · g K l k r F A cap es · · hm)
  clear h hS
  refine (callsIn_wide (n := 3)).1 ?_
  refine callsIn_of_wp_marks Tryz.func26 rfl trivial ?_ rfl
  simp only [Tryz.ntmps26, List.size_toArray, List.length_cons, List.length_nil, Nat.reduceAdd, Nat.reduceSub, Array.replicate_succ, Array.replicate_zero, List.push_toArray, List.append_toArray, List.nil_append, List.cons_append]
  gi_wp2_with fail
  refine ⟨trivial, ?_⟩
  refine (callsIn_wide.2 (HW.out _ HD.out HS.out)).mono ?_
  rintro e w1 ⟨rfl, hb1⟩
  have B1 : Below w.heap.size w w1 := Below.then_ (by repeat (first | with_reducible exact Below.refl _ _ | with_reducible assumption | ((with_reducible refine Below.setCell ?_ ?_ _); rotate_left; · (first | omega | exact Nat.le_refl _ | (simp <;> omega))) | (with_reducible refine Below.allocW ?_ _) | (with_reducible refine Below.drew ?_) | (with_reducible refine Below.extW ?_ _))) hb1
  have s1 : w.heap.size ≤ w1.heap.size := B1.size
  by_cases hE : binErr l es = 0
  · have HE := Lib.hid hE
    rw [hE]
    have hre : rightE l (-1) es = true := by unfold binErr at hE; split at hE <;> simp_all
    have hall := rightE_all es _ hre
    have p48 := pow_48 hl.2
    have D1 := Lib.hid (HD.out.below hb1)
    have S1 := Lib.hid (HS.out.keep s1 fun p hp => B1.cell hp)
    clear hE hre
    gi_wp2_with fail
    refine ⟨trivial, ?_⟩
    refine (callsIn_wide.2 (rank_Of _ g K l k r F D1.out hn)).mono ?_
    rintro e w2 ⟨tg, lt, ft, rfl, htab, htl, htf, hl1, hl2, hb2⟩
    have B2 : Below w.heap.size w w2 := Below.then_ (by repeat (first | with_reducible exact Below.refl _ _ | with_reducible assumption | ((with_reducible refine Below.setCell ?_ ?_ _); rotate_left; · (first | omega | exact Nat.le_refl _ | (simp <;> omega))) | (with_reducible refine Below.allocW ?_ _) | (with_reducible refine Below.drew ?_) | (with_reducible refine Below.extW ?_ _))) hb2
    have s2 : w.heap.size ≤ w2.heap.size := B2.size
    have D2 := Lib.hid ((((D1.out.below hb2).alloc (.cells #[.pointer (some ⟨tg, 0, none⟩)] 126)).alloc (.cells #[.slice none 0 0] 27)).alloc (.cells #[.int .i64 0] 3))
    gi_wp2_with fail
    refine ⟨trivial, ?_⟩
    refine (callsIn_wide.2 (digest_Conf _ g K l k r F D2.out)).mono ?_
    rintro e w3 ⟨rfl, hb3⟩
    have B3 : Below w.heap.size w w3 := Below.then_ (by repeat (first | with_reducible exact Below.refl _ _ | with_reducible assumption | ((with_reducible refine Below.setCell ?_ ?_ _); rotate_left; · (first | omega | exact Nat.le_refl _ | (simp <;> omega))) | (with_reducible refine Below.allocW ?_ _) | (with_reducible refine Below.drew ?_) | (with_reducible refine Below.extW ?_ _))) hb3
    have s3 : w.heap.size ≤ w3.heap.size := B3.size
    have z3_0 : w2.heap.size < w3.heap.size := by have := hb3.size; (try simp at this); omega
    have y3_0 : w2.heap.size ≤ w3.heap.size := Nat.le_of_lt z3_0
    have c3_0 := fun o => hb3.cell (p := ⟨w2.heap.size, o, none⟩) (by first | omega | (simp <;> omega))
    have f3_0 := fun o => hb3.frozen (p := ⟨w2.heap.size, o, none⟩) (by first | omega | (simp <;> omega))
    have z3_1 : w2.heap.size + 1 < w3.heap.size := by have := hb3.size; (try simp at this); omega
    have y3_1 : w2.heap.size + 1 ≤ w3.heap.size := Nat.le_of_lt z3_1
    have c3_1 := fun o => hb3.cell (p := ⟨w2.heap.size + 1, o, none⟩) (by first | omega | (simp <;> omega))
    have f3_1 := fun o => hb3.frozen (p := ⟨w2.heap.size + 1, o, none⟩) (by first | omega | (simp <;> omega))
    have z3_2 : w2.heap.size + 1 + 1 < w3.heap.size := by have := hb3.size; (try simp at this); omega
    have y3_2 : w2.heap.size + 1 + 1 ≤ w3.heap.size := Nat.le_of_lt z3_2
    have c3_2 := fun o => hb3.cell (p := ⟨w2.heap.size + 1 + 1, o, none⟩) (by first | omega | (simp <;> omega))
    have f3_2 := fun o => hb3.frozen (p := ⟨w2.heap.size + 1 + 1, o, none⟩) (by first | omega | (simp <;> omega))
    gi_wp2_with fail
    refine ⟨trivial, ?_⟩
    refine (callsIn_wide.2 (bins_runs _ l A es.length cap)).mono ?_
    rintro e w4 ⟨rfl, rfl⟩
    gi_wp2_with fail
    have T2 := Lib.hid htab
    have zz : w2.heap.size + 1 + 1 < w3.heap.size := z3_2
    have hne1 : w2.heap.size + 1 ≠ w2.heap.size + 1 + 1 := by omega
    have kt := blk_below (show (((w2.alloc (.cells #[.pointer (some ⟨tg, 0, none⟩)] 126)).alloc (.cells #[.slice none 0 0] 27)).alloc (.cells #[.int .i64 0] 3)).heap[w2.heap.size]? = _ from (Below.heap_alloc _ _ _ (by simp; omega)).trans ((Below.heap_alloc _ _ _ (by simp)).trans (heap_alloc_new w2 _))) hb3
    have ko := blk_below (show (((w2.alloc (.cells #[.pointer (some ⟨tg, 0, none⟩)] 126)).alloc (.cells #[.slice none 0 0] 27)).alloc (.cells #[.int .i64 0] 3)).heap[w2.heap.size + 1]? = _ from (Below.heap_alloc _ _ _ (by simp)).trans (heap_new_at (w2.alloc (.cells #[.pointer (some ⟨tg, 0, none⟩)] 126)) (.cells #[.slice none 0 0] 27) _ (by simp))) hb3
    have ka := blk_below (heap_new_at ((w2.alloc (.cells #[.pointer (some ⟨tg, 0, none⟩)] 126)).alloc (.cells #[.slice none 0 0] 27)) (.cells #[.int .i64 0] 3) (w2.heap.size + 1 + 1) (by simp)) hb3
    have T3 := (T2.out.below (((((Below.refl w2.heap.size w2).alloc (Nat.le_refl _) (.cells #[.pointer (some ⟨tg, 0, none⟩)] 126)).alloc (by simp) (.cells #[.slice none 0 0] 27)).alloc (by simp; omega) (.cells #[.int .i64 0] 3)).trans (hb3.mono (by simp; omega))))
    have BA : Below w3.heap.size w3 ((w3.alloc (.cells #[.int .i64 l] 3)).alloc (.cells #[.slice A es.length cap] 27)) := ((Below.refl _ _).alloc (Nat.le_refl _) _).alloc (by simp) _
    have kt0 := Lib.hid (blk_below kt BA)
    have ko0 := Lib.hid (blk_below ko BA)
    have ka0 := Lib.hid (blk_below ka BA)
    have T0 := Lib.hid (T3.below (BA.mono (show w2.heap.size ≤ w3.heap.size by omega)))
    have kbl := Lib.hid (show ((w3.alloc (.cells #[.int .i64 l] 3)).alloc (.cells #[.slice A es.length cap] 27)).heap[w3.heap.size]? = some (.cells #[.int .i64 l] 3 (0, 0)) from (Below.heap_alloc _ _ _ (by simp)).trans (heap_alloc_new w3 _))
    have kbe := Lib.hid (heap_new_at (w3.alloc (.cells #[.int .i64 l] 3)) (.cells #[.slice A es.length cap] 27) (w3.heap.size + 1) (by simp))
    have hB0 : Below w.heap.size w ((w3.alloc (.cells #[.int .i64 l] 3)).alloc (.cells #[.slice A es.length cap] 27)) := B3.trans (BA.mono s3)
    have SX := Lib.hid (SlX.of (z := w3.heap.size + 2) (X := fun b => b = w2.heap.size + 1 ∨ b = w2.heap.size + 1 + 1) (HS.out.keep (Nat.le_refl _) fun p hp => hB0.cell hp) (by omega) (fun b hb => by rintro (rfl | rfl) <;> omega))
    have zW0 : ((w3.alloc (.cells #[.int .i64 l] 3)).alloc (.cells #[.slice A es.length cap] 27)).heap.size = w3.heap.size + 2 := by simp
    generalize (w3.alloc (.cells #[.int .i64 l] 3)).alloc (.cells #[.slice A es.length cap] 27) = W0 at kt0 ko0 ka0 T0 kbl kbe hB0 SX zW0 ⊢
    have HTL := Lib.hid (fun x W (hT : TabAt W w1.heap.size w2.heap.size tg (sumR r) lt ft) => table_Low x hT (by omega) htl.rise)
    have e : ∀ x, upT lt x = lowOf l r x := fun x => by rw [htl.upT, low_up]
    simp only [e] at HTL
    clear kt ko ka T3 BA T2 htab htl htf hl1 hl2 e hb1 hb2 hb3 D1 D2 S1 HD HS HW B1 B2 B3 z3_0 y3_0 c3_0 f3_0 z3_1 y3_1 c3_1 f3_1 z3_2 y3_2 c3_2 f3_2
    have hKB := Lib.hid (fun (W : World) (q : Nat) (o o' : Obj) (h : W.heap[q]? = some o) (hc : o.isCells = false) => keepX_b (z := w3.heap.size + 2) (X := fun b => b = w2.heap.size + 1 ∨ b = w2.heap.size + 1 + 1) W q o o' h hc)
    refine wpIn_rangeFunc_ownG rfl (by decide) (gf := 151) (lb := #[.pointer (some ⟨w3.heap.size + 1, 0, none⟩), .pointer (some ⟨w3.heap.size, 0, none⟩)]) rfl trivial (enters_of Tryz.func151 (by kernel_rfl) rfl)
      (runs_stops (3 - 1) (w3.heap.size + 1) w3.heap.size (w3.heap.size + 2) (fun b => b = w2.heap.size + 1 ∨ b = w2.heap.size + 1 + 1) l A cap es W0 (by decide) hl (by omega) kbe.out kbl.out SX.out (by omega) (fun h => by rcases h with h | h <;> omega) (by omega) (fun h => by rcases h with h | h <;> omega) (fun x hx => by have := hall x hx; omega) (fun x hx => (hall x hx).1) hm)
      keepX_t (fun W q o o' _ h hc _ => hKB.out W q o o' h hc) (Below.refl _ _) (fun _ => rfl)
      (fun pre W => OfI w l r w1.heap.size w2.heap.size tg w2.heap.size (w2.heap.size + 1) (w2.heap.size + 1 + 1) (w3.heap.size + 2) lt ft pre W ∧ Below w.heap.size w W)
      (fun _ _ _ => False)
      (OwnFrom.and (Go.Own.from (fun s A B row hs hg hr => ⟨row_grown hs.t hg hr, by obtain ⟨v, h1, h2⟩ := hs.o; exact ⟨v, row_grown h1 hg hr, own_grown h2 hg hr⟩, row_grown hs.a hg hr, tab_grown hs.tab hg hr, Nat.le_trans hs.sz hg.size⟩) _) (ownFrom_below (Nat.le_refl _) (by omega)))
      (fun c => fun _ _ _ _ hs _ _ => hs)
      ⟨⟨kt0.out, ⟨_, ko0.out, Own.nil _ _ _ _⟩, ka0.out, T0.out, by omega⟩, hB0⟩
      (fun x => { tmps := #[.pointer (some ⟨g, 0, none⟩), .slice A es.length cap, undef, undef, .slice none 0 0, .int .i64 0, .int .i64 0, .pointer (some ⟨w2.heap.size, 0, none⟩), .pointer (some ⟨w2.heap.size + 1, 0, none⟩), .pointer (some ⟨w2.heap.size + 1 + 1, 0, none⟩), undef, .int .i64 x.2, undef,
        .pointer (some ⟨g, 0, none⟩), .slice A es.length cap, .int .i64 0, .int .i64 0, .bool false, undef, .pointer (some ⟨g, 0, none⟩), .pointer (some ⟨tg, 0, none⟩), .pointer (some ⟨g, 0, none⟩), .agg #[.int .i64 l, .int .i64 k, .int .i64 K], .int .i64 l, .slice A es.length cap,
        .func (.func 151) #[] #[.pointer (some ⟨w3.heap.size + 1, 0, none⟩), .pointer (some ⟨w3.heap.size, 0, none⟩)], .int .i64 x.1, .int .i64 x.2, undef, undef, undef, undef, undef, undef, undef, undef, undef, undef, undef], defers := [] }) ?assign ?body ?done ?stop
    case assign =>
      intro q x W Kc hK
      gi_wp2
      exact hK
    case body =>
      rintro q pre x W ⟨⟨ht, ⟨v, ho, hown⟩, ha, htb, hsz⟩, hB⟩ hlen
      have KT := Lib.hid ht
      have KO := Lib.hid ho
      have KA := Lib.hid ha
      have KTb := Lib.hid htb
      have KW := Lib.hid hown
      have HB := Lib.hid hB
      have ct := blk_cell ht
      have zt := lt_of_block ht
      have zo := lt_of_block ho
      have za := lt_of_block ha
      have hW0 := (Own.lt hown)
      have b2 := binFold_range2 l r hfit.roll pre
      have b3 := weighR_le (l := l) (f := fun _ hi => decide (hi ≤ x.2)) hfit.roll
      have hs1 := hfit.sum
      have hlenL := binFold_len l r pre
      rw [runsL_len] at hlen
      have HSn := Lib.hid (binFold_snoc l r pre x)
      have HX := Lib.hid (HTL.out x.2)
      unfold lowOf at HX
      unfold binStep lowOf at HSn
      generalize weighR l (fun _ hi => decide (hi ≤ x.2)) r = n at b3 HX HSn
      generalize binFold l r pre = p at KO KA KW HSn hlenL b2 ho ha hown
      obtain ⟨L, a⟩ := p
      simp only at KO KA KW HSn hlenL b2 ho ha hown
      have ca := blk_cell ha
      have fo := blk_frozen ho
      have fa := blk_frozen ha
      clear ht ho ha htb hown hB
      gi_wp2_with fail
      refine ⟨trivial, ?_⟩
      refine (CallsIn.inRound q (callsIn_wide.2 (HX.out _ KTb.out))).mono ?_
      rintro e w5 ⟨rfl, hb5⟩
      have s5 := hb5.size
      have ko5 := blk_below KO.out hb5
      have ka5 := blk_below KA.out hb5
      have co5 := blk_cell ko5
      have ca5 := blk_cell ka5
      have fo5 := blk_frozen ko5
      have fa5 := blk_frozen ka5
      have O5 := Lib.hid (KW.out.below hb5)
      have T5 := Lib.hid (blk_below KT.out hb5)
      have zt5 : w2.heap.size + 1 < w5.heap.size := lt_of_block ko5
      have KO5 := Lib.hid ko5
      have KA5 := Lib.hid ka5
      have KB5 := Lib.hid (KTb.out.keep fun b _ hb => hb5.block b (by have := KTb.out.2.1; omega))
      have zz5 : w3.heap.size + 2 ≤ w5.heap.size := by omega
      clear ct ca fo fa ko5 ka5
      gi_wp2_with ((gi_at_builtin; refine wpListIn_push tyZ rfl _ _ rfl encZ w5 (w3.heap.size + 2) v L rfl O5.out (n - a) (by go_simp) rfl ?c1 ?c2 ?c3 ?c4))
      case c1 => omega
      case c2 => simp only [maxLen]; omega
      case c3 => exact zz5
      case c4 =>
        intro v6 w6 hown6 hgrow6 _ hlies6 hb6 _
        obtain ⟨A6, c6, rfl, _⟩ := hown6.form
        have hrow : ∀ b, b < w3.heap.size + 2 → some b ≠ v.ownBlock := fun b hb h => by have := O5.out.lt b h.symm; omega
        have s6 := hgrow6.size
        have ko6 := (hgrow6.block (w2.heap.size + 1) zt5 (hrow _ (by omega))).trans KO5.out
        have ka6 := (hgrow6.block (w2.heap.size + 1 + 1) (lt_of_block KA5.out) (hrow _ (by omega))).trans KA5.out
        have kt6 := (hgrow6.block w2.heap.size (by omega) (hrow _ (by omega))).trans T5.out
        have KB6 := Lib.hid (KB5.out.keep fun b _ hb => hgrow6.block b (by have := KB5.out.2.1; omega) (hrow _ (by omega)))
        have KK : Hid (KeepX (w3.heap.size + 2) (fun b => b = w2.heap.size + 1 ∨ b = w2.heap.size + 1 + 1) W w6) := Lib.hid ((KeepX.of_below hb5).grown hgrow6 (fun b h => (O5.out.lt b h).1))
        have KF : Hid (KeepsFrom W0.heap.size W w6) := Lib.hid (((KeepsOthers.of_grownBy (grownBy_of_below hb5 none) (fun _ _ h => by cases h)).trans (KeepsOthers.of_grownBy hgrow6 (fun j o h ho => by
          rcases O5.out with ⟨rfl, _⟩ | ⟨g1, o1, c1, u1, rfl, _, hh1, _⟩
          · cases h
          · have : g1 = j := by simpa [Value.ownBlock] using h
            subst this
            rw [hh1] at ho; cases ho; rfl))).from _)
        have BB : Hid (Below w.heap.size w w6) := Lib.hid ((HB.out.trans (hb5.mono HB.out.size)).trans (hb6.mono (by omega)))
        have co6 := blk_cell ko6
        have fo6 := blk_frozen ko6
        have ca6 := blk_cell ka6
        have fa6 := blk_frozen ka6
        have O6 := Lib.hid (show Own w6 (w3.heap.size + 2) 3 encZ (.slice A6 (pre.length + 1) c6) (L ++ [n - a]) by simpa [hlenL] using hown6)
        have KO6 := Lib.hid ko6
        have KA6 := Lib.hid ka6
        have KT6 := Lib.hid kt6
        have zo6 : w2.heap.size + 1 < w6.heap.size := lt_of_block ko6
        have za6 : w2.heap.size + 1 + 1 < w6.heap.size := lt_of_block ka6
        have hne2 : w2.heap.size + 1 + 1 ≠ w2.heap.size + 1 := by omega
        clear hown6 hgrow6 hlies6 hb6 ko6 ka6 kt6 co5 ca5 fo5 fa5 hb5
        gi_wp2_with fail
        refine ⟨(KF.out.trans ((KeepsOthers.setCell _ _ _).from _)).trans ((KeepsOthers.setCell _ _ _).from _), (KK.out.set (.inl (.inl rfl)) _).set (.inl (.inr rfl)) _, ⟨?_, ⟨.slice A6 (pre.length + 1) c6, ?_, ?_⟩, ?_, ?_, ?_⟩, (BB.out.setCell (p := ⟨w2.heap.size + 1, 0, none⟩) (by simp only; omega) _).setCell (p := ⟨w2.heap.size + 1 + 1, 0, none⟩) (by simp only; omega) _⟩
        · exact blk_set (blk_set KT6.out (by omega)) (by omega)
        · exact blk_set (heap_set_at (i := 0) KO6.out _) (by omega)
        · rw [HSn.out]
          exact (O6.out.setCell (p := ⟨w2.heap.size + 1, 0, none⟩) (fun h => by have := O6.out.lt _ h; simp only at this; omega) _).setCell (p := ⟨w2.heap.size + 1 + 1, 0, none⟩) (fun h => by have := O6.out.lt _ h; simp only at this; omega) _
        · rw [HSn.out]
          exact heap_set_at (i := 0) ((Below.heap_setCell _ _ _ _ hne2).trans KA6.out) _
        · exact KB6.out.keep fun b _ hb => (Below.heap_setCell _ _ _ _ (Nat.ne_of_lt (show b < w2.heap.size + 1 + 1 by omega))).trans (Below.heap_setCell _ _ _ _ (Nat.ne_of_lt (show b < w2.heap.size + 1 by omega)))
        · simp [World.setCell]; omega
    case done =>
      rintro D ys W hD hys ⟨⟨ht, ⟨v, ho, hown⟩, ha, htb, hsz⟩, hB⟩ hK
      have hys' : ys = runsL l es := hys
      rw [hys', binFold_runs hr] at hown
      have he2 : ofBins l r es = binsL l r es := by unfold ofBins; rw [if_pos HE.out]
      rw [← he2] at hown
      clear hys hys'
      have co := blk_cell ho
      have zo := lt_of_block ho
      gi_wp2
      refine ⟨by simp, .inl ⟨_, _, rfl, run_takeDeferred hK, ?_⟩⟩
      have hown2 := (own_grown hown (grownBy_putObj' W D (.deferred none)) (fun r e => by cases e; exact ⟨_, hK, rfl⟩)).base_le (b := w.heap.size) (by omega)
      exact ⟨.tuple #[v, .int .i64 0], by simp [results, Tryz.f26, go_sem], v, by rw [HE.out], hown2, hB.trans (belowK_b (w := w) (Nat.le_refl _) W D _ _ (by omega) hK rfl rfl)⟩
    case stop =>
      rintro D c pre W hD hpre h hK
      exact h.elim
  · have HE := Lib.hid (show (binErr l es == 0) = false by simpa using hE)
    have he2 : ofBins l r es = [] := by unfold ofBins; rw [if_neg hE]
    have hne := HE.out
    gi_wp2_with fail
    exact ⟨.tuple #[.slice none 0 0, .int .i64 (binErr l es)], by simp [results, Tryz.f26, go_sem], .slice none 0 0, rfl, by rw [he2]; exact Own.nil _ _ _ _, hb1⟩
end Go.Proofs.YtbmmkhbdcaokkaaGreat
/- Chapter 19's example. -/
namespace Go.Proofs.YtbmmkhbdcaokkaaGreat
open Go.ChangeShapes Go.WideShapes Go.ChangeAt Go.RowKit
set_option linter.unusedVariables false
set_option maxRecDepth 100000

theorem right16_2 : rightOf ((2 : Nat) : Int) nodes16 = true := by decide +kernel
theorem of19 : ofBins 2 nodes16 [0, 2] = [2, 0, 4] := by decide +kernel
theorem err19 : binErr 2 [0, 2] = 0 := by decide +kernel
theorem bars19 : barsL [2, 0, 4] 10 = [5, 0, 10] := by decide +kernel
theorem barsok19 : barsOk [2, 0, 4] 10 = true := by decide +kernel
set_option maxHeartbeats 1000000 in
theorem alive19 (w : World) : Calls Tryz.prog 27 #[] w fun e w' => e = .returned (.bool true) ∧ Below w.heap.size w w' := by
  have HS := Lib.hid (sl_lit w encN nodes16 108 _ rfl)
  have HC := Lib.hid (digest_Load · 2 2 4 (some ⟨w.heap.size, 0, none⟩) 3 nodes16 load16 · nodes16_ints (by decide))
  go_enter Tryz.func27, Tryz.ntmps27
  go_wp2_with fail
  refine (HC.out _ (HS.out.keep (by simp) fun p hp => rfl)).mono ?_
  rintro e w1 ⟨g, F, rfl, hD, _, hb1⟩
  have B1 : Below w.heap.size w w1 := Below.then_ (by repeat (first | with_reducible exact Below.refl _ _ | with_reducible assumption | ((with_reducible refine Below.setCell ?_ ?_ _); rotate_left; · (first | omega | exact Nat.le_refl _ | (simp <;> omega))) | (with_reducible refine Below.allocW ?_ _) | (with_reducible refine Below.drew ?_) | (with_reducible refine Below.extW ?_ _))) hb1
  have s1 : w.heap.size ≤ w1.heap.size := B1.size
  have KD := Lib.hid (hD.alloc (.cells #[.int .i64 0, .int .i64 2] 3))
  have E1 := Lib.hid (sl_lit w1 encZ [0, 2] 3 _ rfl)
  clear hD
  go_wp2_with fail
  refine (bins_Of _ g 2 2 4 nodes16 F (some ⟨w1.heap.size, 0, none⟩) 2 [0, 2] KD.out (by decide) (E1.out.keep (by simp) fun p hp => rfl) (by decide) right16_2).mono ?_
  rintro e w2 ⟨v2, rfl, o2, hb2⟩
  rw [err19, of19] at *
  have B2 : Below w.heap.size w w2 := Below.then_ (by repeat (first | with_reducible exact Below.refl _ _ | with_reducible assumption | ((with_reducible refine Below.setCell ?_ ?_ _); rotate_left; · (first | omega | exact Nat.le_refl _ | (simp <;> omega))) | (with_reducible refine Below.allocW ?_ _) | (with_reducible refine Below.drew ?_) | (with_reducible refine Below.extW ?_ _))) hb2
  have s2 : w.heap.size ≤ w2.heap.size := B2.size
  obtain ⟨A2, c2, rfl, _⟩ := o2.form
  have O2 := Lib.hid o2
  clear o2
  go_wp2_with fail
  refine (bins_Bars _ A2 c2 [2, 0, 4] 10 O2.out.sl (by decide) (by intro x hx; simp only [List.mem_cons, List.not_mem_nil, or_false] at hx; rcases hx with rfl | rfl | rfl <;> (unfold i64; simp)) (by unfold i64; simp)).mono ?_
  rintro e w3 ⟨v3, rfl, o3, hb3⟩
  rw [bars19, barsok19] at *
  have B3 : Below w.heap.size w w3 := Below.then_ (by repeat (first | with_reducible exact Below.refl _ _ | with_reducible assumption | ((with_reducible refine Below.setCell ?_ ?_ _); rotate_left; · (first | omega | exact Nat.le_refl _ | (simp <;> omega))) | (with_reducible refine Below.allocW ?_ _) | (with_reducible refine Below.drew ?_) | (with_reducible refine Below.extW ?_ _))) hb3
  have s3 : w.heap.size ≤ w3.heap.size := B3.size
  obtain ⟨A3, c3, rfl, _⟩ := o3.form
  have O3 := Lib.hid o3
  have O23 := Lib.hid (O2.out.below hb3)
  clear o3
  go_wp2_with fail
  refine (ref5_Same _ A2 (some ⟨w3.heap.size, 0, none⟩) c2 3 [2, 0, 4] (O23.out.alloc _).sl ((sl_lit w3 encZ [2, 0, 4] 3 _ rfl).keep (by simp) fun p hp => rfl) (by decide)).mono ?_
  rintro e w4 ⟨rfl, hb4⟩
  have B4 : Below w.heap.size w w4 := Below.then_ (by repeat (first | with_reducible exact Below.refl _ _ | with_reducible assumption | ((with_reducible refine Below.setCell ?_ ?_ _); rotate_left; · (first | omega | exact Nat.le_refl _ | (simp <;> omega))) | (with_reducible refine Below.allocW ?_ _) | (with_reducible refine Below.drew ?_) | (with_reducible refine Below.extW ?_ _))) hb4
  have s4 : w.heap.size ≤ w4.heap.size := B4.size
  have O34 := Lib.hid ((O3.out.alloc (.cells #[.int .i64 2, .int .i64 0, .int .i64 4] 3)).below hb4)
  go_wp2_with fail
  refine (ref5_Same _ A3 (some ⟨w4.heap.size, 0, none⟩) c3 3 [5, 0, 10] (O34.out.alloc _).sl ((sl_lit w4 encZ [5, 0, 10] 3 _ rfl).keep (by simp) fun p hp => rfl) (by decide)).mono ?_
  rintro e w5 ⟨rfl, hb5⟩
  have B5 : Below w.heap.size w w5 := Below.then_ (by repeat (first | with_reducible exact Below.refl _ _ | with_reducible assumption | ((with_reducible refine Below.setCell ?_ ?_ _); rotate_left; · (first | omega | exact Nat.le_refl _ | (simp <;> omega))) | (with_reducible refine Below.allocW ?_ _) | (with_reducible refine Below.drew ?_) | (with_reducible refine Below.extW ?_ _))) hb5
  have s5 : w.heap.size ≤ w5.heap.size := B5.size
  go_wp2_with fail
  go_ret
  exact ⟨rfl, (by repeat (first | with_reducible exact Below.refl _ _ | with_reducible assumption | ((with_reducible refine Below.setCell ?_ ?_ _); rotate_left; · (first | omega | exact Nat.le_refl _ | (simp <;> omega))) | (with_reducible refine Below.allocW ?_ _) | (with_reducible refine Below.drew ?_) | (with_reducible refine Below.extW ?_ _)))⟩
end Go.Proofs.YtbmmkhbdcaokkaaGreat
/- A list of ints that came in. -/
namespace Go.Proofs.YtbmmkhbdcaokkaaGreat
open Go.ChangeShapes Go.WideShapes Go.ChangeAt Go.RowKit
set_option linter.unusedVariables false
set_option maxRecDepth 100000

/-- A list of ints that came in. -/
theorem open_Ints {H : Type} {enc : TypeId × Value → H} {w : World} {base : Nat} {spare : Nat → Bool} {held : Bool} {r : Reach} {b0 : Nat} {v : Value} {d : DataW H} {p : List MemPlace}
    (hv : Value.okWide Tryz.prog w r b0 27 v) (h : DataW.Trod enc Tryz.prog w base spare held 27 v d p) :
    ∃ (ks : List Int) (A : Option Addr) (cap : Nat), v = .slice A ks.length cap ∧ Sl w w.heap.size encZ A ks ∧ (∀ x ∈ ks, i64 x) ∧ ks.length ≤ maxLen := by
  obtain ⟨A, n, cap, rfl⟩ := okWide_slice Tryz.underlying27 hv
  obtain ⟨fuel, hf⟩ := h
  obtain ⟨l, A', cap', hc, rest⟩ := slice_of_trod encZ i64 Tryz.underlying27 (by kernel_rfl) (by decide) (fun fuel cs x h => by
    obtain ⟨k, e0, _, k0⟩ := DataW.trod_int Tryz.underlying3 h
    exact ⟨k, e0, i64_of_wf k0⟩) hf
  have hc' : Value.slice A n cap = .slice A' l.length cap' := by simpa [Value.cells] using hc
  rw [hc']
  exact ⟨l, A', cap', rfl, rest⟩
end Go.Proofs.YtbmmkhbdcaokkaaGreat
/- Chapter 19: bars: the reference, and the law. -/
namespace Go.Proofs.YtbmmkhbdcaokkaaGreat
open Go.ChangeShapes Go.WideShapes Go.ChangeAt Go.RowKit
set_option linter.unusedVariables false
set_option maxRecDepth 100000

/-- What a bar is in the reference. -/
def barR (l : List Int) (width n : Int) : Int := if 0 < l.getD (heavAt l l.length) 0 ∧ 0 ≤ width then ((n.toNat * width.toNat / (l.getD (heavAt l l.length) 0).toNat : Nat) : Int) else 0
set_option maxHeartbeats 2000000 in
theorem ref19_Bars (w : World) (A : Option Addr) (cap : Nat) (l : List Int) (width : Int) (hS : Sl w w.heap.size encZ A l) (hm : l.length ≤ 67108864) (hi : ∀ x ∈ l, i64 x) (hw : i64 width) :
    Calls Tryz.prog 42 #[.slice A l.length cap, .int .i64 width] w (BarsPost l width w) := by
  have HS := Lib.hid hS
  have HI := Lib.hid hi
  have HH := Lib.hid (ref19_Heaviest · A cap l · hm)
  unfold heavV at HH
  have hal := heavAt_lt l l.length
  have HLE := Lib.hid (heavAt_le l l.length)
  obtain ⟨a, ha⟩ : ∃ a, a = heavAt l l.length := ⟨_, rfl⟩
  have HA := Lib.hid ha
  rw [← ha] at HH HLE hal
  clear hS hi ha
  go_enter Tryz.func42, Tryz.ntmps42
  go_wp2_with fail
  refine (HH.out _ HS.out).mono ?_
  rintro e w1 ⟨rfl, hb1⟩
  have B1 : Below w.heap.size w w1 := Below.then_ (by repeat (first | with_reducible exact Below.refl _ _ | with_reducible assumption | ((with_reducible refine Below.setCell ?_ ?_ _); rotate_left; · (first | omega | exact Nat.le_refl _ | (simp <;> omega))) | (with_reducible refine Below.allocW ?_ _) | (with_reducible refine Below.drew ?_) | (with_reducible refine Below.extW ?_ _))) hb1
  have s1 : w.heap.size ≤ w1.heap.size := B1.size
  go_wp2_with fail
  go_loopw [6, 9] (fun o i wr => ∃ q : Nat, q ≤ l.length ∧ i = .int .i64 q ∧ Own wr w.heap.size 3 encZ o ((l.take q).map (barR l width)) ∧ (∀ x ∈ l.take q, 0 ≤ x) ∧ Below w.heap.size w wr) (fun _ i _ => l.length - (intOf i).toNat)
  case atStart => exact ⟨0, Nat.zero_le _, rfl, Own.nil _ _ _ _, by simp, B1⟩
  case round =>
    obtain ⟨q, hq, rfl, hown, hpos, hB⟩ := hrel
    have HO := Lib.hid hown
    have HP := Lib.hid hpos
    have hsz := hB.size
    clear hown hpos
    by_cases hlt : q < l.length
    · have hs2 := HS.out
      rcases hs2 with h | ⟨b, off, rfl, hb, hc⟩
      · subst h; simp at hlt
      have hal2 : a < l.length := by omega
      have d0 := (hB.cell (p := ⟨b, off + q, none⟩) hb).trans (by have := hc q _ (List.getElem?_eq_getElem hlt) 0 (.int .i64 l[q]) rfl; simpa using this)
      have d1 := (hB.cell (p := ⟨b, off + a, none⟩) hb).trans (by have := hc a _ (List.getElem?_eq_getElem hal2) 0 (.int .i64 l[a]) rfl; simpa using this)
      have lb : b < wr.heap.size := Nat.lt_of_lt_of_le hb hsz
      have hle := HLE.out q hlt
      rw [getDz_at hlt, getDz_at hal2] at hle
      have hxi := HI.out _ (List.getElem_mem hlt)
      have hyi := HI.out _ (List.getElem_mem hal2)
      have et : l.take (q + 1) = l.take q ++ [l[q]] := List.take_succ_eq_append_getElem hlt
      have HBN := Lib.hid (fun h : l[q] < 0 => bars_neg (width := width) hlt h)
      have EB := Lib.hid (show barR l width l[q] = if 0 < l[a] ∧ 0 ≤ width then ((l[q].toNat * width.toNat / l[a].toNat : Nat) : Int) else 0 by unfold barR; rw [← HA.out, getDz_at hal2])
      obtain ⟨x, hx⟩ : ∃ x, x = l[q] := ⟨_, rfl⟩
      obtain ⟨y, hy⟩ : ∃ y, y = l[a] := ⟨_, rfl⟩
      rw [← hx] at d0 hle hxi et HBN EB
      rw [← hy] at d1 hle hyi EB
      have ET := Lib.hid et
      clear hc hx hy et
      by_cases hx0 : x < 0
      · have HB := Lib.hid (HBN.out hx0)
        go_wp2_with fail
        go_ret2
        exact ⟨_, by rw [HB.out]; rfl, bars_no HB.out _ _, hB⟩
      · obtain ⟨n, rfl⟩ := Int.eq_ofNat_of_zero_le (show 0 ≤ x by omega)
        have hxn : decide ((n : Int) < 0) = false := by simp
        by_cases hc : 0 < y ∧ 0 ≤ width
        · obtain ⟨hy0, hw0⟩ := hc
          obtain ⟨m, rfl⟩ := Int.eq_ofNat_of_zero_le (show 0 ≤ y by omega)
          obtain ⟨wd, rfl⟩ := Int.eq_ofNat_of_zero_le hw0
          have HPt := Lib.hid (ref1_Part · n wd m (by have := hw.2; omega) (by omega) (by have := hyi.2; omega) (by omega))
          have hpl := part_le (b := wd) (show n ≤ m by omega) (by omega)
          have EB2 := Lib.hid (show barR l wd n = ((n * wd / m : Nat) : Int) by rw [EB.out, if_pos ⟨hy0, hw0⟩]; rfl)
          have hwd : wd ≤ 9223372036854775807 := by have := hw.2; omega
          generalize n * wd / m = p at HPt hpl EB2
          clear hx0 EB hle hxi hyi hw
          go_wp2_with fail
          refine wp_region_ext (by kernel_rfl) (by kernel_rfl) ?_
          repeat (go_big_quiet_step ((go_at_call 99; exact quiet_ext (HPt.out _))))
          refine wpQuiet_nil ?_
          intro w2 hb2
          replace hb2 := below_of_ext hb2
          have B2 : Below w.heap.size w w2 := Below.then_ (by repeat (first | with_reducible exact Below.refl _ _ | with_reducible assumption | ((with_reducible refine Below.setCell ?_ ?_ _); rotate_left; · (first | omega | exact Nat.le_refl _ | (simp <;> omega))) | (with_reducible refine Below.allocW ?_ _) | (with_reducible refine Below.drew ?_) | (with_reducible refine Below.extW ?_ _))) hb2
          have s2 : w.heap.size ≤ w2.heap.size := B2.size
          have O2 := Lib.hid (HO.out.below hb2)
          have BW2 : Below w.heap.size w w2 := hB.trans (hb2.mono hsz)
          go_wp2_with ((at_builtin; refine wpList_push tyZ rfl _ _ rfl encZ w2 w.heap.size u6 _ rfl O2.out p (by go_simp) rfl ?c1 ?c2 ?c3 ?c4))
          case c1 => simp; omega
          case c2 => simp [maxLen]; omega
          case c3 => exact BW2.size
          case c4 =>
            intro v' w3 hown3 hgrow _ hlies hb3 _
            have e3 : (l.take q).map (barR l wd) ++ [(p : Int)] = (l.take (q + 1)).map (barR l wd) := by rw [ET.out, List.map_append, List.map_singleton, EB2.out]
            have HO3 := Lib.hid (show Own w3 w.heap.size 3 encZ v' ((l.take (q + 1)).map (barR l wd)) by rw [← e3]; simpa using hown3)
            have BW3 := Below.trans BW2 hb3
            clear hown3
            go_wp2_with fail
            go_roundw
            case rel => exact ⟨q + 1, by omega, by go_num, HO3.out, by
              intro z hz
              rw [ET.out] at hz
              rcases List.mem_append.1 hz with hz | hz
              · exact HP.out z hz
              · rw [List.mem_singleton.1 hz]; omega, BW3⟩
            case measure => simp [intOf]; omega
        · have EB2 := Lib.hid (show barR l width n = 0 by rw [EB.out, if_neg hc])
          rcases three (0 < y) (0 ≤ width) with ⟨k1, k2⟩ | ⟨k1, k2⟩ | k1
          · exact absurd ⟨k1, k2⟩ hc
          all_goals (
            clear hc hx0 EB hle hxi hyi
            go_wp2_with ((at_builtin; refine wpList_push tyZ rfl _ _ rfl encZ wr w.heap.size u6 _ rfl HO.out 0 (by go_simp) rfl ?c1 ?c2 ?c3 ?c4))
            case c1 => simp; omega
            case c2 => simp [maxLen]; omega
            case c3 => exact hsz
            case c4 =>
              intro v' w3 hown3 hgrow _ hlies hb3 _
              have e3 : (l.take q).map (barR l width) ++ [(0 : Int)] = (l.take (q + 1)).map (barR l width) := by rw [ET.out, List.map_append, List.map_singleton, EB2.out]
              have HO3 := Lib.hid (show Own w3 w.heap.size 3 encZ v' ((l.take (q + 1)).map (barR l width)) by rw [← e3]; simpa using hown3)
              have BW3 := Below.trans hB hb3
              clear hown3
              go_wp2_with fail
              go_roundw
              case rel => exact ⟨q + 1, by omega, by go_num, HO3.out, by
                intro z hz
                rw [ET.out] at hz
                rcases List.mem_append.1 hz with hz | hz
                · exact HP.out z hz
                · rw [List.mem_singleton.1 hz]; omega, BW3⟩
              case measure => simp [intOf]; omega)
    · obtain rfl : q = l.length := by omega
      by_cases hw0 : width < 0
      · have HB := Lib.hid (show barsOk l width = false by unfold barsOk; simp; omega)
        go_wp2_with fail
        go_ret2
        exact ⟨_, by rw [HB.out]; rfl, bars_no HB.out _ _, hB⟩
      · have hn0 : decide (width < 0) = false := by simpa using hw0
        have HOk := Lib.hid (show barsOk l width = true by
          unfold barsOk
          rw [Bool.and_eq_true]
          refine ⟨by simp; omega, List.all_eq_true.2 fun x hx => ?_⟩
          have := HP.out x (by rw [List.take_length]; exact hx)
          simpa using this)
        have HL := Lib.hid (show barsL l width = (l.take l.length).map (barR l width) by
          unfold barsL; rw [if_pos HOk.out, List.take_length]
          refine List.map_congr_left fun x hx => ?_
          have hx0 := HP.out x (by rw [List.take_length]; exact hx)
          obtain ⟨i, hi, he⟩ := List.mem_iff_getElem.1 hx
          have hle := heavAt_le l l.length i hi
          rw [getDz_at hi, he] at hle
          unfold barV barR
          generalize l.getD (heavAt l l.length) 0 = y at hle
          by_cases hy : 0 < y
          · rw [if_pos ⟨hy, by omega⟩, show max y 1 = y by omega]
          · rw [if_neg (by omega)]
            have : x = 0 := by omega
            subst this
            simp)
        clear hw0
        go_wp2_with fail
        go_ret2
        exact ⟨_, by rw [HOk.out]; rfl, by rw [HL.out]; exact HO.out, hB⟩
set_option maxHeartbeats 1000000 in
theorem law_BinsBars (ks : List Int) (A : Option Addr) (cap : Nat) (width : Int) (w : World) (hS : Sl w w.heap.size encZ A ks) (hi : ∀ x ∈ ks, i64 x) (hm : ks.length ≤ maxLen) (hw0 : (Lit.int .i64 width).wf = true) :
    Calls Tryz.prog 7 #[.slice A ks.length cap, .int .i64 width] w fun e w' => e = .returned (.bool true) ∧ Below w.heap.size w w' := by
  have hw := i64_of_wf hw0
  clear hw0
  unfold maxLen at hm
  by_cases h100 : 100 < ks.length
  · have h1 : (100 : Int) < (ks.length : Int) := by omega
    clear hS hi
    go_enter Tryz.func7, Tryz.ntmps7
    go_wp2_with fail
    refine (alive19 _).mono ?_
    rintro e w1 ⟨rfl, hb1⟩
    have B1 : Below w.heap.size w w1 := Below.then_ (by repeat (first | with_reducible exact Below.refl _ _ | with_reducible assumption | ((with_reducible refine Below.setCell ?_ ?_ _); rotate_left; · (first | omega | exact Nat.le_refl _ | (simp <;> omega))) | (with_reducible refine Below.allocW ?_ _) | (with_reducible refine Below.drew ?_) | (with_reducible refine Below.extW ?_ _))) hb1
    have s1 : w.heap.size ≤ w1.heap.size := B1.size
    go_wp2_with fail
    go_ret
    exact ⟨rfl, (by repeat (first | with_reducible exact Below.refl _ _ | with_reducible assumption | ((with_reducible refine Below.setCell ?_ ?_ _); rotate_left; · (first | omega | exact Nat.le_refl _ | (simp <;> omega))) | (with_reducible refine Below.allocW ?_ _) | (with_reducible refine Below.drew ?_) | (with_reducible refine Below.extW ?_ _)))⟩
  · have h1 : decide ((100 : Int) < (ks.length : Int)) = false := by simp; omega
    have hn : ks.length ≤ 100 := by omega
    have HS := Lib.hid hS
    have H1 := Lib.hid (bins_Heaviest · A cap ks · (by omega))
    have H2 := Lib.hid (ref19_Heaviest · A cap ks · (by omega))
    have H3 := Lib.hid (bins_Bars · A cap ks width · (by omega) hi hw)
    have H4 := Lib.hid (ref19_Bars · A cap ks width · (by omega) hi hw)
    have hbl : (barsL ks width).length ≤ 100 := by unfold barsL; split <;> simp; omega
    unfold heavV at H1 H2
    clear hS hi h100
    go_enter Tryz.func7, Tryz.ntmps7
    go_wp2_with fail
    refine (H1.out _ HS.out).mono ?_
    rintro e w1 ⟨rfl, hb1⟩
    have S1 := Lib.hid (HS.out.keep hb1.size fun p hp => hb1.cell hp)
    have B1 : Below w.heap.size w w1 := Below.then_ (by repeat (first | with_reducible exact Below.refl _ _ | with_reducible assumption | ((with_reducible refine Below.setCell ?_ ?_ _); rotate_left; · (first | omega | exact Nat.le_refl _ | (simp <;> omega))) | (with_reducible refine Below.allocW ?_ _) | (with_reducible refine Below.drew ?_) | (with_reducible refine Below.extW ?_ _))) hb1
    have s1 : w.heap.size ≤ w1.heap.size := B1.size
    clear HS
    go_wp2_with fail
    refine (H2.out _ S1.out).mono ?_
    rintro e w2 ⟨rfl, hb2⟩
    have B2 : Below w.heap.size w w2 := Below.then_ (by repeat (first | with_reducible exact Below.refl _ _ | with_reducible assumption | ((with_reducible refine Below.setCell ?_ ?_ _); rotate_left; · (first | omega | exact Nat.le_refl _ | (simp <;> omega))) | (with_reducible refine Below.allocW ?_ _) | (with_reducible refine Below.drew ?_) | (with_reducible refine Below.extW ?_ _))) hb2
    have s2 : w.heap.size ≤ w2.heap.size := B2.size
    have S2 := Lib.hid (S1.out.keep hb2.size fun p hp => hb2.cell hp)
    go_wp2_with fail
    refine (H3.out _ S2.out).mono ?_
    rintro e w3 ⟨v3, rfl, o3, hb3⟩
    have B3 : Below w.heap.size w w3 := Below.then_ (by repeat (first | with_reducible exact Below.refl _ _ | with_reducible assumption | ((with_reducible refine Below.setCell ?_ ?_ _); rotate_left; · (first | omega | exact Nat.le_refl _ | (simp <;> omega))) | (with_reducible refine Below.allocW ?_ _) | (with_reducible refine Below.drew ?_) | (with_reducible refine Below.extW ?_ _))) hb3
    have s3 : w.heap.size ≤ w3.heap.size := B3.size
    have S3 := Lib.hid (S2.out.keep hb3.size fun p hp => hb3.cell hp)
    have O3 := Lib.hid o3
    clear o3
    go_wp2_with fail
    refine (H4.out _ S3.out).mono ?_
    rintro e w4 ⟨v4, rfl, o4, hb4⟩
    have B4 : Below w.heap.size w w4 := Below.then_ (by repeat (first | with_reducible exact Below.refl _ _ | with_reducible assumption | ((with_reducible refine Below.setCell ?_ ?_ _); rotate_left; · (first | omega | exact Nat.le_refl _ | (simp <;> omega))) | (with_reducible refine Below.allocW ?_ _) | (with_reducible refine Below.drew ?_) | (with_reducible refine Below.extW ?_ _))) hb4
    have s4 : w.heap.size ≤ w4.heap.size := B4.size
    obtain ⟨A3, c3, rfl, _⟩ := O3.out.form
    obtain ⟨A4, c4, rfl, _⟩ := o4.form
    have T3 := Lib.hid (O3.out.below hb4).sl
    have T4 := Lib.hid o4.sl
    clear o4 O3
    generalize barsL ks width = bl at hbl T3 T4
    go_wp2_with fail
    refine (ref5_Same _ A3 A4 c3 c4 bl T3.out T4.out (by omega)).mono ?_
    rintro e w5 ⟨rfl, hb5⟩
    have B5 : Below w.heap.size w w5 := Below.then_ (by repeat (first | with_reducible exact Below.refl _ _ | with_reducible assumption | ((with_reducible refine Below.setCell ?_ ?_ _); rotate_left; · (first | omega | exact Nat.le_refl _ | (simp <;> omega))) | (with_reducible refine Below.allocW ?_ _) | (with_reducible refine Below.drew ?_) | (with_reducible refine Below.extW ?_ _))) hb5
    have s5 : w.heap.size ≤ w5.heap.size := B5.size
    go_wp2_with fail
    refine (alive19 _).mono ?_
    rintro e w6 ⟨rfl, hb6⟩
    have B6 : Below w.heap.size w w6 := Below.then_ (by repeat (first | with_reducible exact Below.refl _ _ | with_reducible assumption | ((with_reducible refine Below.setCell ?_ ?_ _); rotate_left; · (first | omega | exact Nat.le_refl _ | (simp <;> omega))) | (with_reducible refine Below.allocW ?_ _) | (with_reducible refine Below.drew ?_) | (with_reducible refine Below.extW ?_ _))) hb6
    have s6 : w.heap.size ≤ w6.heap.size := B6.size
    go_wp2_with fail
    go_ret
    exact ⟨rfl, B6⟩
end Go.Proofs.YtbmmkhbdcaokkaaGreat
/- The reference of layer 19 (bins): low, Of. -/
namespace Go.Proofs.YtbmmkhbdcaokkaaGreat
open Go.ChangeShapes Go.WideShapes Go.ChangeAt Go.RowKit
set_option linter.unusedVariables false
set_option maxRecDepth 100000

theorem lowN_range {l : Int} {r : List Nd} (hr : Roll r) (es : List Int) (q : Nat) : 0 ≤ lowN l r es q ∧ lowN l r es q ≤ sumR r := by
  have h0 := sumR_nonneg hr
  cases q with
  | zero => simp only [lowN]; omega
  | succ q =>
    simp only [lowN]
    split
    · exact weighR_le hr
    · omega
theorem ref19_low (w : World) (k : Int) (l : Nat) (A A2 : Option Addr) (cap cap2 : Nat) (r : List Nd) (es : List Int) (q : Nat) (hS : Sl w w.heap.size encN A r) (hI : ints r) (hm : r.length ≤ 67108864) (hr : Roll r) (hs : sumR r ≤ 72057594037927935) (ht : (totalOf r).1 = sumR r) (hS2 : Sl w w.heap.size encZ A2 es) (hm2 : es.length ≤ 67108864) (hq : q ≤ es.length + 1) :
    Calls Tryz.prog 81 #[.agg #[.int .i64 k, .int .i64 l, .slice A r.length cap], .slice A2 es.length cap2, .int .i64 ((q : Int) - 1)] w fun e w' => e = .returned (.int .i64 (lowN l r es q)) ∧ Below w.heap.size w w' := by
  have hB : Below w.heap.size w (w.alloc (.cells #[.int .i64 k, .int .i64 l, .slice A r.length cap] 37)) := (by repeat (first | with_reducible exact Below.refl _ _ | with_reducible assumption | ((with_reducible refine Below.setCell ?_ ?_ _); rotate_left; · (first | omega | exact Nat.le_refl _ | (simp <;> omega))) | (with_reducible refine Below.allocW ?_ _) | (with_reducible refine Below.drew ?_) | (with_reducible refine Below.extW ?_ _)))
  have S1 := hS.keep (B' := (w.alloc (.cells #[.int .i64 k, .int .i64 l, .slice A r.length cap] 37)).heap.size) hB.size fun p hp => hB.cell hp
  have HS1 := Lib.hid S1
  have hu := maxLen
  cases q with
  | zero =>
    have hn : ((0 : Nat) : Int) - 1 = -1 := rfl
    rw [hn]
    clear hS hI hS2 S1 hB
    go_enter Tryz.func81, Tryz.ntmps81
    go_wp2_with fail
    go_ret
    exact ⟨rfl, (by repeat (first | with_reducible exact Below.refl _ _ | with_reducible assumption | ((with_reducible refine Below.setCell ?_ ?_ _); rotate_left; · (first | omega | exact Nat.le_refl _ | (simp <;> omega))) | (with_reducible refine Below.allocW ?_ _) | (with_reducible refine Below.drew ?_) | (with_reducible refine Below.extW ?_ _)))⟩
  | succ q =>
    have hn : ((q + 1 : Nat) : Int) - 1 = (q : Int) := by omega
    rw [hn]
    by_cases hlt : q < es.length
    · have HL := Lib.hid (fun (x : Int) (W : World) (h : Sl W W.heap.size encN A r) => ref16_Low W l A cap r x h hI hm hr hs)
      have e : lowN l r es (q + 1) = lowOf l r es[q] := by simp only [lowN]; rw [dif_pos hlt]
      rw [e]
      obtain ⟨b, off, rfl, hb, hc⟩ := hS2.at_ hlt
      have d0 : w.cell? ⟨b, off + q, none⟩ = some (.int .i64 es[q]) := by have := hc 0 (.int .i64 es[q]) rfl; simpa using this
      have i0 : ¬ ((q : Int) < 0) := by omega
      obtain ⟨x, hx⟩ : ∃ x, x = es[q] := ⟨_, rfl⟩
      rw [← hx] at d0 ⊢
      have i1 : decide ((es.length : Int) ≤ (q : Int)) = false := by simp; omega
      clear hS hI hS2 S1 hB hc hx e hn
      go_enter Tryz.func81, Tryz.ntmps81
      go_wp2_with fail
      refine wp_region_ext (by kernel_rfl) (by kernel_rfl) ?_
      repeat (go_big_quiet_step ((go_at_call 112; exact quiet_ext (HL.out x _ (HS1.out.keep (ext_below _ _).size fun p hp => (ext_below _ _).cell hp)))))
      refine wpQuiet_nil ?_
      intro w1 hb1
      replace hb1 := below_of_ext hb1
      have B1 : Below w.heap.size w w1 := Below.then_ (by repeat (first | with_reducible exact Below.refl _ _ | with_reducible assumption | ((with_reducible refine Below.setCell ?_ ?_ _); rotate_left; · (first | omega | exact Nat.le_refl _ | (simp <;> omega))) | (with_reducible refine Below.allocW ?_ _) | (with_reducible refine Below.drew ?_) | (with_reducible refine Below.extW ?_ _))) hb1
      have s1 : w.heap.size ≤ w1.heap.size := B1.size
      go_wp2_with fail
      go_ret
      exact ⟨rfl, (by repeat (first | with_reducible exact Below.refl _ _ | with_reducible assumption | ((with_reducible refine Below.setCell ?_ ?_ _); rotate_left; · (first | omega | exact Nat.le_refl _ | (simp <;> omega))) | (with_reducible refine Below.allocW ?_ _) | (with_reducible refine Below.drew ?_) | (with_reducible refine Below.extW ?_ _)))⟩
    · have HW := Lib.hid (ref13_Weight · k l A cap r · hI (by unfold maxLen; omega))
      rw [ht] at HW
      have e : lowN l r es (q + 1) = sumR r := by simp only [lowN]; rw [dif_neg hlt]
      rw [e]
      have i1 : decide ((es.length : Int) ≤ (q : Int)) = true := by simp; omega
      have i0 : ¬ ((q : Int) < 0) := by omega
      clear hS hI hS2 S1 hB e hn
      go_enter Tryz.func81, Tryz.ntmps81
      go_wp2_with fail
      refine (HW.out _ HS1.out).mono ?_
      rintro e w1 ⟨rfl, hb1⟩
      have B1 : Below w.heap.size w w1 := Below.then_ (by repeat (first | with_reducible exact Below.refl _ _ | with_reducible assumption | ((with_reducible refine Below.setCell ?_ ?_ _); rotate_left; · (first | omega | exact Nat.le_refl _ | (simp <;> omega))) | (with_reducible refine Below.allocW ?_ _) | (with_reducible refine Below.drew ?_) | (with_reducible refine Below.extW ?_ _))) hb1
      have s1 : w.heap.size ≤ w1.heap.size := B1.size
      go_wp2_with fail
      go_ret
      exact ⟨rfl, (by repeat (first | with_reducible exact Below.refl _ _ | with_reducible assumption | ((with_reducible refine Below.setCell ?_ ?_ _); rotate_left; · (first | omega | exact Nat.le_refl _ | (simp <;> omega))) | (with_reducible refine Below.allocW ?_ _) | (with_reducible refine Below.drew ?_) | (with_reducible refine Below.extW ?_ _)))⟩
set_option maxHeartbeats 1000000 in
theorem ref19_Of (w : World) (k : Int) (l : Nat) (A A2 : Option Addr) (cap cap2 : Nat) (r : List Nd) (es : List Int) (h1 : 1 ≤ l) (h2 : l ≤ 48) (hS : Sl w w.heap.size encN A r) (hI : ints r) (hm : r.length ≤ 67108864) (hr : Roll r) (hs : sumR r ≤ 72057594037927935) (ht : (totalOf r).1 = sumR r) (hS2 : Sl w w.heap.size encZ A2 es) (hm2 : es.length ≤ 60) :
    Calls Tryz.prog 28 #[.agg #[.int .i64 k, .int .i64 l, .slice A r.length cap], .slice A2 es.length cap2] w (BinsPost l r es w) := by
  have hB : Below w.heap.size w (w.alloc (.cells #[.int .i64 k, .int .i64 l, .slice A r.length cap] 37)) := (by repeat (first | with_reducible exact Below.refl _ _ | with_reducible assumption | ((with_reducible refine Below.setCell ?_ ?_ _); rotate_left; · (first | omega | exact Nat.le_refl _ | (simp <;> omega))) | (with_reducible refine Below.allocW ?_ _) | (with_reducible refine Below.drew ?_) | (with_reducible refine Below.extW ?_ _)))
  have HS := Lib.hid (hS.keep (B' := (w.alloc (.cells #[.int .i64 k, .int .i64 l, .slice A r.length cap] 37)).heap.size) hB.size fun p hp => hB.cell hp)
  have HS2 := Lib.hid (hS2.keep (B' := (w.alloc (.cells #[.int .i64 k, .int .i64 l, .slice A r.length cap] 37)).heap.size) hB.size fun p hp => hB.cell hp)
  have HR := Lib.hid (fun (W : World) (h : Sl W W.heap.size encZ A2 es) => ref19_Right W l A2 cap2 es h1 h2 h (by omega))
  have HL := Lib.hid (fun (q : Nat) (W : World) (h : Sl W W.heap.size encN A r) (h' : Sl W W.heap.size encZ A2 es) (hq : q ≤ es.length + 1) => ref19_low W k l A A2 cap cap2 r es q h hI hm hr hs ht h' (by omega) hq)
  have K0 := Lib.hid (heap_alloc_new w (.cells #[.int .i64 k, .int .i64 l, .slice A r.length cap] 37))
  have HB := Lib.hid hB
  clear hS hI hS2 ht hB
  cases hE : rightE l (-1) es
  · have he : binErr l es = 8 := by unfold binErr; rw [hE]; rfl
    have he2 : ofBins l r es = [] := by unfold ofBins; rw [he]; rfl
    rw [hE] at HR
    unfold BinsPost
    rw [he, he2]
    clear he he2 hE
    go_enter Tryz.func28, Tryz.ntmps28
    go_wp2_with fail
    refine (HR.out _ HS2.out).mono ?_
    rintro e w1 ⟨rfl, hb1⟩
    have B1 : Below w.heap.size w w1 := Below.then_ (by repeat (first | with_reducible exact Below.refl _ _ | with_reducible assumption | ((with_reducible refine Below.setCell ?_ ?_ _); rotate_left; · (first | omega | exact Nat.le_refl _ | (simp <;> omega))) | (with_reducible refine Below.allocW ?_ _) | (with_reducible refine Below.drew ?_) | (with_reducible refine Below.extW ?_ _))) hb1
    have s1 : w.heap.size ≤ w1.heap.size := B1.size
    go_wp2_with fail
    go_ret2
    exact ⟨_, rfl, Own.nil _ _ _ _, (by repeat (first | with_reducible exact Below.refl _ _ | with_reducible assumption | ((with_reducible refine Below.setCell ?_ ?_ _); rotate_left; · (first | omega | exact Nat.le_refl _ | (simp <;> omega))) | (with_reducible refine Below.allocW ?_ _) | (with_reducible refine Below.drew ?_) | (with_reducible refine Below.extW ?_ _)))⟩
  · have he : binErr l es = 0 := by unfold binErr; rw [hE]; rfl
    have he2 : ofBins l r es = binsL l r es := by unfold ofBins; rw [he]; rfl
    rw [hE] at HR
    unfold BinsPost
    rw [he, he2]
    have HU : Hid (binsL l r es = (List.range (es.length + 1)).map (binAt l r es)) := Lib.hid rfl
    clear he he2 hE
    go_enter Tryz.func28, Tryz.ntmps28
    go_wp2_with fail
    refine (HR.out _ HS2.out).mono ?_
    rintro e w1 ⟨rfl, hb1⟩
    have B1 : Below w.heap.size w w1 := Below.then_ (by repeat (first | with_reducible exact Below.refl _ _ | with_reducible assumption | ((with_reducible refine Below.setCell ?_ ?_ _); rotate_left; · (first | omega | exact Nat.le_refl _ | (simp <;> omega))) | (with_reducible refine Below.allocW ?_ _) | (with_reducible refine Below.drew ?_) | (with_reducible refine Below.extW ?_ _))) hb1
    have s1 : w.heap.size ≤ w1.heap.size := B1.size
    have z1_0 : w.heap.size < w1.heap.size := by have := hb1.size; (try simp at this); omega
    have y1_0 : w.heap.size ≤ w1.heap.size := Nat.le_of_lt z1_0
    have c1_0 := fun o => hb1.cell (p := ⟨w.heap.size, o, none⟩) (by first | omega | (simp <;> omega))
    have f1_0 := fun o => hb1.frozen (p := ⟨w.heap.size, o, none⟩) (by first | omega | (simp <;> omega))
    have K1 := Lib.hid (blk_below K0.out hb1)
    go_wp2_with fail
    go_loopw [6, 7] (fun o i wr => ∃ (q : Nat) (L : List Int), q ≤ es.length + 1 ∧ i = .int .i64 q ∧ L = (List.range q).map (binAt l r es) ∧ Own wr w.heap.size 3 encZ o L ∧ wr.heap[w.heap.size]? = some (.cells #[.int .i64 k, .int .i64 l, .slice A r.length cap] 37 (0, 0)) ∧ Below w.heap.size w wr ∧ Below (w.alloc (.cells #[.int .i64 k, .int .i64 l, .slice A r.length cap] 37)).heap.size (w.alloc (.cells #[.int .i64 k, .int .i64 l, .slice A r.length cap] 37)) wr) (fun _ i _ => es.length + 1 - (intOf i).toNat)
    case atStart => exact ⟨0, [], Nat.zero_le _, rfl, rfl, Own.nil _ _ _ _, K1.out, B1, hb1⟩
    case round =>
      obtain ⟨q, L, hq, rfl, hL, hown, hk, hB, hB2⟩ := hrel
      have KO := Lib.hid hown
      have KK := Lib.hid hk
      have HLL := Lib.hid hL
      have KB := Lib.hid hB2
      have hsz := hB.size
      have hll : L.length = q := by rw [hL]; simp
      have HLq := Lib.hid hll
      have ck := blk_cell hk
      have zk := lt_of_block hk
      have T1 := Lib.hid (HS.out.keep (B' := wr.heap.size) hB2.size fun p hp => hB2.cell hp)
      have T2 := Lib.hid (HS2.out.keep (B' := wr.heap.size) hB2.size fun p hp => hB2.cell hp)
      clear hown hk hL hB2 hll
      by_cases hlt : q ≤ es.length
      · have r1 := lowN_range (l := l) hr es q
        have r2 := lowN_range (l := l) hr es (q + 1)
        have H1 := Lib.hid (fun W h h' => HL.out (q + 1) W h h' (by omega))
        have H2 := Lib.hid (fun W h h' => HL.out q W h h' (by omega))
        have hq1 : ((q + 1 : Nat) : Int) - 1 = (q : Int) := by omega
        rw [hq1] at H1
        have EB : Hid (binAt l r es q = lowN l r es (q + 1) - lowN l r es q) := Lib.hid rfl
        generalize lowN l r es q = x at r1 H2 EB
        generalize lowN l r es (q + 1) = y at r2 H1 EB
        clear hq1
        have i1 : decide ((q : Int) ≤ (es.length : Int)) = true := by simp; omega
        obtain ⟨A3, c3, rfl, _⟩ := KO.out.form
        go_wp2_with fail
        refine wp_region_noPanic ?_
        refine wp_region_N (fun W => W.cell? ⟨w.heap.size, 0, none⟩ = some (.int .i64 k) ∧ W.cell? ⟨w.heap.size, 1, none⟩ = some (.int .i64 l) ∧ W.cell? ⟨w.heap.size, 2, none⟩ = some (.slice A r.length cap)) [] (by kernel_rfl) ⟨ck 0, ck 1, ck 2⟩ (fun hHeld => ?_)
        refine wpAnyN_pure (i := 0) (v := .slice A3 L.length c3) rfl (by kernel_rfl) (by kernel_rfl) (by kernel_rfl) (fun _ _ _ h => h) (Or.inl ⟨by rfl, fun W _ => by go_simp⟩) ?_
        try simp only [Act.put, List.setIfInBounds_toArray, List.set_cons_zero, List.set_cons_succ]
        refine wpAnyN_take (i := 1) (v := .agg #[.int .i64 k, .int .i64 l, .slice A r.length cap]) rfl (by kernel_rfl) (by kernel_rfl) (by kernel_rfl) (by kernel_rfl) (fun _ _ _ h => h) (Or.inl ⟨by rfl, fun W hW => by obtain ⟨q1, q2, q3⟩ := hW; go_simp⟩) hHeld ?_
        try simp only [Act.put, List.setIfInBounds_toArray, List.set_cons_zero, List.set_cons_succ]
        refine wpAnyN_pure (i := 2) (v := .slice A2 es.length cap2) rfl (by kernel_rfl) (by kernel_rfl) (by kernel_rfl) (fun _ _ _ h => h) (Or.inl ⟨by rfl, fun W _ => by go_simp⟩) ?_
        try simp only [Act.put, List.setIfInBounds_toArray, List.set_cons_zero, List.set_cons_succ]
        refine wpAnyN_pure (i := 3) (v := .int .i64 q) rfl (by kernel_rfl) (by kernel_rfl) (by kernel_rfl) (fun _ _ _ h => h) (Or.inl ⟨by rfl, fun W _ => by go_simp⟩) ?_
        try simp only [Act.put, List.setIfInBounds_toArray, List.set_cons_zero, List.set_cons_succ]
        refine wpAnyN_take (i := 5) (v := .agg #[.int .i64 k, .int .i64 l, .slice A r.length cap]) rfl (by kernel_rfl) (by kernel_rfl) (by kernel_rfl) (by kernel_rfl) (fun _ _ _ h => h) (Or.inl ⟨by rfl, fun W hW => by obtain ⟨q1, q2, q3⟩ := hW; go_simp⟩) hHeld ?_
        try simp only [Act.put, List.setIfInBounds_toArray, List.set_cons_zero, List.set_cons_succ]
        refine wpAnyN_pure (i := 6) (v := .slice A2 es.length cap2) rfl (by kernel_rfl) (by kernel_rfl) (by kernel_rfl) (fun _ _ _ h => h) (Or.inl ⟨by rfl, fun W _ => by go_simp⟩) ?_
        try simp only [Act.put, List.setIfInBounds_toArray, List.set_cons_zero, List.set_cons_succ]
        refine wpAnyN_pure (i := 7) (v := .int .i64 q) rfl (by kernel_rfl) (by kernel_rfl) (by kernel_rfl) (fun _ _ _ h => h) (Or.inl ⟨by rfl, fun W _ => by go_simp⟩) ?_
        try simp only [Act.put, List.setIfInBounds_toArray, List.set_cons_zero, List.set_cons_succ]
        refine wpAnyN_pure (i := 8) (v := .int .i64 ((q : Int) - 1)) rfl (by kernel_rfl) (by kernel_rfl) (by kernel_rfl) (fun _ _ _ h => h) (Or.inl ⟨by rfl, fun W _ => by go_simp; rw [IntKind.wrap_i64]; omega⟩) ?_
        try simp only [Act.put, List.setIfInBounds_toArray, List.set_cons_zero, List.set_cons_succ]
        refine wpAnyN_one (i := 4) (by kernel_rfl) rfl (fun K hK => ?_)
        go_simp
        refine (H1.out _ T1.out.drew T2.out.drew).mono ?_
        rintro e w2 ⟨rfl, hb2⟩
        have q0 := fun o => hb2.cell (p := ⟨w.heap.size, o, none⟩) zk
        have U1 := Lib.hid (T1.out.drew.keep hb2.size fun p hp => hb2.cell hp)
        have U2 := Lib.hid (T2.out.drew.keep hb2.size fun p hp => hb2.cell hp)
        have O2 := Lib.hid (KO.out.drew.below hb2)
        have KK2 := Lib.hid (blk_below (w := wr.drew) KK.out hb2)
        have KB2 := Lib.hid ((Below.drew KB.out).trans (hb2.mono (Below.drew KB.out).size))
        have B2 : Below w.heap.size w w2 := (Below.drew hB).trans (hb2.mono (Below.drew hB).size)
        have s2 := B2.size
        have zk2 := lt_of_block KK2.out
        have ck2 := blk_cell KK2.out
        refine hK.out _ _ (fun _ _ => ⟨ck2 0, ck2 1, ck2 2⟩) ?_
        clear hK K hHeld
        try simp only [Act.put, List.setIfInBounds_toArray, List.set_cons_zero, List.set_cons_succ]
        refine wpAnyN_one (i := 9) (by kernel_rfl) rfl (fun K hK => ?_)
        go_simp
        refine (H2.out _ U1.out U2.out).mono ?_
        rintro e w4 ⟨rfl, hb4⟩
        have O4 := Lib.hid (O2.out.below hb4)
        have KK4 := Lib.hid (blk_below KK2.out hb4)
        have KB4 := Lib.hid (KB2.out.trans (hb4.mono KB2.out.size))
        have B4 : Below w.heap.size w w4 := B2.trans (hb4.mono s2)
        have s4 := B4.size
        have ck4 := blk_cell KK4.out
        have zk4 := lt_of_block KK4.out
        refine hK.out _ _ (fun _ _ => ⟨ck4 0, ck4 1, ck4 2⟩) ?_
        clear hK K
        try simp only [Act.put, List.setIfInBounds_toArray, List.set_cons_zero, List.set_cons_succ]
        refine wpAnyN_pure (i := 10) (v := .int .i64 (y - x)) rfl (by kernel_rfl) (by kernel_rfl) (by kernel_rfl) (fun _ _ _ h => h) (Or.inl ⟨by rfl, fun W _ => by go_simp; try (rw [IntKind.wrap_i64]; omega)⟩) ?_
        try simp only [Act.put, List.setIfInBounds_toArray, List.set_cons_zero, List.set_cons_succ]
        refine wpAnyN_one (i := 11) (by kernel_rfl) rfl (fun K hK => ?_)
        go_simp
        have ck5 := blk_cell ((Below.heap_alloc w4 (.cells #[.int .i64 (y - x)] 3) w.heap.size zk4).trans KK4.out)
        refine hK.out _ _ (fun _ _ => ⟨ck5 0, ck5 1, ck5 2⟩) ?_
        clear ck5
        clear hK K
        try simp only [Act.put, List.setIfInBounds_toArray, List.set_cons_zero, List.set_cons_succ]
        refine wpAnyN_one (i := 12) (by kernel_rfl) rfl (fun K hK => ?_)
        refine step_app (o := ⟨some 32, _, _, _, _, _⟩) tyZ (by rfl) _ _ (by rfl) encZ w.heap.size (.slice A3 L.length c3) L (by rfl) (O4.out.alloc _) (some ⟨w4.heap.size, 0, none⟩) 1 [y - x] (w4.heap.size + 1) (by rfl) (sl_lit w4 encZ [y - x] 3 _ rfl) (by have := HLq.out; simp; omega) (by have := HLq.out; simp [maxLen]; omega) (by simp; omega) ?_
        intro v' w3 hown3 hgrow hlies hb3 _
        have e9 : some w.heap.size ≠ (Value.slice A3 L.length c3).ownBlock := fun h => by
          rcases O4.out with ⟨h1, _⟩ | ⟨g1, o1, c1, u1, h1, _, hh1, _⟩
          · rw [h1] at h; cases h
          · rw [h1] at h
            have : w.heap.size = g1 := by simpa [Value.ownBlock] using h
            subst this
            have := KK4.out
            rw [hh1] at this
            cases this
        have HO3 := Lib.hid (show Own w3 w.heap.size 3 encZ v' ((List.range (q + 1)).map (binAt l r es)) by rw [map_range_succ, ← HLL.out, EB.out]; exact hown3)
        have k3 := (hgrow.block w.heap.size (by simp; omega) e9).trans ((Below.heap_alloc w4 _ _ zk4).trans KK4.out)
        have KK3 := Lib.hid k3
        have ck3 := blk_cell k3
        have KB3 : Hid (Below (w.alloc (.cells #[.int .i64 k, .int .i64 l, .slice A r.length cap] 37)).heap.size (w.alloc (.cells #[.int .i64 k, .int .i64 l, .slice A r.length cap] 37)) w3) := Lib.hid ((KB4.out.alloc KB4.out.size _).grown hgrow (by have := KB4.out.size; simp only [World.size_alloc] at *; omega) (fun j hj => by
          have h1 := (O4.out.lt j hj).1
          have : j ≠ w.heap.size := fun h => e9 (by rw [← h, hj])
          simp only [World.size_alloc]; omega))
        have BW3 : Below w.heap.size w w3 := (B4.alloc s4 _).trans hb3
        obtain ⟨A9, c9, rfl, _⟩ := hown3.form
        refine hK.out _ _ (fun _ _ => ⟨ck3 0, ck3 1, ck3 2⟩) ?_
        clear hK K hown3 hgrow
        try simp only [Act.put, List.setIfInBounds_toArray, List.set_cons_zero, List.set_cons_succ]
        refine wpAnyN_one (i := 13) (by kernel_rfl) rfl (fun K hK => ?_)
        go_simp
        refine hK.out _ _ (fun _ _ => ⟨ck3 0, ck3 1, ck3 2⟩) ?_
        clear hK K
        try simp only [Act.put, List.setIfInBounds_toArray, List.set_cons_zero, List.set_cons_succ]
        refine wpAnyN_done (by kernel_rfl) ?_ _
        refine NoPanic.normal ?_
        go_wp2_with fail
        go_roundw
        case rel => exact ⟨q + 1, _, by omega, by go_num, rfl, by simpa using HO3.out, KK3.out, BW3, KB3.out⟩
        case measure => simp [intOf]; omega
      · have hqe : q = es.length + 1 := by omega
        have i1 : decide (q ≤ es.length) = false := by simp; omega
        have E := Lib.hid (show binsL l r es = L by rw [HU.out, HLL.out, hqe])
        clear hqe hlt
        obtain ⟨A3, c3, rfl, _⟩ := KO.out.form
        go_wp2_with fail
        go_ret2
        exact ⟨_, rfl, by rw [E.out]; exact KO.out, hB⟩
end Go.Proofs.YtbmmkhbdcaokkaaGreat
/- Chapter 19: what weighs in bins: the laws BinsOf and BinsJoin. -/
namespace Go.Proofs.YtbmmkhbdcaokkaaGreat
open Go.ChangeShapes Go.WideShapes Go.ChangeAt Go.RowKit
set_option linter.unusedVariables false
set_option maxRecDepth 100000

theorem law_BinsOf_no (l k K : Int) (r : List Nd) (A : Option Addr) (cap : Nat) (es : List Int) (A2 : Option Addr) (cap2 : Nat) (w : World) (h : ¬ goodL l k K r) (hS : Sl w w.heap.size encN A r) (hI : ints r) (hm : r.length ≤ maxLen) :
    Calls Tryz.prog 5 #[loadedV l k K A r.length cap, .slice A2 es.length cap2] w fun e w' => e = .returned (.bool true) ∧ Below w.heap.size w w' := by
  have HC := Lib.hid (law16_Load_no · l k K A cap r h · hI hm)
  have HS := Lib.hid hS
  clear h hS
  unfold loadedV refDig at HC
  unfold loadedV
  go_enter Tryz.func5, Tryz.ntmps5
  go_wp2_with fail
  refine (bins_Of_nil _ _).mono ?_
  rintro e w1 ⟨rfl, hb1⟩
  have B1 : Below w.heap.size w w1 := Below.then_ (by repeat (first | with_reducible exact Below.refl _ _ | with_reducible assumption | ((with_reducible refine Below.setCell ?_ ?_ _); rotate_left; · (first | omega | exact Nat.le_refl _ | (simp <;> omega))) | (with_reducible refine Below.allocW ?_ _) | (with_reducible refine Below.drew ?_) | (with_reducible refine Below.extW ?_ _))) hb1
  have s1 : w.heap.size ≤ w1.heap.size := B1.size
  have z1_0 : w.heap.size < w1.heap.size := by have := hb1.size; (try simp at this); omega
  have y1_0 : w.heap.size ≤ w1.heap.size := Nat.le_of_lt z1_0
  have c1_0 := fun o => hb1.cell (p := ⟨w.heap.size, o, none⟩) (by first | omega | (simp <;> omega))
  have f1_0 := fun o => hb1.frozen (p := ⟨w.heap.size, o, none⟩) (by first | omega | (simp <;> omega))
  go_wp2_with fail
  refine (HC.out _ (HS.out.keep s1 fun p hp => B1.cell hp)).mono ?_
  rintro e w2 ⟨rfl, hb2⟩
  have B2 : Below w.heap.size w w2 := Below.then_ (by repeat (first | with_reducible exact Below.refl _ _ | with_reducible assumption | ((with_reducible refine Below.setCell ?_ ?_ _); rotate_left; · (first | omega | exact Nat.le_refl _ | (simp <;> omega))) | (with_reducible refine Below.allocW ?_ _) | (with_reducible refine Below.drew ?_) | (with_reducible refine Below.extW ?_ _))) hb2
  have s2 : w.heap.size ≤ w2.heap.size := B2.size
  have z2_0 : w.heap.size < w2.heap.size := by have := hb2.size; (try simp at this); omega
  have y2_0 : w.heap.size ≤ w2.heap.size := Nat.le_of_lt z2_0
  have c2_0 := fun o => hb2.cell (p := ⟨w.heap.size, o, none⟩) (by first | omega | (simp <;> omega))
  have f2_0 := fun o => hb2.frozen (p := ⟨w.heap.size, o, none⟩) (by first | omega | (simp <;> omega))
  go_wp2_with fail
  refine (alive19 _).mono ?_
  rintro e w3 ⟨rfl, hb3⟩
  have B3 : Below w.heap.size w w3 := Below.then_ (by repeat (first | with_reducible exact Below.refl _ _ | with_reducible assumption | ((with_reducible refine Below.setCell ?_ ?_ _); rotate_left; · (first | omega | exact Nat.le_refl _ | (simp <;> omega))) | (with_reducible refine Below.allocW ?_ _) | (with_reducible refine Below.drew ?_) | (with_reducible refine Below.extW ?_ _))) hb3
  have s3 : w.heap.size ≤ w3.heap.size := B3.size
  go_wp2_with fail
  go_ret
  exact ⟨rfl, (by repeat (first | with_reducible exact Below.refl _ _ | with_reducible assumption | ((with_reducible refine Below.setCell ?_ ?_ _); rotate_left; · (first | omega | exact Nat.le_refl _ | (simp <;> omega))) | (with_reducible refine Below.allocW ?_ _) | (with_reducible refine Below.drew ?_) | (with_reducible refine Below.extW ?_ _)))⟩
set_option maxHeartbeats 2000000 in
theorem law_BinsOf_yes (l K : Nat) (k : Int) (r : List Nd) (A : Option Addr) (cap : Nat) (es : List Int) (A2 : Option Addr) (cap2 : Nat) (w : World) (h : goodL l k K r) (hS : Sl w w.heap.size encN A r) (hI : ints r) (hS2 : Sl w w.heap.size encZ A2 es) :
    Calls Tryz.prog 5 #[loadedV l k K A r.length cap, .slice A2 es.length cap2] w fun e w' => e = .returned (.bool true) ∧ Below w.heap.size w w' := by
  have hn : r.length ≤ 67108864 := by have := h.1; omega
  have hr := (goodL_parts h.2.2).1
  have hf := right_fits hr
  have HC := Lib.hid (law16_Load · l K k A cap r h · hI)
  have HS := Lib.hid hS
  have HS2 := Lib.hid hS2
  have HI := Lib.hid hI
  have HRr := Lib.hid hr
  have HF := Lib.hid hf
  have hB : Below w.heap.size w (w.alloc (.cells #[.int .i64 l, .int .i64 k, .int .i64 K, .slice A r.length cap] 26)) := (by repeat (first | with_reducible exact Below.refl _ _ | with_reducible assumption | ((with_reducible refine Below.setCell ?_ ?_ _); rotate_left; · (first | omega | exact Nat.le_refl _ | (simp <;> omega))) | (with_reducible refine Below.allocW ?_ _) | (with_reducible refine Below.drew ?_) | (with_reducible refine Below.extW ?_ _)))
  have K0 := Lib.hid (heap_alloc_new w (.cells #[.int .i64 l, .int .i64 k, .int .i64 K, .slice A r.length cap] 26))
  clear h hS hr hI hS2 hf hB
  unfold loadedV refDig at HC
  unfold loadedV
  go_enter Tryz.func5, Tryz.ntmps5
  go_wp2_with fail
  refine (bins_Of_nil _ _).mono ?_
  rintro e w1 ⟨rfl, hb1⟩
  have B1 : Below w.heap.size w w1 := Below.then_ (by repeat (first | with_reducible exact Below.refl _ _ | with_reducible assumption | ((with_reducible refine Below.setCell ?_ ?_ _); rotate_left; · (first | omega | exact Nat.le_refl _ | (simp <;> omega))) | (with_reducible refine Below.allocW ?_ _) | (with_reducible refine Below.drew ?_) | (with_reducible refine Below.extW ?_ _))) hb1
  have s1 : w.heap.size ≤ w1.heap.size := B1.size
  have z1_0 : w.heap.size < w1.heap.size := by have := hb1.size; (try simp at this); omega
  have y1_0 : w.heap.size ≤ w1.heap.size := Nat.le_of_lt z1_0
  have c1_0 := fun o => hb1.cell (p := ⟨w.heap.size, o, none⟩) (by first | omega | (simp <;> omega))
  have f1_0 := fun o => hb1.frozen (p := ⟨w.heap.size, o, none⟩) (by first | omega | (simp <;> omega))
  have K1 := Lib.hid (blk_below K0.out hb1)
  go_wp2_with fail
  refine (HC.out _ (HS.out.keep s1 fun p hp => B1.cell hp)).mono ?_
  rintro e w2 ⟨g, F, rfl, hD, _, hb2⟩
  have B2 : Below w.heap.size w w2 := Below.then_ (by repeat (first | with_reducible exact Below.refl _ _ | with_reducible assumption | ((with_reducible refine Below.setCell ?_ ?_ _); rotate_left; · (first | omega | exact Nat.le_refl _ | (simp <;> omega))) | (with_reducible refine Below.allocW ?_ _) | (with_reducible refine Below.drew ?_) | (with_reducible refine Below.extW ?_ _))) hb2
  have s2 : w.heap.size ≤ w2.heap.size := B2.size
  have z2_0 : w.heap.size < w2.heap.size := by have := hb2.size; (try simp at this); omega
  have y2_0 : w.heap.size ≤ w2.heap.size := Nat.le_of_lt z2_0
  have c2_0 := fun o => hb2.cell (p := ⟨w.heap.size, o, none⟩) (by first | omega | (simp <;> omega))
  have f2_0 := fun o => hb2.frozen (p := ⟨w.heap.size, o, none⟩) (by first | omega | (simp <;> omega))
  have K2 := Lib.hid ((heap_new_lt w2 (.cells #[.int .i64 k, .int .i64 l, .slice A r.length cap] 37) _ (lt_of_block (blk_below K1.out hb2))).trans (blk_below K1.out hb2))
  have hl := hD.l_le
  have KD := Lib.hid (hD.alloc (.cells #[.int .i64 k, .int .i64 l, .slice A r.length cap] 37))
  clear hD
  by_cases hlong : 60 < es.length
  · have hlong' : (60 : Int) < (es.length : Int) := by omega
    go_wp2_with fail
    refine (alive19 _).mono ?_
    rintro e w3 ⟨rfl, hb3⟩
    have B3 : Below w.heap.size w w3 := Below.then_ (by repeat (first | with_reducible exact Below.refl _ _ | with_reducible assumption | ((with_reducible refine Below.setCell ?_ ?_ _); rotate_left; · (first | omega | exact Nat.le_refl _ | (simp <;> omega))) | (with_reducible refine Below.allocW ?_ _) | (with_reducible refine Below.drew ?_) | (with_reducible refine Below.extW ?_ _))) hb3
    have s3 : w.heap.size ≤ w3.heap.size := B3.size
    go_wp2_with fail
    go_ret
    exact ⟨rfl, (by repeat (first | with_reducible exact Below.refl _ _ | with_reducible assumption | ((with_reducible refine Below.setCell ?_ ?_ _); rotate_left; · (first | omega | exact Nat.le_refl _ | (simp <;> omega))) | (with_reducible refine Below.allocW ?_ _) | (with_reducible refine Below.drew ?_) | (with_reducible refine Below.extW ?_ _)))⟩
  · have hk60 : es.length ≤ 60 := by omega
    have hlong' : decide (60 < es.length) = false := by simpa using hlong
    clear hlong
    have BA2 : Below w.heap.size w (w2.alloc (.cells #[.int .i64 k, .int .i64 l, .slice A r.length cap] 37)) := (by repeat (first | with_reducible exact Below.refl _ _ | with_reducible assumption | ((with_reducible refine Below.setCell ?_ ?_ _); rotate_left; · (first | omega | exact Nat.le_refl _ | (simp <;> omega))) | (with_reducible refine Below.allocW ?_ _) | (with_reducible refine Below.drew ?_) | (with_reducible refine Below.extW ?_ _)))
    have E2 := Lib.hid (HS2.out.keep BA2.size fun p hp => BA2.cell hp)
    have R2 := Lib.hid (HS.out.keep BA2.size fun p hp => BA2.cell hp)
    have N2 := Lib.hid (heap_alloc_new w2 (.cells #[.int .i64 k, .int .i64 l, .slice A r.length cap] 37))
    clear BA2
    go_wp2_with fail
    refine (bins_Of _ g K l k r F A2 cap2 es KD.out hn E2.out (by omega) HRr.out).mono ?_
    rintro e w3 ⟨v3, rfl, o3, hb3⟩
    have B3 : Below w.heap.size w w3 := Below.then_ (by repeat (first | with_reducible exact Below.refl _ _ | with_reducible assumption | ((with_reducible refine Below.setCell ?_ ?_ _); rotate_left; · (first | omega | exact Nat.le_refl _ | (simp <;> omega))) | (with_reducible refine Below.allocW ?_ _) | (with_reducible refine Below.drew ?_) | (with_reducible refine Below.extW ?_ _))) hb3
    have s3 : w.heap.size ≤ w3.heap.size := B3.size
    have z3_0 : w.heap.size < w3.heap.size := by have := hb3.size; (try simp at this); omega
    have y3_0 : w.heap.size ≤ w3.heap.size := Nat.le_of_lt z3_0
    have c3_0 := fun o => hb3.cell (p := ⟨w.heap.size, o, none⟩) (by first | omega | (simp <;> omega))
    have f3_0 := fun o => hb3.frozen (p := ⟨w.heap.size, o, none⟩) (by first | omega | (simp <;> omega))
    have K3 := Lib.hid (blk_below K2.out hb3)
    have n3 := blk_below N2.out hb3
    have cn3 := blk_cell n3
    have zn3 := lt_of_block n3
    have E3 := Lib.hid (E2.out.keep hb3.size fun p hp => hb3.cell hp)
    have R3 := Lib.hid (R2.out.keep hb3.size fun p hp => hb3.cell hp)
    have O3 := Lib.hid o3
    clear o3 n3 hb3
    go_wp2_with fail
    refine (ref19_Of _ k l A A2 cap cap2 r es hl.1 hl.2 R3.out HI.out hn HF.out.1.roll HF.out.1.sum HF.out.2 E3.out hk60).mono ?_
    rintro e w4 ⟨v4, rfl, o4, hb4⟩
    have B4 : Below w.heap.size w w4 := Below.then_ (by repeat (first | with_reducible exact Below.refl _ _ | with_reducible assumption | ((with_reducible refine Below.setCell ?_ ?_ _); rotate_left; · (first | omega | exact Nat.le_refl _ | (simp <;> omega))) | (with_reducible refine Below.allocW ?_ _) | (with_reducible refine Below.drew ?_) | (with_reducible refine Below.extW ?_ _))) hb4
    have s4 : w.heap.size ≤ w4.heap.size := B4.size
    have z4_0 : w.heap.size < w4.heap.size := by have := hb4.size; (try simp at this); omega
    have y4_0 : w.heap.size ≤ w4.heap.size := Nat.le_of_lt z4_0
    have c4_0 := fun o => hb4.cell (p := ⟨w.heap.size, o, none⟩) (by first | omega | (simp <;> omega))
    have f4_0 := fun o => hb4.frozen (p := ⟨w.heap.size, o, none⟩) (by first | omega | (simp <;> omega))
    have k4 := blk_below K3.out hb4
    have E4 := Lib.hid (E3.out.keep hb4.size fun p hp => hb4.cell hp)
    obtain ⟨A3, c3, rfl, _⟩ := O3.out.form
    obtain ⟨A4, c4, rfl, _⟩ := o4.form
    have T3 := Lib.hid (O3.out.below hb4).sl
    have T4 := Lib.hid o4.sl
    have hbl : (ofBins l r es).length ≤ 61 := by unfold ofBins; split <;> (try rw [binsL_len]) <;> simp <;> omega
    have K4 := Lib.hid k4
    have ck4 := blk_cell k4
    have zk4 := lt_of_block k4
    clear o4 k4 hb4
    have HSm := Lib.hid (fun W h h' => ref5_Same W A3 A4 c3 c4 (ofBins l r es) h h' (by omega))
    have HRi := Lib.hid (fun W h => bins_Right W l A2 cap2 es hl.1 hl.2 h (by omega))
    have HRr2 := Lib.hid (fun W h => ref19_Right W l A2 cap2 es hl.1 hl.2 h (by omega))
    generalize ofBins l r es = L at hbl T3 T4 HSm
    generalize rightE l (-1) es = b at HRi HRr2
    go_wp2_with fail
    refine wp_region_ext (by kernel_rfl) (by kernel_rfl) ?_
    repeat (go_big_quiet_step (first
      | (go_at_call 29; exact quiet_ext (HSm.out _ (T3.out.keep (ext_below _ _).size fun p hp => (ext_below _ _).cell hp) (T4.out.keep (ext_below _ _).size fun p hp => (ext_below _ _).cell hp)))
      | (go_at_call 30; exact quiet_ext (HRi.out _ (E4.out.keep (ext_below _ _).size fun p hp => (ext_below _ _).cell hp)))
      | (go_at_call 31; exact quiet_ext (HRr2.out _ (E4.out.keep (ext_below _ _).size fun p hp => (ext_below _ _).cell hp)))
      | (go_at_call 27; exact quiet_ext (alive19 _))))
    refine wpQuiet_nil ?_
    intro w5 hb5
    replace hb5 := below_of_ext hb5
    have B5 : Below w.heap.size w w5 := Below.then_ (by repeat (first | with_reducible exact Below.refl _ _ | with_reducible assumption | ((with_reducible refine Below.setCell ?_ ?_ _); rotate_left; · (first | omega | exact Nat.le_refl _ | (simp <;> omega))) | (with_reducible refine Below.allocW ?_ _) | (with_reducible refine Below.drew ?_) | (with_reducible refine Below.extW ?_ _))) hb5
    have s5 : w.heap.size ≤ w5.heap.size := B5.size
    go_wp2_with fail
    go_ret
    exact ⟨rfl, (by repeat (first | with_reducible exact Below.refl _ _ | with_reducible assumption | ((with_reducible refine Below.setCell ?_ ?_ _); rotate_left; · (first | omega | exact Nat.le_refl _ | (simp <;> omega))) | (with_reducible refine Below.allocW ?_ _) | (with_reducible refine Below.drew ?_) | (with_reducible refine Below.extW ?_ _)))⟩
theorem law_BinsOf (l k K : Int) (r : List Nd) (A : Option Addr) (cap : Nat) (es : List Int) (A2 : Option Addr) (cap2 : Nat) (W : World) (hS : Sl W W.heap.size encN A r) (hI : ints r) (_ : i64 l) (_ : i64 k) (_ : i64 K) (hm : r.length ≤ maxLen) (hS2 : Sl W W.heap.size encZ A2 es) (_ : ∀ x ∈ es, i64 x) (_ : es.length ≤ maxLen) :
    Calls Tryz.prog 5 #[loadedV l k K A r.length cap, .slice A2 es.length cap2] W fun e W' => e = .returned (.bool true) ∧ Below W.heap.size W W' := by
  by_cases h : goodL l k K r
  · obtain ⟨n, m, rfl, rfl⟩ := goodL_nat h.2.2
    exact law_BinsOf_yes n m k r A cap es A2 cap2 W h hS hI hS2
  · exact law_BinsOf_no l k K r A cap es A2 cap2 W h hS hI hm
end Go.Proofs.YtbmmkhbdcaokkaaGreat
/- Package reckon: Plus, Over. -/
namespace Go.Proofs.YtbmmkhbdcaokkaaGreat
open Go.ChangeShapes Go.WideShapes Go.ChangeAt Go.RowKit
set_option linter.unusedVariables false
set_option maxRecDepth 100000

theorem run_Add64 (x y c : Int) (hx : 0 ≤ x) (hy : 0 ≤ y) (hc0 : 0 ≤ c) (hc : c ≤ 1) (w : World) :
    (callFunc 157 #[.int .u64 x, .int .u64 y, .int .u64 c]).run Tryz.prog w = .ok (.value (.tuple #[.int .u64 ((x + y + c) % 18446744073709551616), .int .u64 ((x + y + c) / 18446744073709551616)])) w := by
  rw [run_callFunc_extern Tryz.func157 (by kernel_rfl) (by kernel_rfl) (by kernel_rfl) (e := add64Entry) (by kernel_rfl), run_add64 x y c hx hy hc0 hc]
  rfl
/-- A number of two words. -/
def wideV (n : Nat) : Value := .agg #[.int .u64 (n % 18446744073709551616 : Nat), .int .u64 (n / 18446744073709551616 : Nat)]
theorem wide_add {n p : Nat} : ((n + p) % 18446744073709551616 = (n % 18446744073709551616 + p % 18446744073709551616) % 18446744073709551616) ∧
    (n + p) / 18446744073709551616 = n / 18446744073709551616 + p / 18446744073709551616 + (n % 18446744073709551616 + p % 18446744073709551616) / 18446744073709551616 := by omega
theorem reckon_Plus (w : World) (n x c : Nat) (hx : x ≤ 9223372036854775807) (hc : c ≤ 9223372036854775807) (hn : (n + x * c) / 18446744073709551616 ≤ 18446744073709551615) :
    Calls Tryz.prog 89 #[wideV n, .int .i64 x, .int .i64 c] w fun e w' => e = .returned (.tuple #[wideV (n + x * c), .bool true]) ∧ Below w.heap.size w w' := by
  have HC := Lib.hid (show decide (0 ≤ (x : Int) ∧ 0 ≤ (c : Int)) = true by simp)
  have HM : Hid (∀ W, Calls Tryz.prog 156 #[.int .u64 x, .int .u64 c] W fun e w' => e = .returned (.tuple #[.int .u64 (x * c / 18446744073709551616 : Nat), .int .u64 (x * c % 18446744073709551616 : Nat)]) ∧ w' = W) := Lib.hid fun W => Tryz.bits_Mul64 x c (by omega) (by omega) W
  unfold wideV
  have hw := @wide_add n (x * c)
  rw [hw.1, hw.2]
  rw [hw.2] at hn
  have n0l := Nat.mod_lt n (show 18446744073709551616 > 0 by decide)
  have p0l := Nat.mod_lt (x * c) (show 18446744073709551616 > 0 by decide)
  generalize n % 18446744073709551616 = n0 at n0l hn ⊢
  generalize n / 18446744073709551616 = n1 at hn ⊢
  generalize x * c % 18446744073709551616 = p0 at HM p0l hn ⊢
  generalize x * c / 18446744073709551616 = p1 at HM hn ⊢
  have k1 : (n0 + p0) / 18446744073709551616 ≤ 1 := by omega
  have r1 : Hid (∀ W, (callFunc 157 #[.int .u64 n0, .int .u64 p0, .int .u64 0]).run Tryz.prog W = .ok (.value (.tuple #[.int .u64 ((n0 + p0) % 18446744073709551616 : Nat), .int .u64 ((n0 + p0) / 18446744073709551616 : Nat)])) W) := Lib.hid fun W => by
    rw [run_Add64 n0 p0 0 (by omega) (by omega) (by omega) (by omega)]
    congr 5 <;> omega
  generalize (n0 + p0) % 18446744073709551616 = u0 at r1 ⊢
  generalize (n0 + p0) / 18446744073709551616 = k at r1 hn k1 ⊢
  have r2 : Hid (∀ W, (callFunc 157 #[.int .u64 n1, .int .u64 p1, .int .u64 k]).run Tryz.prog W = .ok (.value (.tuple #[.int .u64 (n1 + p1 + k : Nat), .int .u64 0])) W) := Lib.hid fun W => by
    have e1 : ((n1 : Int) + p1 + k) % 18446744073709551616 = (n1 + p1 + k : Nat) := by omega
    have e2 : ((n1 : Int) + p1 + k) / 18446744073709551616 = 0 := by omega
    rw [run_Add64 n1 p1 k (by omega) (by omega) (by omega) (by omega), e1, e2]
  generalize n1 + p1 + k = u1 at r2 ⊢
  clear hw n0l p0l hn k1
  replace r1 := r1.out
  replace r2 := r2.out
  go_enter Tryz.func89, Tryz.ntmps89
  go_wp2_with fail
  refine (reckon_counts _ x c).mono ?_
  rintro e w1 ⟨rfl, hb1⟩
  have B1 : Below w.heap.size w w1 := Below.then_ (by repeat (first | with_reducible exact Below.refl _ _ | with_reducible assumption | ((with_reducible refine Below.setCell ?_ ?_ _); rotate_left; · (first | omega | exact Nat.le_refl _ | (simp <;> omega))) | (with_reducible refine Below.allocW ?_ _) | (with_reducible refine Below.drew ?_) | (with_reducible refine Below.extW ?_ _))) hb1
  have s1 : w.heap.size ≤ w1.heap.size := B1.size
  have z1_0 : w.heap.size < w1.heap.size := by have := hb1.size; (try simp at this); omega
  have y1_0 : w.heap.size ≤ w1.heap.size := Nat.le_of_lt z1_0
  have c1_0 := fun o => hb1.cell (p := ⟨w.heap.size, o, none⟩) (by first | omega | (simp <;> omega))
  have f1_0 := fun o => hb1.frozen (p := ⟨w.heap.size, o, none⟩) (by first | omega | (simp <;> omega))
  have z1_1 : w.heap.size + 1 < w1.heap.size := by have := hb1.size; (try simp at this); omega
  have y1_1 : w.heap.size + 1 ≤ w1.heap.size := Nat.le_of_lt z1_1
  have c1_1 := fun o => hb1.cell (p := ⟨w.heap.size + 1, o, none⟩) (by first | omega | (simp <;> omega))
  have f1_1 := fun o => hb1.frozen (p := ⟨w.heap.size + 1, o, none⟩) (by first | omega | (simp <;> omega))
  rw [HC.out]
  go_wp2_with fail
  refine (HM.out _).mono ?_
  rintro e w2 ⟨rfl, rfl⟩
  go_wp2_with fail
  exact bodyPost_ret (v := .tuple #[.agg #[.int .u64 u0, .int .u64 u1], .bool true]) (by simp only [results, Tryz.results89]; go_simp) rfl ⟨rfl, (by repeat (first | with_reducible exact Below.refl _ _ | with_reducible assumption | ((with_reducible refine Below.setCell ?_ ?_ _); rotate_left; · (first | omega | exact Nat.le_refl _ | (simp <;> omega))) | (with_reducible refine Below.allocW ?_ _) | (with_reducible refine Below.drew ?_) | (with_reducible refine Below.extW ?_ _)))⟩
theorem wide_div (n : Nat) : n / 18446744073709551616 * 18446744073709551616 + n % 18446744073709551616 = n := Nat.div_add_mod' _ _
theorem reckon_Over (w : World) (n c : Nat) (h1 : 1 ≤ c) (hc : c ≤ 9223372036854775807) (hq : n / c ≤ 9223372036854775807) :
    Calls Tryz.prog 95 #[wideV n, .int .i64 c] w fun e w' => e = .returned (.tuple #[.int .i64 (n / c : Nat), .bool (decide (0 < n % c)), .bool true]) ∧ Below w.heap.size w w' := by
  have hn1 : n / 18446744073709551616 < c := by
    apply Nat.lt_of_not_le
    intro h
    have h2 : c * 18446744073709551616 ≤ n := Nat.le_trans (Nat.mul_le_mul_right _ h) (Nat.div_mul_le_self n 18446744073709551616)
    have h3 : 18446744073709551616 ≤ n / c := (Nat.le_div_iff_mul_le (by omega)).2 (by rw [Nat.mul_comm]; exact h2)
    omega
  have hD := Lib.hid (fun w => bits_Div64 w (n / 18446744073709551616) (n % 18446744073709551616) c (by omega) hn1 (Nat.mod_lt _ (by decide)))
  rw [wide_div] at hD
  have hr0 : n % c ≤ c := Nat.le_of_lt (Nat.mod_lt n (show c > 0 by omega))
  unfold wideV
  generalize n % 18446744073709551616 = n0 at hD ⊢
  generalize n / 18446744073709551616 = n1 at hD hn1 ⊢
  generalize n / c = q at hD hq ⊢
  generalize n % c = r at hD hr0 ⊢
  have hn1' : decide ((c : Int) ≤ (n1 : Int)) = false := by simp; omega
  have h1' : decide ((c : Int) < 1) = false := by simp; omega
  go_enter Tryz.func95, Tryz.ntmps95
  go_wp2_with fail
  refine (hD.out _).mono ?_
  rintro e w1 ⟨rfl, hb1⟩
  have B1 : Below w.heap.size w w1 := Below.then_ (by repeat (first | with_reducible exact Below.refl _ _ | with_reducible assumption | ((with_reducible refine Below.setCell ?_ ?_ _); rotate_left; · (first | omega | exact Nat.le_refl _ | (simp <;> omega))) | (with_reducible refine Below.allocW ?_ _) | (with_reducible refine Below.drew ?_) | (with_reducible refine Below.extW ?_ _))) hb1
  have s1 : w.heap.size ≤ w1.heap.size := B1.size
  go_wp2_with fail
  refine (reckon_count _ q (by omega)).mono ?_
  rintro e w2 ⟨rfl, hb2⟩
  have B2 : Below w.heap.size w w2 := Below.then_ (by repeat (first | with_reducible exact Below.refl _ _ | with_reducible assumption | ((with_reducible refine Below.setCell ?_ ?_ _); rotate_left; · (first | omega | exact Nat.le_refl _ | (simp <;> omega))) | (with_reducible refine Below.allocW ?_ _) | (with_reducible refine Below.drew ?_) | (with_reducible refine Below.extW ?_ _))) hb2
  have s2 : w.heap.size ≤ w2.heap.size := B2.size
  go_wp2_with fail
  go_ret3
  exact ⟨by simp, (by repeat (first | with_reducible exact Below.refl _ _ | with_reducible assumption | ((with_reducible refine Below.setCell ?_ ?_ _); rotate_left; · (first | omega | exact Nat.le_refl _ | (simp <;> omega))) | (with_reducible refine Below.allocW ?_ _) | (with_reducible refine Below.drew ?_) | (with_reducible refine Below.extW ?_ _)))⟩
end Go.Proofs.YtbmmkhbdcaokkaaGreat
/- Package bound: Sum, Mean. -/
namespace Go.Proofs.YtbmmkhbdcaokkaaGreat
open Go.ChangeShapes Go.WideShapes Go.ChangeAt Go.RowKit
set_option linter.unusedVariables false
set_option maxRecDepth 100000

/-- Values times weights. -/
def sumW (l : Int) (hi : Bool) : List Nd → Nat
  | [] => 0
  | x :: r => (if hi = true then (endsOf l x.1).2.1 else (endsOf l x.1).1).toNat * x.2.toNat + sumW l hi r
theorem sumW_append (l : Int) (hi : Bool) (a b : List Nd) : sumW l hi (a ++ b) = sumW l hi a + sumW l hi b := by
  induction a with
  | nil => simp [sumW]
  | cons x a ih => simp only [List.cons_append, sumW, ih]; omega
theorem sumW_succ {l : Int} {hi : Bool} {r : List Nd} {q : Nat} (h : q < r.length) : sumW l hi (r.take (q + 1)) = sumW l hi (r.take q) + (if hi = true then (endsOf l r[q].1).2.1 else (endsOf l r[q].1).1).toNat * r[q].2.toNat := by
  rw [List.take_succ_eq_append_getElem h, sumW_append]
  simp [sumW]
theorem sumW_le {l : Nat} (hl : l ≤ 48) {r : List Nd} (hr : Roll r) (hn : ∀ x ∈ r, isNode l x.1 = true) (hi : Bool) : sumW l hi r ≤ 281474976710655 * (sumR r).toNat := by
  induction r with
  | nil => simp [sumW]
  | cons x r ih =>
    have hx := ends_48 hl (hn x (by simp))
    have h0 := sumR_nonneg hr.tail
    have hx2 := (hr.2 x (by simp)).2
    have hi2 := ih hr.tail (fun y hy => hn y (by simp [hy]))
    have e : (sumR (x :: r)).toNat = x.2.toNat + (sumR r).toNat := by simp only [sumR]; omega
    rw [e, Nat.mul_add]
    simp only [sumW]
    have : (if hi = true then (endsOf l x.1).2.1 else (endsOf l x.1).1).toNat ≤ 281474976710655 := by split <;> omega
    have := Nat.mul_le_mul_right x.2.toNat this
    omega
def wideAt (w : World) (b n : Nat) : Prop := w.heap[b]? = some (.cells #[.int .u64 (n % 18446744073709551616 : Nat), .int .u64 (n / 18446744073709551616 : Nat)] 60 (0, 0))
theorem wideAt.below {w w' : World} {b n : Nat} (h : wideAt w b n) (hb : Below w.heap.size w w') : wideAt w' b n := blk_below h hb
theorem wideAt.alloc {w : World} {b n : Nat} (h : wideAt w b n) (o : Obj) : wideAt (w.alloc o) b n := h.below ((Below.refl _ _).alloc (Nat.le_refl _) o)
theorem wideAt.drew {w : World} {b n : Nat} (h : wideAt w b n) : wideAt w.drew b n := h
theorem wideAt.set {w : World} {b n q o : Nat} (h : wideAt w b n) (hne : b ≠ q) (u : Value) : wideAt (w.setCell ⟨q, o, none⟩ u) b n := (Below.heap_setCell _ _ _ _ hne).trans h
theorem wideAt.put {w : World} {b n : Nat} (h : wideAt w b n) (m : Nat) : wideAt ((w.setCell ⟨b, 0, none⟩ (.int .u64 (m % 18446744073709551616 : Nat))).setCell ⟨b, 1, none⟩ (.int .u64 (m / 18446744073709551616 : Nat))) b m :=
  heap_set_at (i := 1) (heap_set_at (i := 0) h _) _
theorem KeepN.setT {w W : World} {b o t : Nat} (k : KeepN w W) (h : TypeAt W b t) (ht : t ≠ 108) (u : Value) : KeepN w (W.setCell ⟨b, o, none⟩ u) := by
  refine keepN_t k ⟨by simp [World.setCell], fun c cs fr hc => ?_⟩
  have hne : c ≠ b := by
    rintro rfl
    obtain ⟨cs', fr', h⟩ := h
    rw [h] at hc
    injection hc with hc
    injection hc with _ h2
    exact ht h2
  exact (Below.heap_setCell _ _ _ _ hne).trans hc
theorem wideAt.ty {w : World} {b n : Nat} (h : wideAt w b n) : TypeAt w b 60 := .of h
theorem KeepN.more {w W W' : World} (k : KeepN w W) (h : Below W.heap.size W W') : KeepN w W' := keepN_t k (KeepN.of_below h)
set_option maxHeartbeats 1000000 in
theorem bound_Sum1 (w : World) (lo hi c n m b0 b1 : Nat) (h0 : wideAt w b0 n) (h1 : wideAt w b1 m) (hne : b0 ≠ b1) (hlo : lo ≤ 9223372036854775807) (hhi : hi ≤ 9223372036854775807) (hc : c ≤ 9223372036854775807)
    (q0 : (n + lo * c) / 18446744073709551616 ≤ 18446744073709551615) (q1 : (m + hi * c) / 18446744073709551616 ≤ 18446744073709551615) :
    Calls Tryz.prog 88 #[.int .i64 lo, .int .i64 hi, .int .i64 c, .pointer (some ⟨b0, 0, none⟩), .pointer (some ⟨b1, 0, none⟩)] w fun e w' => e = .returned (.tuple #[]) ∧ wideAt w' b0 (n + lo * c) ∧ wideAt w' b1 (m + hi * c) ∧ KeepN w w' ∧ (∀ B, B ≤ b0 → B ≤ b1 → B ≤ w.heap.size → Below B w w') := by
  have P0 := Lib.hid (reckon_Plus · n lo c hlo hc q0)
  have P1 := Lib.hid (reckon_Plus · m hi c hhi hc q1)
  have H0 := Lib.hid h0
  have H1 := Lib.hid h1
  unfold wideV at P0 P1
  have cc := blk_cell h0
  have cf := blk_frozen h0
  have zb := lt_of_block h0
  have cd := blk_cell h1
  have cg := blk_frozen h1
  have zc := lt_of_block h1
  generalize n + lo * c = n' at P0 ⊢
  generalize m + hi * c = m' at P1 ⊢
  clear h0 h1 q0 q1
  go_enter Tryz.func88, Tryz.ntmps88
  go_wp2_with fail
  refine (P0.out _).mono ?_
  rintro e w1 ⟨rfl, hb1⟩
  have K0 := Lib.hid (H0.out.below hb1)
  have K1 := Lib.hid (H1.out.below hb1)
  have cc1 := blk_cell K0.out
  have cf1 := blk_frozen K0.out
  have zb1 := lt_of_block K0.out
  have cd1 := blk_cell K1.out
  have cg1 := blk_frozen K1.out
  have zc1 := lt_of_block K1.out
  go_wp2_with fail
  refine (P1.out _).mono ?_
  rintro e w2 ⟨rfl, hb2⟩
  have J0 := Lib.hid ((K0.out.put n').below hb2)
  have J1 := Lib.hid (((K1.out.set hne.symm _).set hne.symm _).below hb2)
  have cd2 := blk_cell J1.out
  have cg2 := blk_frozen J1.out
  have zc2 := lt_of_block J1.out
  clear cc cf zb cd cg zc cc1 cf1 zb1 cd1 cg1 zc1
  go_wp2_with fail
  go_end0
  refine ⟨rfl, (J0.out.set hne _).set hne _, J1.out.put _, ?_, fun B x0 x1 x2 => ?_⟩
  · exact (((((KeepN.of_below hb1).setT K0.out.ty (by decide) _).setT K0.out.ty.setCell (by decide) _).more hb2).setT J1.out.ty (by decide) _).setT J1.out.ty.setCell (by decide) _
  · have s1 := hb1.size
    have s2 := hb2.size
    simp only [World.size_setCell] at s2
    exact (((((hb1.mono x2).setCell (p := ⟨b0, 0, none⟩) x0 _).setCell (p := ⟨b0, 1, none⟩) x0 _).trans (hb2.mono (by simp only [World.size_setCell]; omega))).setCell (p := ⟨b1, 0, none⟩) x1 _).setCell (p := ⟨b1, 1, none⟩) x1 _
/-- The two sums in memory behind some nodes. -/
def SumI (w : World) (l : Int) (r : List Nd) (b0 b1 : Nat) (q : Nat) (W : World) : Prop := Below w.heap.size w W ∧ wideAt W b0 (sumW l false (r.take q)) ∧ wideAt W b1 (sumW l true (r.take q))
theorem sumI_stays (w : World) (l : Int) (r : List Nd) (b0 b1 : Nat) : Stays (SumI w l r b0 b1) := ⟨fun q W W' ⟨h1, h2, h3⟩ hb => ⟨h1.trans (hb.mono h1.size), h2.below hb, h3.below hb⟩⟩
theorem enters_Sum : ∀ args W, (callFunc 88 args).run Tryz.prog W = .ok (.enter 88 args) W := enters_of Tryz.func88 (by kernel_rfl) rfl
theorem sum_step {l : Nat} (hl1 : 1 ≤ l ∧ l ≤ 48) {r : List Nd} (hf : Fits l r) {q : Nat} (hq : q < r.length) : ∃ lo hi c : Nat, (endsOf l r[q].1).1 = lo ∧ (endsOf l r[q].1).2.1 = hi ∧ r[q].2 = c ∧ lo ≤ 281474976710655 ∧ hi ≤ 281474976710655 ∧ c ≤ 72057594037927935 ∧
    sumW l false (r.take (q + 1)) = sumW l false (r.take q) + lo * c ∧ sumW l true (r.take (q + 1)) = sumW l true (r.take q) + hi * c ∧ sumW l false (r.take (q + 1)) / 18446744073709551616 ≤ 18446744073709551615 ∧ sumW l true (r.take (q + 1)) / 18446744073709551616 ≤ 18446744073709551615 := by
  have hn := hf.nodes hl1
  have hl := hl1.2
  have hx := ends_48 hl (hn _ (List.getElem_mem hq))
  have hx2 := (hf.roll.2 _ (List.getElem_mem hq)).2
  have hc := sumR_take_le hf.roll (q + 1)
  have hc2 := sumR_take_succ hq
  have hc3 := sumR_nonneg (hf.roll.take q)
  have hs := hf.sum
  have b0 := sumW_le hl (hf.roll.take (q + 1)) (fun x hx => hn x (List.mem_of_mem_take hx)) false
  have b1 := sumW_le hl (hf.roll.take (q + 1)) (fun x hx => hn x (List.mem_of_mem_take hx)) true
  have hm : 281474976710655 * (sumR (r.take (q + 1))).toNat ≤ 281474976710655 * 72057594037927935 := Nat.mul_le_mul_left _ (by omega)
  refine ⟨(endsOf l r[q].1).1.toNat, (endsOf l r[q].1).2.1.toNat, r[q].2.toNat, by omega, by omega, by omega, by omega, by omega, by omega, ?_, ?_, by omega, by omega⟩
  · rw [sumW_succ hq]; simp
  · rw [sumW_succ hq]; simp
theorem bound_Sum (w : World) (g K l : Nat) (k : Int) (r : List Nd) (F : Nat → Prop) (h : DigAt w g K l k r F) (hn : r.length ≤ 67108864) :
    Calls Tryz.prog 33 #[.pointer (some ⟨g, 0, none⟩)] w fun e w' => e = .returned (.tuple #[wideV (sumW l false r), wideV (sumW l true r)]) ∧ Below w.heap.size w w' := by
  have HD := Lib.hid ((h.alloc (.cells #[.int .u64 0, .int .u64 0] 60)).alloc (.cells #[.int .u64 0, .int .u64 0] 60))
  have hf := h.fits
  have hl := h.l_le
  have N0 : Hid (wideAt ((w.alloc (.cells #[.int .u64 0, .int .u64 0] 60)).alloc (.cells #[.int .u64 0, .int .u64 0] 60)) w.heap.size 0) := Lib.hid ((show wideAt (w.alloc (.cells #[.int .u64 0, .int .u64 0] 60)) w.heap.size 0 from heap_alloc_new _ _).alloc _)
  have N1 : Hid (wideAt ((w.alloc (.cells #[.int .u64 0, .int .u64 0] 60)).alloc (.cells #[.int .u64 0, .int .u64 0] 60)) (w.heap.size + 1) 0) := Lib.hid (heap_new_at _ _ _ (by simp))
  have BA : Hid (Below w.heap.size w ((w.alloc (.cells #[.int .u64 0, .int .u64 0] 60)).alloc (.cells #[.int .u64 0, .int .u64 0] 60))) := Lib.hid (by repeat (first | with_reducible exact Below.refl _ _ | with_reducible assumption | ((with_reducible refine Below.setCell ?_ ?_ _); rotate_left; · (first | omega | exact Nat.le_refl _ | (simp <;> omega))) | (with_reducible refine Below.allocW ?_ _) | (with_reducible refine Below.drew ?_) | (with_reducible refine Below.extW ?_ _)))
  clear h
  unfold wideV
  go_enter Tryz.func33, Tryz.ntmps33
  go_wp2_with fail
  refine (bound_each _ g K l k r F HD.out hn 88 #[.pointer (some ⟨w.heap.size, 0, none⟩), .pointer (some ⟨w.heap.size + 1, 0, none⟩)] enters_Sum (SumI w l r w.heap.size (w.heap.size + 1)) (sumI_stays _ _ _ _ _) ⟨BA.out, N0.out, N1.out⟩ ?_).mono ?_
  · intro q hq W ⟨i1, i2, i3⟩
    obtain ⟨lo, hi, c, e1, e2, e3, g1, g2, g3, e4, e5, g4, g5⟩ := sum_step hl hf hq
    rw [e1, e2, e3]
    have hs := i1.size
    refine (bound_Sum1 W lo hi c _ _ _ _ i2 i3 (by omega) (by omega) (by omega) (by omega) (by rw [← e4]; exact g4) (by rw [← e5]; exact g5)).mono ?_
    rintro e W' ⟨rfl, j2, j3, hk, hB⟩
    exact ⟨rfl, ⟨i1.trans (hB _ (Nat.le_refl _) (by omega) hs), by rw [e4]; exact j2, by rw [e5]; exact j3⟩, hk⟩
  · rintro e w2 ⟨rfl, ⟨i1, i2, i3⟩, hs2⟩
    simp only [List.take_length] at i2 i3
    have cc := blk_cell i3
    have cf := blk_frozen i3
    have c0 := blk_cell i2
    have f0 := blk_frozen i2
    have z0 := lt_of_block i2
    have z1 := lt_of_block i3
    clear i2 i3
    go_wp2_with fail
    go_region
    all_goals go_wp2_with fail
    all_goals exact bodyPost_ret (v := .tuple #[.agg #[.int .u64 (sumW l false r % 18446744073709551616 : Nat), .int .u64 (sumW l false r / 18446744073709551616 : Nat)], .agg #[.int .u64 (sumW l true r % 18446744073709551616 : Nat), .int .u64 (sumW l true r / 18446744073709551616 : Nat)]]) (by simp only [results, Tryz.results33]; go_simp) rfl ⟨rfl, (by repeat (first | with_reducible exact Below.refl _ _ | with_reducible assumption | ((with_reducible refine Below.setCell ?_ ?_ _); rotate_left; · (first | omega | exact Nat.le_refl _ | (simp <;> omega))) | (with_reducible refine Below.allocW ?_ _) | (with_reducible refine Below.drew ?_) | (with_reducible refine Below.extW ?_ _)))⟩
def meanT (l : Int) (r : List Nd) : Int × Int × Int := if sumR r = 0 then (0, 0, 7) else ((sumW l false r / (sumR r).toNat : Nat), (sumW l true r / (sumR r).toNat + (if sumW l true r % (sumR r).toNat = 0 then 0 else 1) : Nat), 0)
set_option maxHeartbeats 1000000 in
theorem bound_Mean (w : World) (g K l : Nat) (k : Int) (r : List Nd) (F : Nat → Prop) (h : DigAt w g K l k r F) (hn : r.length ≤ 67108864) :
    Calls Tryz.prog 37 #[.pointer (some ⟨g, 0, none⟩)] w fun e w' => e = .returned (bothV (meanT l r)) ∧ Below w.heap.size w w' := by
  have HD := Lib.hid (h.alloc (.cells #[.int .i64 0, .int .i64 0] 29))
  have HW := Lib.hid (bound_wrong · g K l k r F ·)
  have hf := h.fits
  have hl := h.l_le
  have hs0 := sumR_nonneg hf.roll
  have hs1 := hf.sum
  have b0 := sumW_le hl.2 hf.roll (hf.nodes hl) false
  have b1 := sumW_le hl.2 hf.roll (hf.nodes hl) true
  clear h
  unfold bothV meanT
  unfold wrongOf at HW
  by_cases hN : sumR r = 0
  · rw [if_pos hN]
    rw [if_pos hN] at HW
    clear hN b0 b1
    go_enter Tryz.func37, Tryz.ntmps37
    go_wp2_with fail
    refine (HW.out _ HD.out).mono ?_
    rintro e w1 ⟨rfl, hb1⟩
    have B1 : Below w.heap.size w w1 := Below.then_ (by repeat (first | with_reducible exact Below.refl _ _ | with_reducible assumption | ((with_reducible refine Below.setCell ?_ ?_ _); rotate_left; · (first | omega | exact Nat.le_refl _ | (simp <;> omega))) | (with_reducible refine Below.allocW ?_ _) | (with_reducible refine Below.drew ?_) | (with_reducible refine Below.extW ?_ _))) hb1
    have s1 : w.heap.size ≤ w1.heap.size := B1.size
    have z1_0 : w.heap.size < w1.heap.size := by have := hb1.size; (try simp at this); omega
    have y1_0 : w.heap.size ≤ w1.heap.size := Nat.le_of_lt z1_0
    have c1_0 := fun o => hb1.cell (p := ⟨w.heap.size, o, none⟩) (by first | omega | (simp <;> omega))
    have f1_0 := fun o => hb1.frozen (p := ⟨w.heap.size, o, none⟩) (by first | omega | (simp <;> omega))
    go_wp2_with fail
    exact bodyPost_ret (v := .tuple #[.agg #[.int .i64 0, .int .i64 0], .int .i64 7]) (by simp only [results, Tryz.results37]; go_simp) rfl ⟨rfl, (by repeat (first | with_reducible exact Below.refl _ _ | with_reducible assumption | ((with_reducible refine Below.setCell ?_ ?_ _); rotate_left; · (first | omega | exact Nat.le_refl _ | (simp <;> omega))) | (with_reducible refine Below.allocW ?_ _) | (with_reducible refine Below.drew ?_) | (with_reducible refine Below.extW ?_ _)))⟩
  · rw [if_neg hN]
    rw [if_neg hN] at HW
    have HN := Lib.hid (digest_N · g K l k r F ·)
    have HS := Lib.hid (bound_Sum · g K l k r F · hn)
    obtain ⟨c, hc⟩ : ∃ c : Nat, (sumR r).toNat = c := ⟨_, rfl⟩
    have hc' : sumR r = c := by omega
    rw [hc] at b0 b1 ⊢
    rw [hc'] at HN
    have c1 : 1 ≤ c := by omega
    have c2 : c ≤ 9223372036854775807 := by omega
    have q0 : sumW l false r / c ≤ 281474976710655 := (Nat.div_le_iff_le_mul (by omega)).2 (by omega)
    have q1 : sumW l true r / c ≤ 281474976710655 := (Nat.div_le_iff_le_mul (by omega)).2 (by omega)
    generalize sumW l false r = n at HS q0 ⊢
    generalize sumW l true r = m at HS q1 ⊢
    have O0 := Lib.hid (reckon_Over · n c c1 c2 (by omega))
    have O1 := Lib.hid (reckon_Over · m c c1 c2 (by omega))
    unfold wideV at HS O0 O1
    generalize n % 18446744073709551616 = n0 at HS O0
    generalize n / 18446744073709551616 = n1 at HS O0
    generalize m % 18446744073709551616 = m0 at HS O1
    generalize m / 18446744073709551616 = m1 at HS O1
    generalize n / c = u at O0 q0 ⊢
    generalize m / c = v at O1 q1 ⊢
    generalize decide (0 < n % c) = nb at O0
    clear hN b0 b1 hc hc' hs0 hs1
    cases hd : decide (0 < m % c)
    all_goals
      rw [hd] at O1
      simp only [decide_eq_true_eq, decide_eq_false_iff_not] at hd
      first | rw [if_pos (show m % c = 0 by omega)] | rw [if_neg (show ¬ m % c = 0 by omega)]
      clear hd
      go_enter Tryz.func37, Tryz.ntmps37
      go_wp2_with fail
      refine (HW.out _ HD.out).mono ?_
      rintro e w1 ⟨rfl, hb1⟩
      have B1 : Below w.heap.size w w1 := Below.then_ (by repeat (first | with_reducible exact Below.refl _ _ | with_reducible assumption | ((with_reducible refine Below.setCell ?_ ?_ _); rotate_left; · (first | omega | exact Nat.le_refl _ | (simp <;> omega))) | (with_reducible refine Below.allocW ?_ _) | (with_reducible refine Below.drew ?_) | (with_reducible refine Below.extW ?_ _))) hb1
      have s1 : w.heap.size ≤ w1.heap.size := B1.size
      have z1_0 : w.heap.size < w1.heap.size := by have := hb1.size; (try simp at this); omega
      have y1_0 : w.heap.size ≤ w1.heap.size := Nat.le_of_lt z1_0
      have c1_0 := fun o => hb1.cell (p := ⟨w.heap.size, o, none⟩) (by first | omega | (simp <;> omega))
      have f1_0 := fun o => hb1.frozen (p := ⟨w.heap.size, o, none⟩) (by first | omega | (simp <;> omega))
      have HD1 := Lib.hid (HD.out.below hb1)
      have N1 := Lib.hid ((bothAt.new w 0 0).below hb1)
      go_wp2_with fail
      refine (HS.out _ HD1.out).mono ?_
      rintro e w2 ⟨rfl, hb2⟩
      have B2 : Below w.heap.size w w2 := Below.then_ (by repeat (first | with_reducible exact Below.refl _ _ | with_reducible assumption | ((with_reducible refine Below.setCell ?_ ?_ _); rotate_left; · (first | omega | exact Nat.le_refl _ | (simp <;> omega))) | (with_reducible refine Below.allocW ?_ _) | (with_reducible refine Below.drew ?_) | (with_reducible refine Below.extW ?_ _))) hb2
      have s2 : w.heap.size ≤ w2.heap.size := B2.size
      have z2_0 : w.heap.size < w2.heap.size := by have := hb2.size; (try simp at this); omega
      have y2_0 : w.heap.size ≤ w2.heap.size := Nat.le_of_lt z2_0
      have c2_0 := fun o => hb2.cell (p := ⟨w.heap.size, o, none⟩) (by first | omega | (simp <;> omega))
      have f2_0 := fun o => hb2.frozen (p := ⟨w.heap.size, o, none⟩) (by first | omega | (simp <;> omega))
      have N2 := Lib.hid (((N1.out.below hb2).alloc (.cells #[.int .u64 n0, .int .u64 n1] 60)).alloc (.cells #[.int .u64 m0, .int .u64 m1] 60))
      have HD2 := Lib.hid (((HD1.out.below hb2).alloc (.cells #[.int .u64 n0, .int .u64 n1] 60)).alloc (.cells #[.int .u64 m0, .int .u64 m1] 60))
      go_wp2_with fail
      refine wp_region_ext (by kernel_rfl) (by kernel_rfl) ?_
      repeat (go_big_quiet_step (first
        | (go_at_call 21; exact quiet_ext (HN.out _ (HD2.out.below (ext_below _ _))))
        | (go_at_call 95; exact quiet_ext (O0.out _))))
      refine wpQuiet_nil ?_
      intro w3 hb3
      replace hb3 := below_of_ext hb3
      have B3 : Below w.heap.size w w3 := Below.then_ (by repeat (first | with_reducible exact Below.refl _ _ | with_reducible assumption | ((with_reducible refine Below.setCell ?_ ?_ _); rotate_left; · (first | omega | exact Nat.le_refl _ | (simp <;> omega))) | (with_reducible refine Below.allocW ?_ _) | (with_reducible refine Below.drew ?_) | (with_reducible refine Below.extW ?_ _))) hb3
      have s3 : w.heap.size ≤ w3.heap.size := B3.size
      have z3_0 : w.heap.size < w3.heap.size := by have := hb3.size; (try simp at this); omega
      have y3_0 : w.heap.size ≤ w3.heap.size := Nat.le_of_lt z3_0
      have c3_0 := fun o => hb3.cell (p := ⟨w.heap.size, o, none⟩) (by first | omega | (simp <;> omega))
      have f3_0 := fun o => hb3.frozen (p := ⟨w.heap.size, o, none⟩) (by first | omega | (simp <;> omega))
      have z3_1 : w2.heap.size + 1 < w3.heap.size := by have := hb3.size; (try simp at this); omega
      have y3_1 : w2.heap.size + 1 ≤ w3.heap.size := Nat.le_of_lt z3_1
      have c3_1 := fun o => hb3.cell (p := ⟨w2.heap.size + 1, o, none⟩) (by first | omega | (simp <;> omega))
      have f3_1 := fun o => hb3.frozen (p := ⟨w2.heap.size + 1, o, none⟩) (by first | omega | (simp <;> omega))
      have HD3 := Lib.hid (HD2.out.below hb3)
      have N3 := Lib.hid (N2.out.below hb3)
      go_wp2_with fail
      refine wp_region_ext (by kernel_rfl) (by kernel_rfl) ?_
      repeat (go_big_quiet_step (first
        | (go_at_call 21; exact quiet_ext (HN.out _ (HD3.out.below (ext_below _ _))))
        | (go_at_call 95; exact quiet_ext (O1.out _))))
      refine wpQuiet_nil ?_
      intro w4 hb4
      replace hb4 := below_of_ext hb4
      have B4 : Below w.heap.size w w4 := Below.then_ (by repeat (first | with_reducible exact Below.refl _ _ | with_reducible assumption | ((with_reducible refine Below.setCell ?_ ?_ _); rotate_left; · (first | omega | exact Nat.le_refl _ | (simp <;> omega))) | (with_reducible refine Below.allocW ?_ _) | (with_reducible refine Below.drew ?_) | (with_reducible refine Below.extW ?_ _))) hb4
      have s4 : w.heap.size ≤ w4.heap.size := B4.size
      have N4 := N3.out.below hb4
      have cc := blk_cell N4
      have cf := blk_frozen N4
      have zz := lt_of_block N4
      clear N4
      go_wp2_with fail
      first
        | exact bodyPost_ret (v := .tuple #[.agg #[.int .i64 u, .int .i64 (v + 0 : Nat)], .int .i64 0]) (by simp only [results, Tryz.results37]; go_simp) rfl ⟨rfl, (by repeat (first | with_reducible exact Below.refl _ _ | with_reducible assumption | ((with_reducible refine Below.setCell ?_ ?_ _); rotate_left; · (first | omega | exact Nat.le_refl _ | (simp <;> omega))) | (with_reducible refine Below.allocW ?_ _) | (with_reducible refine Below.drew ?_) | (with_reducible refine Below.extW ?_ _)))⟩
        | exact bodyPost_ret (v := .tuple #[.agg #[.int .i64 u, .int .i64 (v + 1 : Nat)], .int .i64 0]) (by simp only [results, Tryz.results37]; go_simp) rfl ⟨rfl, (by repeat (first | with_reducible exact Below.refl _ _ | with_reducible assumption | ((with_reducible refine Below.setCell ?_ ?_ _); rotate_left; · (first | omega | exact Nat.le_refl _ | (simp <;> omega))) | (with_reducible refine Below.allocW ?_ _) | (with_reducible refine Below.drew ?_) | (with_reducible refine Below.extW ?_ _)))⟩
end Go.Proofs.YtbmmkhbdcaokkaaGreat
/- Package bound: Worst, Spread. -/
namespace Go.Proofs.YtbmmkhbdcaokkaaGreat
open Go.ChangeShapes Go.WideShapes Go.ChangeAt Go.RowKit
set_option linter.unusedVariables false
set_option maxRecDepth 100000

/-- A number in a block. -/
def intAt (w : World) (b : Nat) (x : Int) : Prop := w.heap[b]? = some (.cells #[.int .i64 x] 3 (0, 0))
theorem intAt.below {w w' : World} {b : Nat} {x : Int} (h : intAt w b x) (hb : Below w.heap.size w w') : intAt w' b x := blk_below h hb
theorem intAt.alloc {w : World} {b : Nat} {x : Int} (h : intAt w b x) (o : Obj) : intAt (w.alloc o) b x := h.below ((Below.refl _ _).alloc (Nat.le_refl _) o)
theorem intAt.set {w : World} {b q o : Nat} {x : Int} (h : intAt w b x) (hne : b ≠ q) (u : Value) : intAt (w.setCell ⟨q, o, none⟩ u) b x := (Below.heap_setCell _ _ _ _ hne).trans h
theorem intAt.put {w : World} {b : Nat} {x : Int} (h : intAt w b x) (y : Int) : intAt (w.setCell ⟨b, 0, none⟩ (.int .i64 y)) b y := heap_set_at (i := 0) h _
theorem intAt.ty {w : World} {b : Nat} {x : Int} (h : intAt w b x) : TypeAt w b 3 := .of h
/-- Where least is told, and how little: one number more. -/
def worstStep (a : Int × Int) (at_ n : Int) : Int × Int := if a.2 < n ∨ n = a.2 ∧ at_ < a.1 then (at_, n) else a
/-- What became of the world. -/
def TryEnd (w : World) (bx bg : Nat) (r : Int × Int) (w' : World) : Prop :=
  intAt w' bx r.1 ∧ intAt w' bg r.2 ∧ KeepN w w' ∧ (∀ C, C ≤ bx → C ≤ bg → C ≤ w.heap.size → Below C w w') ∧ (∀ b, b < w.heap.size → b ≠ bx → b ≠ bg → w'.heap[b]? = w.heap[b]?)
theorem try_same {w w1 : World} {bx bg : Nat} {x gp : Int} (hb : Below w.heap.size w w1) (X : intAt w1 bx x) (G : intAt w1 bg gp) (o : Obj) : TryEnd w bx bg (x, gp) (w1.alloc o) :=
  have hB := hb.alloc hb.size o
  ⟨X.alloc o, G.alloc o, KeepN.of_below hB, fun C _ _ h => hB.mono h, fun b h _ _ => hB.block b h⟩
theorem try_put {w w1 : World} {bx bg : Nat} {x gp : Int} (hb : Below w.heap.size w w1) (X : intAt w1 bx x) (G : intAt w1 bg gp) (hne : bg ≠ bx) (o : Obj) (a n : Int) :
    TryEnd w bx bg (a, n) (((w1.setCell ⟨bx, 0, none⟩ (.int .i64 a)).setCell ⟨bg, 0, none⟩ (.int .i64 n)).alloc o) :=
  ⟨((X.put a).set hne.symm _).alloc o, ((G.set hne _).put n).alloc o, (((KeepN.of_below hb).setT X.ty (by decide) _).setT (G.set hne _).ty (by decide) _).more ((Below.refl _ _).alloc (Nat.le_refl _) o),
    fun C h1 h2 h3 => (((hb.mono h3).setCell (p := ⟨bx, 0, none⟩) h1 _).setCell (p := ⟨bg, 0, none⟩) h2 _).alloc (by have := hb.size; simp only [World.size_setCell]; omega) o,
    fun b h h1 h2 => (Below.heap_alloc _ o b (by have := hb.size; simp only [World.size_setCell]; omega)).trans ((Below.heap_setCell _ _ _ _ h2).trans ((Below.heap_setCell _ _ _ _ h1).trans (hb.block b h)))⟩
set_option maxHeartbeats 1000000 in
theorem bound_try (w : World) (L B g : Nat) (m : Int) (lt ft : List Nd) (at_ x gp : Int) (bt bg bx : Nat) (hT : TabAt w L B g m lt ft) (hBw : B ≤ w.heap.size) (hm : lt.length ≤ 67108864) (hr : lt.Pairwise fun a b => a.1 < b.1) (hm2 : ft.length ≤ 67108864) (hr2 : ft.Pairwise fun a b => a.1 < b.1)
    (ht : w.heap[bt]? = some (.cells #[.pointer (some ⟨g, 0, none⟩)] 126 (0, 0))) (hg : intAt w bg gp) (hx : intAt w bx x) (hne : bg ≠ bx) (hlo : -72057594037927936 ≤ upT ft at_ - upT lt at_) (hhi : upT ft at_ - upT lt at_ ≤ 72057594037927936) :
    Calls Tryz.prog 107 #[.int .i64 at_, .pointer (some ⟨bt, 0, none⟩), .pointer (some ⟨bg, 0, none⟩), .pointer (some ⟨bx, 0, none⟩)] w fun e w' => e = .returned (.tuple #[]) ∧ TryEnd w bx bg (worstStep (x, gp) at_ (upT ft at_ - upT lt at_)) w' := by
  have HB := Lib.hid (table_Both at_ hT hBw hm hr hm2 hr2)
  have ct := blk_cell ht
  have zt := lt_of_block ht
  have zg := lt_of_block hg
  have zx := lt_of_block hx
  have HG := Lib.hid hg
  have HX := Lib.hid hx
  generalize upT lt at_ = lo at HB hlo hhi ⊢
  generalize upT ft at_ = hi at HB hlo hhi ⊢
  clear hT hr hr2 ht hg hx
  by_cases c1 : gp < hi - lo
  · rw [show worstStep (x, gp) at_ (hi - lo) = (at_, hi - lo) by unfold worstStep; rw [if_pos (.inl c1)]]
    go_enter Tryz.func107, Tryz.ntmps107
    go_wp2_with fail
    refine HB.out.mono ?_
    rintro e w1 ⟨rfl, hb1⟩
    have s1 := hb1.size
    have G1 := HG.out.below hb1
    have X1 := HX.out.below hb1
    have cg := blk_cell G1
    have cgf := blk_frozen G1
    have cx := blk_cell X1
    have cxf := blk_frozen X1
    have KG := Lib.hid G1
    have KX := Lib.hid X1
    clear G1 X1
    have zg1 : bg < w1.heap.size := by omega
    have zx1 : bx < w1.heap.size := by omega
    have hne2 : bx ≠ bg := hne.symm
    go_wp2_with fail
    go_end0
    exact ⟨rfl, try_put hb1 KX.out KG.out hne _ _ _⟩
  · by_cases c2 : hi - lo = gp
    · subst c2
      have c3 : (hi - lo == hi - lo) = true := by simp
      by_cases c4 : at_ < x
      · rw [show worstStep (x, hi - lo) at_ (hi - lo) = (at_, hi - lo) by unfold worstStep; rw [if_pos (.inr ⟨rfl, c4⟩)]]
        go_enter Tryz.func107, Tryz.ntmps107
        go_wp2_with fail
        refine HB.out.mono ?_
        rintro e w1 ⟨rfl, hb1⟩
        have s1 := hb1.size
        have G1 := HG.out.below hb1
        have X1 := HX.out.below hb1
        have cg := blk_cell G1
        have cgf := blk_frozen G1
        have cx := blk_cell X1
        have cxf := blk_frozen X1
        have KG := Lib.hid G1
        have KX := Lib.hid X1
        clear G1 X1
        have zg1 : bg < w1.heap.size := by omega
        have zx1 : bx < w1.heap.size := by omega
        have hne2 : bx ≠ bg := hne.symm
        go_wp2_with fail
        go_end0
        exact ⟨rfl, try_put hb1 KX.out KG.out hne _ _ _⟩
      · rw [show worstStep (x, hi - lo) at_ (hi - lo) = (x, hi - lo) by unfold worstStep; rw [if_neg (by simp; omega)]]
        go_enter Tryz.func107, Tryz.ntmps107
        go_wp2_with fail
        refine HB.out.mono ?_
        rintro e w1 ⟨rfl, hb1⟩
        have s1 := hb1.size
        have G1 := HG.out.below hb1
        have X1 := HX.out.below hb1
        have cg := blk_cell G1
        have cgf := blk_frozen G1
        have cx := blk_cell X1
        have cxf := blk_frozen X1
        have KG := Lib.hid G1
        have KX := Lib.hid X1
        clear G1 X1
        have zg1 : bg < w1.heap.size := by omega
        have zx1 : bx < w1.heap.size := by omega
        have hne2 : bx ≠ bg := hne.symm
        go_wp2_with fail
        go_end0
        exact ⟨rfl, try_same hb1 KX.out KG.out _⟩
    · have c3 : (hi - lo == gp) = false := by simpa using c2
      rw [show worstStep (x, gp) at_ (hi - lo) = (x, gp) by unfold worstStep; rw [if_neg (by simp; omega)]]
      clear c2
      go_enter Tryz.func107, Tryz.ntmps107
      go_wp2_with fail
      refine HB.out.mono ?_
      rintro e w1 ⟨rfl, hb1⟩
      have s1 := hb1.size
      have G1 := HG.out.below hb1
      have X1 := HX.out.below hb1
      have cg := blk_cell G1
      have cgf := blk_frozen G1
      have cx := blk_cell X1
      have cxf := blk_frozen X1
      have KG := Lib.hid G1
      have KX := Lib.hid X1
      clear G1 X1
      have zg1 : bg < w1.heap.size := by omega
      have zx1 : bx < w1.heap.size := by omega
      have hne2 : bx ≠ bg := hne.symm
      go_wp2_with fail
      go_end0
      exact ⟨rfl, try_same hb1 KX.out KG.out _⟩
end Go.Proofs.YtbmmkhbdcaokkaaGreat
/- Package bound: Worst. -/
namespace Go.Proofs.YtbmmkhbdcaokkaaGreat
open Go.ChangeShapes Go.WideShapes Go.ChangeAt Go.RowKit
set_option linter.unusedVariables false
set_option maxRecDepth 100000

@[go_sem] theorem run_store_func (P : Program) (w : World) (a : Addr) (m : Mode) (f : Fn) (ts : Array Value) (cs : Array Value) : (store a (.func f ts cs) m).run P w = stored P w a (.func f ts cs) m := run_store P w a _ m rfl
def gapAt (l : Int) (r : List Nd) (x : Int) : Int := highOf l r x - lowOf l r x
/-- The worst behind some nodes. -/
def worstPre (l : Int) (r : List Nd) (p : List Nd) : Int × Int := p.foldl (fun a x => worstStep a (endsOf l x.1).1 (gapAt l r (endsOf l x.1).1)) (worstStep (0, 0) 0 (gapAt l r 0))
theorem worstPre_succ {l : Int} {r : List Nd} {q : Nat} (h : q < r.length) : worstPre l r (r.take (q + 1)) = worstStep (worstPre l r (r.take q)) (endsOf l r[q].1).1 (gapAt l r (endsOf l r[q].1).1) := by
  unfold worstPre
  rw [List.take_succ_eq_append_getElem h, List.foldl_append]; rfl
theorem bound_Worst2 (w : World) (lo hi c : Int) (bt bg bx bf : Nat) (R : World → Prop) (hf : w.heap[bf]? = some (.cells #[.func (.func 107) #[] #[.pointer (some ⟨bt, 0, none⟩), .pointer (some ⟨bg, 0, none⟩), .pointer (some ⟨bx, 0, none⟩)]] 124 (0, 0)))
    (hC : Calls Tryz.prog 107 #[.int .i64 lo, .pointer (some ⟨bt, 0, none⟩), .pointer (some ⟨bg, 0, none⟩), .pointer (some ⟨bx, 0, none⟩)] w fun e w' => e = .returned (.tuple #[]) ∧ R w') :
    Calls Tryz.prog 109 #[.int .i64 lo, .int .i64 hi, .int .i64 c, .pointer (some ⟨bf, 0, none⟩)] w fun e w' => e = .returned (.tuple #[]) ∧ R w' := by
  have cf := blk_cell hf
  have zf := lt_of_block hf
  have HC := Lib.hid hC
  clear hf hC
  go_enter Tryz.func109, Tryz.ntmps109
  go_wp2_with fail
  refine HC.out.mono ?_
  rintro e w1 ⟨rfl, hR⟩
  have HR := Lib.hid hR
  clear hR
  go_wp2_with fail
  go_end0
  exact ⟨rfl, HR.out⟩
/-- What stands in memory behind some nodes. -/
structure WorstI (w : World) (l : Int) (r lt ft : List Nd) (L B g bt bg bx bf : Nat) (q : Nat) (W : World) : Prop where
  blw : Below w.heap.size w W
  x : intAt W bx (worstPre l r (r.take q)).1
  gp : intAt W bg (worstPre l r (r.take q)).2
  t : W.heap[bt]? = some (.cells #[.pointer (some ⟨g, 0, none⟩)] 126 (0, 0))
  f : W.heap[bf]? = some (.cells #[.func (.func 107) #[] #[.pointer (some ⟨bt, 0, none⟩), .pointer (some ⟨bg, 0, none⟩), .pointer (some ⟨bx, 0, none⟩)]] 124 (0, 0))
  tab : TabAt W L B g (sumR r) lt ft
theorem worstI_stays (w : World) (l : Int) (r lt ft : List Nd) (L B g bt bg bx bf : Nat) (hB : ∀ W q, WorstI w l r lt ft L B g bt bg bx bf q W → B ≤ W.heap.size) : Stays (WorstI w l r lt ft L B g bt bg bx bf) :=
  ⟨fun q W W' h hb => ⟨h.blw.trans (hb.mono h.blw.size), h.x.below hb, h.gp.below hb, blk_below h.t hb, blk_below h.f hb, h.tab.below (hb.mono (hB W q h))⟩⟩
theorem gap_range {l : Int} {r : List Nd} (h : Roll r) (hs : sumR r ≤ 72057594037927935) (x : Int) : -72057594037927936 ≤ gapAt l r x ∧ gapAt l r x ≤ 72057594037927936 := by
  have h1 := weighR_le (l := l) (f := fun _ hi => decide (hi ≤ x)) h
  have h2 := weighR_le (l := l) (f := fun lo _ => decide (lo ≤ x)) h
  unfold gapAt highOf lowOf
  omega
theorem try_at (w : World) (l : Int) (r lt ft : List Nd) (L B g : Nat) (at_ x gp : Int) (bt bg bx : Nat) (hr : Roll r) (hs : sumR r ≤ 72057594037927935) (hn : r.length ≤ 67108864) (htl : Tab (lastL l r) lt) (htf : Tab (firstL l r) ft) (hl1 : lt.length ≤ r.length) (hl2 : ft.length ≤ r.length)
    (hT : TabAt w L B g (sumR r) lt ft) (hBw : B ≤ w.heap.size) (ht : w.heap[bt]? = some (.cells #[.pointer (some ⟨g, 0, none⟩)] 126 (0, 0))) (hg : intAt w bg gp) (hx : intAt w bx x) (hne : bg ≠ bx) :
    Calls Tryz.prog 107 #[.int .i64 at_, .pointer (some ⟨bt, 0, none⟩), .pointer (some ⟨bg, 0, none⟩), .pointer (some ⟨bx, 0, none⟩)] w fun e w' => e = .returned (.tuple #[]) ∧ TryEnd w bx bg (worstStep (x, gp) at_ (gapAt l r at_)) w' := by
  have e : upT ft at_ - upT lt at_ = gapAt l r at_ := by rw [htl.upT, htf.upT, low_up, high_up]; rfl
  have hb := gap_range (l := l) hr hs at_
  have := bound_try w L B g (sumR r) lt ft at_ x gp bt bg bx hT hBw (by omega) htl.rise (by omega) htf.rise ht hg hx hne (by rw [e]; exact hb.1) (by rw [e]; exact hb.2)
  rwa [e] at this
def worstT (l : Int) (r : List Nd) : Int × Int × Int := if sumR r = 0 then (0, 0, 7) else ((worstPre l r r).1, (worstPre l r r).2, 0)
def triV (t : Int × Int × Int) : Value := .tuple #[.int .i64 t.1, .int .i64 t.2.1, .int .i64 t.2.2]
theorem enters_Worst2 : ∀ args W, (callFunc 109 args).run Tryz.prog W = .ok (.enter 109 args) W := enters_of Tryz.func109 (by kernel_rfl) rfl
set_option maxHeartbeats 1000000 in
theorem bound_Worst (w : World) (g K l : Nat) (k : Int) (r : List Nd) (F : Nat → Prop) (h : DigAt w g K l k r F) (hn : r.length ≤ 67108864) :
    Calls Tryz.prog 47 #[.pointer (some ⟨g, 0, none⟩)] w fun e w' => e = .returned (triV (worstT l r)) ∧ Below w.heap.size w w' := by
  have HD := Lib.hid ((h.alloc (.cells #[.int .i64 0] 3)).alloc (.cells #[.int .i64 0] 3))
  have HW := Lib.hid (bound_wrong · g K l k r F ·)
  have hfit := h.fits
  have HF := Lib.hid h.lt
  clear h
  unfold triV worstT
  unfold wrongOf at HW
  by_cases hN : sumR r = 0
  · rw [if_pos hN]
    rw [if_pos hN] at HW
    clear hN
    go_enter Tryz.func47, Tryz.ntmps47
    go_wp2_with fail
    refine (HW.out _ HD.out).mono ?_
    rintro e w1 ⟨rfl, hb1⟩
    have B1 : Below w.heap.size w w1 := Below.then_ (by repeat (first | with_reducible exact Below.refl _ _ | with_reducible assumption | ((with_reducible refine Below.setCell ?_ ?_ _); rotate_left; · (first | omega | exact Nat.le_refl _ | (simp <;> omega))) | (with_reducible refine Below.allocW ?_ _) | (with_reducible refine Below.drew ?_) | (with_reducible refine Below.extW ?_ _))) hb1
    have s1 : w.heap.size ≤ w1.heap.size := B1.size
    have z1_0 : w.heap.size < w1.heap.size := by have := hb1.size; (try simp at this); omega
    have y1_0 : w.heap.size ≤ w1.heap.size := Nat.le_of_lt z1_0
    have c1_0 := fun o => hb1.cell (p := ⟨w.heap.size, o, none⟩) (by first | omega | (simp <;> omega))
    have f1_0 := fun o => hb1.frozen (p := ⟨w.heap.size, o, none⟩) (by first | omega | (simp <;> omega))
    have z1_1 : w.heap.size + 1 < w1.heap.size := by have := hb1.size; (try simp at this); omega
    have y1_1 : w.heap.size + 1 ≤ w1.heap.size := Nat.le_of_lt z1_1
    have c1_1 := fun o => hb1.cell (p := ⟨w.heap.size + 1, o, none⟩) (by first | omega | (simp <;> omega))
    have f1_1 := fun o => hb1.frozen (p := ⟨w.heap.size + 1, o, none⟩) (by first | omega | (simp <;> omega))
    go_wp2_with fail
    exact bodyPost_ret (v := .tuple #[.int .i64 0, .int .i64 0, .int .i64 7]) (by simp only [results, Tryz.results47]; go_simp) rfl ⟨rfl, (by repeat (first | with_reducible exact Below.refl _ _ | with_reducible assumption | ((with_reducible refine Below.setCell ?_ ?_ _); rotate_left; · (first | omega | exact Nat.le_refl _ | (simp <;> omega))) | (with_reducible refine Below.allocW ?_ _) | (with_reducible refine Below.drew ?_) | (with_reducible refine Below.extW ?_ _)))⟩
  · rw [if_neg hN]
    rw [if_neg hN] at HW
    clear hN
    have X0 := Lib.hid (show intAt ((w.alloc (.cells #[.int .i64 0] 3)).alloc (.cells #[.int .i64 0] 3)) w.heap.size 0 from (show intAt (w.alloc (.cells #[.int .i64 0] 3)) w.heap.size 0 from heap_alloc_new _ _).alloc _)
    have G0 := Lib.hid (show intAt ((w.alloc (.cells #[.int .i64 0] 3)).alloc (.cells #[.int .i64 0] 3)) (w.heap.size + 1) 0 from heap_new_at _ _ _ (by simp))
    go_enter Tryz.func47, Tryz.ntmps47
    go_wp2_with fail
    refine (HW.out _ HD.out).mono ?_
    rintro e w1 ⟨rfl, hb1⟩
    have B1 : Below w.heap.size w w1 := Below.then_ (by repeat (first | with_reducible exact Below.refl _ _ | with_reducible assumption | ((with_reducible refine Below.setCell ?_ ?_ _); rotate_left; · (first | omega | exact Nat.le_refl _ | (simp <;> omega))) | (with_reducible refine Below.allocW ?_ _) | (with_reducible refine Below.drew ?_) | (with_reducible refine Below.extW ?_ _))) hb1
    have s1 : w.heap.size ≤ w1.heap.size := B1.size
    have z1_0 : w.heap.size < w1.heap.size := by have := hb1.size; (try simp at this); omega
    have y1_0 : w.heap.size ≤ w1.heap.size := Nat.le_of_lt z1_0
    have c1_0 := fun o => hb1.cell (p := ⟨w.heap.size, o, none⟩) (by first | omega | (simp <;> omega))
    have f1_0 := fun o => hb1.frozen (p := ⟨w.heap.size, o, none⟩) (by first | omega | (simp <;> omega))
    have z1_1 : w.heap.size + 1 < w1.heap.size := by have := hb1.size; (try simp at this); omega
    have y1_1 : w.heap.size + 1 ≤ w1.heap.size := Nat.le_of_lt z1_1
    have c1_1 := fun o => hb1.cell (p := ⟨w.heap.size + 1, o, none⟩) (by first | omega | (simp <;> omega))
    have f1_1 := fun o => hb1.frozen (p := ⟨w.heap.size + 1, o, none⟩) (by first | omega | (simp <;> omega))
    have HD1 := Lib.hid (HD.out.below hb1)
    have X1 := Lib.hid (X0.out.below hb1)
    have G1 := Lib.hid (G0.out.below hb1)
    go_wp2_with fail
    refine (rank_Of _ g K l k r F HD1.out hn).mono ?_
    rintro e w2 ⟨tg, lt, ft, rfl, htab, htl, htf, hl1, hl2, hb2⟩
    have B2 : Below w.heap.size w w2 := Below.then_ (by repeat (first | with_reducible exact Below.refl _ _ | with_reducible assumption | ((with_reducible refine Below.setCell ?_ ?_ _); rotate_left; · (first | omega | exact Nat.le_refl _ | (simp <;> omega))) | (with_reducible refine Below.allocW ?_ _) | (with_reducible refine Below.drew ?_) | (with_reducible refine Below.extW ?_ _))) hb2
    have s2 : w.heap.size ≤ w2.heap.size := B2.size
    have X2 := Lib.hid (X1.out.below hb2)
    have G2 := Lib.hid (G1.out.below hb2)
    have HD2 := Lib.hid (HD1.out.below hb2)
    have HT := Lib.hid htab
    have HTL := Lib.hid htl
    have HTF := Lib.hid htf
    have hs1 : w.heap.size + 1 < w1.heap.size := z1_1
    have hs12 := hb2.size
    have BA2 := Lib.hid B2
    clear htab htl htf c1_0 c1_1 f1_0 f1_1
    go_wp2_with fail
    have T3 := Lib.hid (HT.out.below ((Below.refl w2.heap.size w2).alloc (Nat.le_refl _) (.cells #[.pointer (some ⟨tg, 0, none⟩)] 126) |>.alloc (by simp) (.cells #[.func (.func 107) #[] #[.pointer (some ⟨w2.heap.size, 0, none⟩), .pointer (some ⟨w.heap.size + 1, 0, none⟩), .pointer (some ⟨w.heap.size, 0, none⟩)]] 124)))
    have P3 := Lib.hid ((Below.heap_alloc (w2.alloc (.cells #[.pointer (some ⟨tg, 0, none⟩)] 126)) (.cells #[.func (.func 107) #[] #[.pointer (some ⟨w2.heap.size, 0, none⟩), .pointer (some ⟨w.heap.size + 1, 0, none⟩), .pointer (some ⟨w.heap.size, 0, none⟩)]] 124) w2.heap.size (by simp)).trans (heap_alloc_new w2 _))
    have Q3 := Lib.hid (heap_new_at (w2.alloc (.cells #[.pointer (some ⟨tg, 0, none⟩)] 126)) (.cells #[.func (.func 107) #[] #[.pointer (some ⟨w2.heap.size, 0, none⟩), .pointer (some ⟨w.heap.size + 1, 0, none⟩), .pointer (some ⟨w.heap.size, 0, none⟩)]] 124) (w2.heap.size + 1) (by simp))
    have hszW : ((w2.alloc (.cells #[.pointer (some ⟨tg, 0, none⟩)] 126)).alloc (.cells #[.func (.func 107) #[] #[.pointer (some ⟨w2.heap.size, 0, none⟩), .pointer (some ⟨w.heap.size + 1, 0, none⟩), .pointer (some ⟨w.heap.size, 0, none⟩)]] 124)).heap.size = w2.heap.size + 1 + 1 := by simp
    have B3 := Lib.hid (BA2.out.alloc s2 (.cells #[.pointer (some ⟨tg, 0, none⟩)] 126) |>.alloc (by simp; omega) (.cells #[.func (.func 107) #[] #[.pointer (some ⟨w2.heap.size, 0, none⟩), .pointer (some ⟨w.heap.size + 1, 0, none⟩), .pointer (some ⟨w.heap.size, 0, none⟩)]] 124))
    have X3 := Lib.hid ((X2.out.alloc (.cells #[.pointer (some ⟨tg, 0, none⟩)] 126)).alloc (.cells #[.func (.func 107) #[] #[.pointer (some ⟨w2.heap.size, 0, none⟩), .pointer (some ⟨w.heap.size + 1, 0, none⟩), .pointer (some ⟨w.heap.size, 0, none⟩)]] 124))
    have G3 := Lib.hid ((G2.out.alloc (.cells #[.pointer (some ⟨tg, 0, none⟩)] 126)).alloc (.cells #[.func (.func 107) #[] #[.pointer (some ⟨w2.heap.size, 0, none⟩), .pointer (some ⟨w.heap.size + 1, 0, none⟩), .pointer (some ⟨w.heap.size, 0, none⟩)]] 124))
    have HD3 := Lib.hid ((HD2.out.alloc (.cells #[.pointer (some ⟨tg, 0, none⟩)] 126)).alloc (.cells #[.func (.func 107) #[] #[.pointer (some ⟨w2.heap.size, 0, none⟩), .pointer (some ⟨w.heap.size + 1, 0, none⟩), .pointer (some ⟨w.heap.size, 0, none⟩)]] 124))
    generalize (w2.alloc (.cells #[.pointer (some ⟨tg, 0, none⟩)] 126)).alloc (.cells #[.func (.func 107) #[] #[.pointer (some ⟨w2.heap.size, 0, none⟩), .pointer (some ⟨w.heap.size + 1, 0, none⟩), .pointer (some ⟨w.heap.size, 0, none⟩)]] 124) = W3 at T3 P3 Q3 B3 X3 G3 HD3 hszW ⊢
    refine (try_at W3 l r lt ft _ _ tg 0 0 0 w2.heap.size (w.heap.size + 1) w.heap.size hfit.roll hfit.sum hn HTL.out HTF.out hl1 hl2 T3.out (by omega) P3.out G3.out X3.out (by omega)).mono ?_
    rintro e w4 ⟨rfl, x4, g4, k4, b4, o4⟩
    have I4 : Hid (WorstI w l r lt ft w1.heap.size w2.heap.size tg w2.heap.size (w.heap.size + 1) w.heap.size (w2.heap.size + 1) 0 w4) := Lib.hid
      ⟨B3.out.trans (b4 _ (Nat.le_refl _) (by omega) (by omega)), x4, g4, (o4 _ (by omega) (by omega) (by omega)).trans P3.out, (o4 _ (by omega) (by omega) (by omega)).trans Q3.out, T3.out.keep fun b h1 h2 => o4 b (by omega) (by omega) (by omega)⟩
    have hsz4 : w2.heap.size + 1 + 1 ≤ w4.heap.size := by have := (b4 0 (Nat.zero_le _) (Nat.zero_le _) (Nat.zero_le _)).size; omega
    have D4 : Hid (DigAt w4 g K l k r F) := Lib.hid (HD3.out.keep fun b hb => o4 b (by have := HF.out b hb; omega) (by have := HF.out b hb; omega) (by have := HF.out b hb; omega))
    clear x4 g4 k4 b4 o4
    go_wp2_with fail
    have hB : ∀ W q, WorstI w l r lt ft w1.heap.size w2.heap.size tg w2.heap.size (w.heap.size + 1) w.heap.size (w2.heap.size + 1) q W → w2.heap.size ≤ W.heap.size := fun W q h => by
      have := lt_of_block h.f; omega
    have HB := Lib.hid hB
    clear hB
    refine (bound_each _ g K l k r F D4.out hn 109 #[.pointer (some ⟨w2.heap.size + 1, 0, none⟩)] enters_Worst2 (WorstI w l r lt ft w1.heap.size w2.heap.size tg w2.heap.size (w.heap.size + 1) w.heap.size (w2.heap.size + 1)) (worstI_stays _ _ _ _ _ _ _ _ _ _ _ _ HB.out) I4.out ?_).mono ?_
    · intro q hq W hI
      have hsW := HB.out W q hI
      have hsF := lt_of_block hI.f
      refine (bound_Worst2 W (endsOf l r[q].1).1 (endsOf l r[q].1).2.1 r[q].2 _ _ _ _ _ hI.f (try_at W l r lt ft _ _ tg (endsOf l r[q].1).1 _ _ w2.heap.size (w.heap.size + 1) w.heap.size hfit.roll hfit.sum hn HTL.out HTF.out hl1 hl2 hI.tab hsW hI.t hI.gp hI.x (by omega))).mono ?_
      rintro e W' ⟨rfl, x5, g5, k5, b5, o5⟩
      rw [← worstPre_succ hq] at x5 g5
      exact ⟨rfl, ⟨hI.blw.trans (b5 _ (Nat.le_refl _) (by omega) (by omega)), x5, g5, (o5 _ (by omega) (by omega) (by omega)).trans hI.t, (o5 _ (by omega) (by omega) (by omega)).trans hI.f, hI.tab.keep fun b h1 h2 => o5 b (by omega) (by omega) (by omega)⟩, k5⟩
    · rintro e w5 ⟨rfl, hI, hs5⟩
      have i2 := hI.x
      have i3 := hI.gp
      have B5 := hI.blw
      simp only [List.take_length] at i2 i3
      have cc := blk_cell i3
      have cf := blk_frozen i3
      have c0 := blk_cell i2
      have f0 := blk_frozen i2
      have z0 := lt_of_block i2
      have z1 := lt_of_block i3
      clear i2 i3 hI
      go_wp2_with fail
      go_region
      all_goals go_wp2_with fail
      all_goals exact bodyPost_ret (v := .tuple #[.int .i64 (worstPre l r r).1, .int .i64 (worstPre l r r).2, .int .i64 0]) (by simp only [results, Tryz.results47]; go_simp) rfl ⟨rfl, (by repeat (first | with_reducible exact Below.refl _ _ | with_reducible assumption | ((with_reducible refine Below.setCell ?_ ?_ _); rotate_left; · (first | omega | exact Nat.le_refl _ | (simp <;> omega))) | (with_reducible refine Below.allocW ?_ _) | (with_reducible refine Below.drew ?_) | (with_reducible refine Below.extW ?_ _)))⟩
end Go.Proofs.YtbmmkhbdcaokkaaGreat
/- Which of two products is greater: package reckon, and the reference of layer 1. -/
namespace Go.Proofs.YtbmmkhbdcaokkaaGreat
open Go.ChangeShapes Go.WideShapes Go.ChangeAt Go.RowKit
set_option linter.unusedVariables false
set_option maxRecDepth 100000

def ordV (a b c d : Nat) : Int := cmpV (a * b) (c * d)
theorem reckon_Order (w : World) (a b c d : Nat) (ha : a ≤ 9223372036854775807) (hb : b ≤ 9223372036854775807) (hc : c ≤ 9223372036854775807) (hd : d ≤ 9223372036854775807) :
    Calls Tryz.prog 110 #[.int .i64 a, .int .i64 b, .int .i64 c, .int .i64 d] w fun e w' => e = .returned (.tuple #[.int .i64 (ordV a b c d), .bool true]) ∧ Below w.heap.size w w' := by
  have HC1 := Lib.hid (show decide (0 ≤ (a : Int) ∧ 0 ≤ (b : Int)) = true by simp)
  have HC2 := Lib.hid (show decide (0 ≤ (c : Int) ∧ 0 ≤ (d : Int)) = true by simp)
  have HM1 : Hid (∀ W, Calls Tryz.prog 156 #[.int .u64 a, .int .u64 b] W fun e w' => e = .returned (.tuple #[.int .u64 (a * b / 18446744073709551616 : Nat), .int .u64 (a * b % 18446744073709551616 : Nat)]) ∧ w' = W) := Lib.hid fun W => Tryz.bits_Mul64 a b (by omega) (by omega) W
  have HM2 : Hid (∀ W, Calls Tryz.prog 156 #[.int .u64 c, .int .u64 d] W fun e w' => e = .returned (.tuple #[.int .u64 (c * d / 18446744073709551616 : Nat), .int .u64 (c * d % 18446744073709551616 : Nat)]) ∧ w' = W) := Lib.hid fun W => Tryz.bits_Mul64 c d (by omega) (by omega) W
  have h1 : a * b ≤ 9223372036854775807 * 9223372036854775807 := Nat.mul_le_mul ha hb
  have h2 : c * d ≤ 9223372036854775807 * 9223372036854775807 := Nat.mul_le_mul hc hd
  have e1 : ordV a b c d = cmpV (a * b) (c * d) := rfl
  rw [e1]
  clear e1
  generalize a * b = m at HM1 h1 ⊢
  generalize c * d = n at HM2 h2 ⊢
  have f1 : m = 18446744073709551616 * (m / 18446744073709551616) + m % 18446744073709551616 := by omega
  have f2 : n = 18446744073709551616 * (n / 18446744073709551616) + n % 18446744073709551616 := by omega
  have g1 : m / 18446744073709551616 ≤ 18446744073709551615 := by omega
  have g2 : n / 18446744073709551616 ≤ 18446744073709551615 := by omega
  have g3 : m % 18446744073709551616 ≤ 18446744073709551615 := by omega
  have g4 : n % 18446744073709551616 ≤ 18446744073709551615 := by omega
  generalize m / 18446744073709551616 = p at HM1 f1 g1
  generalize m % 18446744073709551616 = q at HM1 f1 g3
  generalize n / 18446744073709551616 = r at HM2 f2 g2
  generalize n % 18446744073709551616 = s at HM2 f2 g4
  rcases (show p < r ∨ (p = r ∧ q < s) ∨ (r < p) ∨ (p = r ∧ s < q) ∨ (p = r ∧ q = s) by omega) with k | ⟨k, k2⟩ | k | ⟨k, k2⟩ | ⟨k, k2⟩
  · rw [cmpV_less (by omega)]
    clear f1 f2 h1 h2
    go_enter Tryz.func110, Tryz.ntmps110
    go_wp2_with fail
    refine (reckon_counts _ a b).mono ?_
    rintro e w1 ⟨rfl, hb1⟩
    have B1 : Below w.heap.size w w1 := Below.then_ (by repeat (first | with_reducible exact Below.refl _ _ | with_reducible assumption | ((with_reducible refine Below.setCell ?_ ?_ _); rotate_left; · (first | omega | exact Nat.le_refl _ | (simp <;> omega))) | (with_reducible refine Below.allocW ?_ _) | (with_reducible refine Below.drew ?_) | (with_reducible refine Below.extW ?_ _))) hb1
    have s1 : w.heap.size ≤ w1.heap.size := B1.size
    rw [HC1.out]
    go_wp2_with fail
    refine (reckon_counts _ c d).mono ?_
    rintro e w2 ⟨rfl, hb2⟩
    have B2 : Below w.heap.size w w2 := Below.then_ (by repeat (first | with_reducible exact Below.refl _ _ | with_reducible assumption | ((with_reducible refine Below.setCell ?_ ?_ _); rotate_left; · (first | omega | exact Nat.le_refl _ | (simp <;> omega))) | (with_reducible refine Below.allocW ?_ _) | (with_reducible refine Below.drew ?_) | (with_reducible refine Below.extW ?_ _))) hb2
    have s2 : w.heap.size ≤ w2.heap.size := B2.size
    rw [HC2.out]
    go_wp2_with fail
    refine (HM1.out _).mono ?_
    rintro e w3 ⟨rfl, rfl⟩
    go_wp2_with fail
    refine (HM2.out _).mono ?_
    rintro e w4 ⟨rfl, rfl⟩
    go_wp2_with fail
    go_ret2
    exact ⟨rfl, (by repeat (first | with_reducible exact Below.refl _ _ | with_reducible assumption | ((with_reducible refine Below.setCell ?_ ?_ _); rotate_left; · (first | omega | exact Nat.le_refl _ | (simp <;> omega))) | (with_reducible refine Below.allocW ?_ _) | (with_reducible refine Below.drew ?_) | (with_reducible refine Below.extW ?_ _)))⟩
  · subst k
    rw [cmpV_less (by omega)]
    clear f1 f2 h1 h2
    go_enter Tryz.func110, Tryz.ntmps110
    go_wp2_with fail
    refine (reckon_counts _ a b).mono ?_
    rintro e w1 ⟨rfl, hb1⟩
    have B1 : Below w.heap.size w w1 := Below.then_ (by repeat (first | with_reducible exact Below.refl _ _ | with_reducible assumption | ((with_reducible refine Below.setCell ?_ ?_ _); rotate_left; · (first | omega | exact Nat.le_refl _ | (simp <;> omega))) | (with_reducible refine Below.allocW ?_ _) | (with_reducible refine Below.drew ?_) | (with_reducible refine Below.extW ?_ _))) hb1
    have s1 : w.heap.size ≤ w1.heap.size := B1.size
    rw [HC1.out]
    go_wp2_with fail
    refine (reckon_counts _ c d).mono ?_
    rintro e w2 ⟨rfl, hb2⟩
    have B2 : Below w.heap.size w w2 := Below.then_ (by repeat (first | with_reducible exact Below.refl _ _ | with_reducible assumption | ((with_reducible refine Below.setCell ?_ ?_ _); rotate_left; · (first | omega | exact Nat.le_refl _ | (simp <;> omega))) | (with_reducible refine Below.allocW ?_ _) | (with_reducible refine Below.drew ?_) | (with_reducible refine Below.extW ?_ _))) hb2
    have s2 : w.heap.size ≤ w2.heap.size := B2.size
    rw [HC2.out]
    go_wp2_with fail
    refine (HM1.out _).mono ?_
    rintro e w3 ⟨rfl, rfl⟩
    go_wp2_with fail
    refine (HM2.out _).mono ?_
    rintro e w4 ⟨rfl, rfl⟩
    go_wp2_with fail
    go_ret2
    exact ⟨rfl, (by repeat (first | with_reducible exact Below.refl _ _ | with_reducible assumption | ((with_reducible refine Below.setCell ?_ ?_ _); rotate_left; · (first | omega | exact Nat.le_refl _ | (simp <;> omega))) | (with_reducible refine Below.allocW ?_ _) | (with_reducible refine Below.drew ?_) | (with_reducible refine Below.extW ?_ _)))⟩
  · rw [cmpV_more (by omega)]
    have j1 : decide ((p : Int) < (r : Int)) = false := by simp; omega
    have j2 : ((p : Int) == (r : Int)) = false := by simp; omega
    clear f1 f2 h1 h2
    go_enter Tryz.func110, Tryz.ntmps110
    go_wp2_with fail
    refine (reckon_counts _ a b).mono ?_
    rintro e w1 ⟨rfl, hb1⟩
    have B1 : Below w.heap.size w w1 := Below.then_ (by repeat (first | with_reducible exact Below.refl _ _ | with_reducible assumption | ((with_reducible refine Below.setCell ?_ ?_ _); rotate_left; · (first | omega | exact Nat.le_refl _ | (simp <;> omega))) | (with_reducible refine Below.allocW ?_ _) | (with_reducible refine Below.drew ?_) | (with_reducible refine Below.extW ?_ _))) hb1
    have s1 : w.heap.size ≤ w1.heap.size := B1.size
    rw [HC1.out]
    go_wp2_with fail
    refine (reckon_counts _ c d).mono ?_
    rintro e w2 ⟨rfl, hb2⟩
    have B2 : Below w.heap.size w w2 := Below.then_ (by repeat (first | with_reducible exact Below.refl _ _ | with_reducible assumption | ((with_reducible refine Below.setCell ?_ ?_ _); rotate_left; · (first | omega | exact Nat.le_refl _ | (simp <;> omega))) | (with_reducible refine Below.allocW ?_ _) | (with_reducible refine Below.drew ?_) | (with_reducible refine Below.extW ?_ _))) hb2
    have s2 : w.heap.size ≤ w2.heap.size := B2.size
    rw [HC2.out]
    go_wp2_with fail
    refine (HM1.out _).mono ?_
    rintro e w3 ⟨rfl, rfl⟩
    go_wp2_with fail
    refine (HM2.out _).mono ?_
    rintro e w4 ⟨rfl, rfl⟩
    go_wp2_with fail
    go_ret2
    exact ⟨rfl, (by repeat (first | with_reducible exact Below.refl _ _ | with_reducible assumption | ((with_reducible refine Below.setCell ?_ ?_ _); rotate_left; · (first | omega | exact Nat.le_refl _ | (simp <;> omega))) | (with_reducible refine Below.allocW ?_ _) | (with_reducible refine Below.drew ?_) | (with_reducible refine Below.extW ?_ _)))⟩
  · subst k
    rw [cmpV_more (by omega)]
    have j1 : decide ((q : Int) < (s : Int)) = false := by simp; omega
    clear f1 f2 h1 h2
    go_enter Tryz.func110, Tryz.ntmps110
    go_wp2_with fail
    refine (reckon_counts _ a b).mono ?_
    rintro e w1 ⟨rfl, hb1⟩
    have B1 : Below w.heap.size w w1 := Below.then_ (by repeat (first | with_reducible exact Below.refl _ _ | with_reducible assumption | ((with_reducible refine Below.setCell ?_ ?_ _); rotate_left; · (first | omega | exact Nat.le_refl _ | (simp <;> omega))) | (with_reducible refine Below.allocW ?_ _) | (with_reducible refine Below.drew ?_) | (with_reducible refine Below.extW ?_ _))) hb1
    have s1 : w.heap.size ≤ w1.heap.size := B1.size
    rw [HC1.out]
    go_wp2_with fail
    refine (reckon_counts _ c d).mono ?_
    rintro e w2 ⟨rfl, hb2⟩
    have B2 : Below w.heap.size w w2 := Below.then_ (by repeat (first | with_reducible exact Below.refl _ _ | with_reducible assumption | ((with_reducible refine Below.setCell ?_ ?_ _); rotate_left; · (first | omega | exact Nat.le_refl _ | (simp <;> omega))) | (with_reducible refine Below.allocW ?_ _) | (with_reducible refine Below.drew ?_) | (with_reducible refine Below.extW ?_ _))) hb2
    have s2 : w.heap.size ≤ w2.heap.size := B2.size
    rw [HC2.out]
    go_wp2_with fail
    refine (HM1.out _).mono ?_
    rintro e w3 ⟨rfl, rfl⟩
    go_wp2_with fail
    refine (HM2.out _).mono ?_
    rintro e w4 ⟨rfl, rfl⟩
    go_wp2_with fail
    go_ret2
    exact ⟨rfl, (by repeat (first | with_reducible exact Below.refl _ _ | with_reducible assumption | ((with_reducible refine Below.setCell ?_ ?_ _); rotate_left; · (first | omega | exact Nat.le_refl _ | (simp <;> omega))) | (with_reducible refine Below.allocW ?_ _) | (with_reducible refine Below.drew ?_) | (with_reducible refine Below.extW ?_ _)))⟩
  · subst k k2
    rw [cmpV_eq (by omega)]
    clear f1 f2 h1 h2
    go_enter Tryz.func110, Tryz.ntmps110
    go_wp2_with fail
    refine (reckon_counts _ a b).mono ?_
    rintro e w1 ⟨rfl, hb1⟩
    have B1 : Below w.heap.size w w1 := Below.then_ (by repeat (first | with_reducible exact Below.refl _ _ | with_reducible assumption | ((with_reducible refine Below.setCell ?_ ?_ _); rotate_left; · (first | omega | exact Nat.le_refl _ | (simp <;> omega))) | (with_reducible refine Below.allocW ?_ _) | (with_reducible refine Below.drew ?_) | (with_reducible refine Below.extW ?_ _))) hb1
    have s1 : w.heap.size ≤ w1.heap.size := B1.size
    rw [HC1.out]
    go_wp2_with fail
    refine (reckon_counts _ c d).mono ?_
    rintro e w2 ⟨rfl, hb2⟩
    have B2 : Below w.heap.size w w2 := Below.then_ (by repeat (first | with_reducible exact Below.refl _ _ | with_reducible assumption | ((with_reducible refine Below.setCell ?_ ?_ _); rotate_left; · (first | omega | exact Nat.le_refl _ | (simp <;> omega))) | (with_reducible refine Below.allocW ?_ _) | (with_reducible refine Below.drew ?_) | (with_reducible refine Below.extW ?_ _))) hb2
    have s2 : w.heap.size ≤ w2.heap.size := B2.size
    rw [HC2.out]
    go_wp2_with fail
    refine (HM1.out _).mono ?_
    rintro e w3 ⟨rfl, rfl⟩
    go_wp2_with fail
    refine (HM2.out _).mono ?_
    rintro e w4 ⟨rfl, rfl⟩
    go_wp2_with fail
    go_ret2
    exact ⟨rfl, (by repeat (first | with_reducible exact Below.refl _ _ | with_reducible assumption | ((with_reducible refine Below.setCell ?_ ?_ _); rotate_left; · (first | omega | exact Nat.le_refl _ | (simp <;> omega))) | (with_reducible refine Below.allocW ?_ _) | (with_reducible refine Below.drew ?_) | (with_reducible refine Below.extW ?_ _)))⟩
theorem ref1_Order (w : World) (a b c d : Nat) (ha : a ≤ 9223372036854775807) (hb : b ≤ 9223372036854775807) (hc : c ≤ 9223372036854775807) (hd : d ≤ 9223372036854775807) :
    Calls Tryz.prog 50 #[.int .i64 a, .int .i64 b, .int .i64 c, .int .i64 d] w fun e w' => e = .returned (.tuple #[.int .i64 (ordV a b c d), .bool true]) ∧ Below w.heap.size w w' := by
  have i1 : decide ((0 : Int) ≤ (a : Int)) = true := by simp
  have i2 : decide ((0 : Int) ≤ (b : Int)) = true := by simp
  have i3 : decide ((0 : Int) ≤ (c : Int)) = true := by simp
  have i4 : decide ((0 : Int) ≤ (d : Int)) = true := by simp
  go_enter Tryz.func50, Tryz.ntmps50
  go_wp2_with fail
  refine (ref1_Is _ a).mono ?_
  rintro e w1 ⟨rfl, hb1⟩
  have B1 : Below w.heap.size w w1 := Below.then_ (by repeat (first | with_reducible exact Below.refl _ _ | with_reducible assumption | ((with_reducible refine Below.setCell ?_ ?_ _); rotate_left; · (first | omega | exact Nat.le_refl _ | (simp <;> omega))) | (with_reducible refine Below.allocW ?_ _) | (with_reducible refine Below.drew ?_) | (with_reducible refine Below.extW ?_ _))) hb1
  have s1 : w.heap.size ≤ w1.heap.size := B1.size
  rw [i1]
  go_wp2_with fail
  refine (ref1_Is _ b).mono ?_
  rintro e w2 ⟨rfl, hb2⟩
  have B2 : Below w.heap.size w w2 := Below.then_ (by repeat (first | with_reducible exact Below.refl _ _ | with_reducible assumption | ((with_reducible refine Below.setCell ?_ ?_ _); rotate_left; · (first | omega | exact Nat.le_refl _ | (simp <;> omega))) | (with_reducible refine Below.allocW ?_ _) | (with_reducible refine Below.drew ?_) | (with_reducible refine Below.extW ?_ _))) hb2
  have s2 : w.heap.size ≤ w2.heap.size := B2.size
  rw [i2]
  go_wp2_with fail
  refine (ref1_Is _ c).mono ?_
  rintro e w3 ⟨rfl, hb3⟩
  have B3 : Below w.heap.size w w3 := Below.then_ (by repeat (first | with_reducible exact Below.refl _ _ | with_reducible assumption | ((with_reducible refine Below.setCell ?_ ?_ _); rotate_left; · (first | omega | exact Nat.le_refl _ | (simp <;> omega))) | (with_reducible refine Below.allocW ?_ _) | (with_reducible refine Below.drew ?_) | (with_reducible refine Below.extW ?_ _))) hb3
  have s3 : w.heap.size ≤ w3.heap.size := B3.size
  rw [i3]
  go_wp2_with fail
  refine (ref1_Is _ d).mono ?_
  rintro e w4 ⟨rfl, hb4⟩
  have B4 : Below w.heap.size w w4 := Below.then_ (by repeat (first | with_reducible exact Below.refl _ _ | with_reducible assumption | ((with_reducible refine Below.setCell ?_ ?_ _); rotate_left; · (first | omega | exact Nat.le_refl _ | (simp <;> omega))) | (with_reducible refine Below.allocW ?_ _) | (with_reducible refine Below.drew ?_) | (with_reducible refine Below.extW ?_ _))) hb4
  have s4 : w.heap.size ≤ w4.heap.size := B4.size
  rw [i4]
  go_wp2_with fail
  refine (ref1_Digits _ a (by omega)).mono ?_
  rintro e w5 ⟨v5, L5, rfl, o5, k5, e5, l5, hb5⟩
  obtain ⟨A5, p5, rfl, _, _, S5, _⟩ := o5.form
  have B5 : Below w.heap.size w w5 := Below.then_ (by repeat (first | with_reducible exact Below.refl _ _ | with_reducible assumption | ((with_reducible refine Below.setCell ?_ ?_ _); rotate_left; · (first | omega | exact Nat.le_refl _ | (simp <;> omega))) | (with_reducible refine Below.allocW ?_ _) | (with_reducible refine Below.drew ?_) | (with_reducible refine Below.extW ?_ _))) hb5
  have s5 : w.heap.size ≤ w5.heap.size := B5.size
  have HS5 := Lib.hid S5
  have K5 := Lib.hid k5
  have E5 := Lib.hid e5
  clear o5 S5 k5 e5
  go_wp2_with fail
  refine (ref1_Digits _ b (by omega)).mono ?_
  rintro e w6 ⟨v6, L6, rfl, o6, k6, e6, l6, hb6⟩
  obtain ⟨A6, p6, rfl, _, _, S6, _⟩ := o6.form
  have B6 : Below w.heap.size w w6 := Below.then_ (by repeat (first | with_reducible exact Below.refl _ _ | with_reducible assumption | ((with_reducible refine Below.setCell ?_ ?_ _); rotate_left; · (first | omega | exact Nat.le_refl _ | (simp <;> omega))) | (with_reducible refine Below.allocW ?_ _) | (with_reducible refine Below.drew ?_) | (with_reducible refine Below.extW ?_ _))) hb6
  have s6 : w.heap.size ≤ w6.heap.size := B6.size
  have HS5' := Lib.hid (HS5.out.keep hb6.size fun p hp => hb6.cell hp)
  have HS6 := Lib.hid S6
  have K6 := Lib.hid k6
  have E6 := Lib.hid e6
  clear o6 S6 k6 e6
  go_wp2_with fail
  refine (ref1_Times _ A5 A6 p5 p6 L5 L6 HS5'.out HS6.out K5.out K6.out (by omega) (by omega)).mono ?_
  rintro e w7 ⟨v7, rfl, L7, o7, k7, e7, l7, hb7⟩
  obtain ⟨A7, p7, rfl, _, _, S7, _⟩ := o7.form
  have B7 : Below w.heap.size w w7 := Below.then_ (by repeat (first | with_reducible exact Below.refl _ _ | with_reducible assumption | ((with_reducible refine Below.setCell ?_ ?_ _); rotate_left; · (first | omega | exact Nat.le_refl _ | (simp <;> omega))) | (with_reducible refine Below.allocW ?_ _) | (with_reducible refine Below.drew ?_) | (with_reducible refine Below.extW ?_ _))) hb7
  have s7 : w.heap.size ≤ w7.heap.size := B7.size
  have HS7 := Lib.hid S7
  have K7 := Lib.hid k7
  have E7 := Lib.hid (show valD L7 = a * b by rw [e7, E5.out, E6.out])
  have l7' : L7.length ≤ 50 := by omega
  clear o7 S7 k7 e7 l7
  go_wp2_with fail
  refine (ref1_Digits _ c (by omega)).mono ?_
  rintro e w8 ⟨v8, L8, rfl, o8, k8, e8, l8, hb8⟩
  obtain ⟨A8, p8, rfl, _, _, S8, _⟩ := o8.form
  have B8 : Below w.heap.size w w8 := Below.then_ (by repeat (first | with_reducible exact Below.refl _ _ | with_reducible assumption | ((with_reducible refine Below.setCell ?_ ?_ _); rotate_left; · (first | omega | exact Nat.le_refl _ | (simp <;> omega))) | (with_reducible refine Below.allocW ?_ _) | (with_reducible refine Below.drew ?_) | (with_reducible refine Below.extW ?_ _))) hb8
  have s8 : w.heap.size ≤ w8.heap.size := B8.size
  have HS7' := Lib.hid (HS7.out.keep hb8.size fun p hp => hb8.cell hp)
  have HS8 := Lib.hid S8
  have K8 := Lib.hid k8
  have E8 := Lib.hid e8
  clear o8 S8 k8 e8
  go_wp2_with fail
  refine (ref1_Digits _ d (by omega)).mono ?_
  rintro e w9 ⟨v9, L9, rfl, o9, k9, e9, l9, hb9⟩
  obtain ⟨A9, p9, rfl, _, _, S9, _⟩ := o9.form
  have B9 : Below w.heap.size w w9 := Below.then_ (by repeat (first | with_reducible exact Below.refl _ _ | with_reducible assumption | ((with_reducible refine Below.setCell ?_ ?_ _); rotate_left; · (first | omega | exact Nat.le_refl _ | (simp <;> omega))) | (with_reducible refine Below.allocW ?_ _) | (with_reducible refine Below.drew ?_) | (with_reducible refine Below.extW ?_ _))) hb9
  have s9 : w.heap.size ≤ w9.heap.size := B9.size
  have HS7'' := Lib.hid (HS7'.out.keep hb9.size fun p hp => hb9.cell hp)
  have HS8' := Lib.hid (HS8.out.keep hb9.size fun p hp => hb9.cell hp)
  have HS9 := Lib.hid S9
  have K9 := Lib.hid k9
  have E9 := Lib.hid e9
  clear o9 S9 k9 e9
  go_wp2_with fail
  refine (ref1_Times _ A8 A9 p8 p9 L8 L9 HS8'.out HS9.out K8.out K9.out (by omega) (by omega)).mono ?_
  rintro e w10 ⟨v10, rfl, L10, o10, k10, e10, l10, hb10⟩
  obtain ⟨A10, p10, rfl, _, _, S10, _⟩ := o10.form
  have B10 : Below w.heap.size w w10 := Below.then_ (by repeat (first | with_reducible exact Below.refl _ _ | with_reducible assumption | ((with_reducible refine Below.setCell ?_ ?_ _); rotate_left; · (first | omega | exact Nat.le_refl _ | (simp <;> omega))) | (with_reducible refine Below.allocW ?_ _) | (with_reducible refine Below.drew ?_) | (with_reducible refine Below.extW ?_ _))) hb10
  have s10 : w.heap.size ≤ w10.heap.size := B10.size
  have HS7f := Lib.hid (HS7''.out.keep hb10.size fun p hp => hb10.cell hp)
  have HS10 := Lib.hid S10
  have K10 := Lib.hid k10
  have E10 := Lib.hid (show valD L10 = c * d by rw [e10, E8.out, E9.out])
  have l10' : L10.length ≤ 50 := by omega
  clear o10 S10 k10 e10 l10
  go_wp2_with fail
  refine (ref1_Less _ A7 A10 p7 p10 L7 L10 HS7f.out HS10.out K7.out K10.out (by omega) (by omega)).mono ?_
  rintro e w11 ⟨rfl, hb11⟩
  have B11 : Below w.heap.size w w11 := Below.then_ (by repeat (first | with_reducible exact Below.refl _ _ | with_reducible assumption | ((with_reducible refine Below.setCell ?_ ?_ _); rotate_left; · (first | omega | exact Nat.le_refl _ | (simp <;> omega))) | (with_reducible refine Below.allocW ?_ _) | (with_reducible refine Below.drew ?_) | (with_reducible refine Below.extW ?_ _))) hb11
  have s11 : w.heap.size ≤ w11.heap.size := B11.size
  rw [E7.out, E10.out]
  go_wp2_with fail
  go_ret2
  exact ⟨rfl, B11⟩
end Go.Proofs.YtbmmkhbdcaokkaaGreat
/- Package bound: Within; the reference of layer 20: Worst. -/
namespace Go.Proofs.YtbmmkhbdcaokkaaGreat
open Go.ChangeShapes Go.WideShapes Go.ChangeAt Go.RowKit
set_option linter.unusedVariables false
set_option maxRecDepth 100000

theorem gap_nonneg {l : Nat} {r : List Nd} (h : Roll r) (hr : rightOf l r = true) (x : Int) : 0 ≤ gapAt l r x := by
  have := low_high h hr x
  unfold gapAt; omega
theorem worstPre_nil {l : Nat} {r : List Nd} (h : Roll r) (hr : rightOf l r = true) : worstPre l r [] = (0, gapAt l r 0) := by
  have := gap_nonneg h hr 0
  unfold worstPre worstStep
  simp only [List.foldl_nil]
  split
  · rfl
  · rename_i hc
    have : gapAt (↑l) r 0 = 0 := Classical.byContradiction fun h => hc (.inl (show 0 < gapAt (↑l) r 0 by omega))
    rw [this]
theorem worstPre_range {l : Nat} {r : List Nd} (h : Roll r) (hr : rightOf l r = true) (hs : sumR r ≤ 72057594037927935) (p : List Nd) : 0 ≤ (worstPre l r p).2 ∧ (worstPre l r p).2 ≤ 72057594037927936 := by
  have key : ∀ (p : List Nd) (a : Int × Int), 0 ≤ a.2 → a.2 ≤ 72057594037927936 → 0 ≤ (p.foldl (fun a x => worstStep a (endsOf l x.1).1 (gapAt l r (endsOf l x.1).1)) a).2 ∧ (p.foldl (fun a x => worstStep a (endsOf l x.1).1 (gapAt l r (endsOf l x.1).1)) a).2 ≤ 72057594037927936 := by
    intro p
    induction p with
    | nil => intro a h1 h2; exact ⟨h1, h2⟩
    | cons x p ih =>
      intro a h1 h2
      rw [List.foldl_cons]
      have g1 := gap_nonneg h hr (endsOf l x.1).1
      have g2 := (gap_range (l := l) h hs (endsOf l x.1).1).2
      refine ih _ ?_ ?_
      · unfold worstStep; split <;> assumption
      · unfold worstStep; split <;> assumption
  have g1 := gap_nonneg h hr 0
  have g2 := (gap_range (l := l) h hs 0).2
  have e := worstPre_nil h hr
  unfold worstPre at e ⊢
  simp only [List.foldl_nil] at e
  rw [e]
  exact key p _ g1 g2
/-- What Within tells. -/
def withinT (l : Int) (r : List Nd) (num den : Int) : Bool × Int := if sumR r = 0 then (false, 7) else if num < 0 ∨ den < 1 then (false, 2) else (decide (ordV (worstPre l r r).2.toNat den.toNat num.toNat (sumR r).toNat ≤ 0), 0)
set_option maxHeartbeats 1000000 in
theorem bound_Within (w : World) (g K l : Nat) (k : Int) (r : List Nd) (F : Nat → Prop) (num den : Int) (h : DigAt w g K l k r F) (hn : r.length ≤ 67108864) (hr : rightOf l r = true) (h1 : i64 num) (h2 : i64 den) :
    Calls Tryz.prog 48 #[.pointer (some ⟨g, 0, none⟩), .int .i64 num, .int .i64 den] w fun e w' => e = .returned (.tuple #[.bool (withinT l r num den).1, .int .i64 (withinT l r num den).2]) ∧ Below w.heap.size w w' := by
  have hf := h.fits
  have HD := Lib.hid h
  have HW := Lib.hid (bound_Worst w g K l k r F h hn)
  have HN := Lib.hid (digest_N · g K l k r F ·)
  have hs0 := sumR_nonneg hf.roll
  have hs1 := hf.sum
  have hw := worstPre_range hf.roll hr hf.sum r
  unfold triV worstT at HW
  clear h
  by_cases h0 : sumR r = 0
  · rw [if_pos h0] at HW
    have e : withinT l r num den = (false, 7) := by unfold withinT; rw [if_pos h0]
    rw [e]
    clear h0 e
    go_enter Tryz.func48, Tryz.ntmps48
    go_wp2_with fail
    refine (HW.out).mono ?_
    rintro e w1 ⟨rfl, hb1⟩
    have B1 : Below w.heap.size w w1 := Below.then_ (by repeat (first | with_reducible exact Below.refl _ _ | with_reducible assumption | ((with_reducible refine Below.setCell ?_ ?_ _); rotate_left; · (first | omega | exact Nat.le_refl _ | (simp <;> omega))) | (with_reducible refine Below.allocW ?_ _) | (with_reducible refine Below.drew ?_) | (with_reducible refine Below.extW ?_ _))) hb1
    have s1 : w.heap.size ≤ w1.heap.size := B1.size
    go_wp2_with fail
    go_ret2
    exact ⟨rfl, B1⟩
  · rw [if_neg h0] at HW
    by_cases hc : num < 0 ∨ den < 1
    · have e : withinT l r num den = (false, 2) := by unfold withinT; rw [if_neg h0, if_pos hc]
      rw [e]
      clear e
      rcases (show num < 0 ∨ (decide (num < 0) = false ∧ den < 1) by by_cases hn : num < 0; exact .inl hn; exact .inr ⟨by simpa using hn, by omega⟩) with c1 | ⟨c1, c2⟩
      all_goals (
        clear hc
        go_enter Tryz.func48, Tryz.ntmps48
        go_wp2_with fail
        refine (HW.out).mono ?_
        rintro e w1 ⟨rfl, hb1⟩
        have B1 : Below w.heap.size w w1 := Below.then_ (by repeat (first | with_reducible exact Below.refl _ _ | with_reducible assumption | ((with_reducible refine Below.setCell ?_ ?_ _); rotate_left; · (first | omega | exact Nat.le_refl _ | (simp <;> omega))) | (with_reducible refine Below.allocW ?_ _) | (with_reducible refine Below.drew ?_) | (with_reducible refine Below.extW ?_ _))) hb1
        have s1 : w.heap.size ≤ w1.heap.size := B1.size
        go_wp2_with fail
        go_ret2
        exact ⟨rfl, B1⟩)
    · obtain ⟨a, rfl⟩ := Int.eq_ofNat_of_zero_le (show 0 ≤ num by omega)
      obtain ⟨b, rfl⟩ := Int.eq_ofNat_of_zero_le (show 0 ≤ den by omega)
      have e : withinT l r a b = (decide (ordV (worstPre l r r).2.toNat b a (sumR r).toNat ≤ 0), 0) := by unfold withinT; rw [if_neg h0, if_neg hc]; rfl
      rw [e]
      have k1 : decide ((a : Int) < 0) = false := by simp
      have k2 : decide ((b : Int) < 1) = false := by simp; omega
      generalize (worstPre l r r).2 = gp at HW hw ⊢
      generalize (worstPre l r r).1 = x at HW
      generalize sumR r = n at hs0 hs1 HN ⊢
      obtain ⟨gp, rfl⟩ := Int.eq_ofNat_of_zero_le hw.1
      obtain ⟨n, rfl⟩ := Int.eq_ofNat_of_zero_le hs0
      have HO := Lib.hid (reckon_Order · gp b a n (by omega) (by have := h2.2; omega) (by have := h1.2; omega) (by omega))
      simp only [Int.toNat_natCast]
      clear h0 hc e
      go_enter Tryz.func48, Tryz.ntmps48
      go_wp2_with fail
      refine (HW.out).mono ?_
      rintro e w1 ⟨rfl, hb1⟩
      have B1 : Below w.heap.size w w1 := Below.then_ (by repeat (first | with_reducible exact Below.refl _ _ | with_reducible assumption | ((with_reducible refine Below.setCell ?_ ?_ _); rotate_left; · (first | omega | exact Nat.le_refl _ | (simp <;> omega))) | (with_reducible refine Below.allocW ?_ _) | (with_reducible refine Below.drew ?_) | (with_reducible refine Below.extW ?_ _))) hb1
      have s1 : w.heap.size ≤ w1.heap.size := B1.size
      go_wp2_with fail
      refine (HN.out _ (HD.out.below B1)).mono ?_
      rintro e w2 ⟨rfl, hb2⟩
      have B2 : Below w.heap.size w w2 := Below.then_ (by repeat (first | with_reducible exact Below.refl _ _ | with_reducible assumption | ((with_reducible refine Below.setCell ?_ ?_ _); rotate_left; · (first | omega | exact Nat.le_refl _ | (simp <;> omega))) | (with_reducible refine Below.allocW ?_ _) | (with_reducible refine Below.drew ?_) | (with_reducible refine Below.extW ?_ _))) hb2
      have s2 : w.heap.size ≤ w2.heap.size := B2.size
      go_wp2_with fail
      refine (HO.out _).mono ?_
      rintro e w3 ⟨rfl, hb3⟩
      have B3 : Below w.heap.size w w3 := Below.then_ (by repeat (first | with_reducible exact Below.refl _ _ | with_reducible assumption | ((with_reducible refine Below.setCell ?_ ?_ _); rotate_left; · (first | omega | exact Nat.le_refl _ | (simp <;> omega))) | (with_reducible refine Below.allocW ?_ _) | (with_reducible refine Below.drew ?_) | (with_reducible refine Below.extW ?_ _))) hb3
      have s3 : w.heap.size ≤ w3.heap.size := B3.size
      go_wp2_with fail
      go_ret2
      exact ⟨by simp, B3⟩
set_option maxHeartbeats 2000000 in
theorem ref20_Worst (w : World) (k : Int) (l : Nat) (A : Option Addr) (cap : Nat) (r : List Nd) (hS : Sl w w.heap.size encN A r) (hI : ints r) (hm : r.length ≤ 67108864) (hr : Roll r) (hs : sumR r ≤ 72057594037927935) (hrt : rightOf l r = true) :
    Calls Tryz.prog 49 #[.agg #[.int .i64 k, .int .i64 l, .slice A r.length cap]] w fun e w' => e = .returned (.tuple #[.int .i64 (worstPre l r r).1, .int .i64 (worstPre l r r).2]) ∧ Below w.heap.size w w' := by
  have hB : Below w.heap.size w (w.alloc (.cells #[.int .i64 k, .int .i64 l, .slice A r.length cap] 37)) := (by repeat (first | with_reducible exact Below.refl _ _ | with_reducible assumption | ((with_reducible refine Below.setCell ?_ ?_ _); rotate_left; · (first | omega | exact Nat.le_refl _ | (simp <;> omega))) | (with_reducible refine Below.allocW ?_ _) | (with_reducible refine Below.drew ?_) | (with_reducible refine Below.extW ?_ _)))
  have HS := Lib.hid (hS.keep (B' := (w.alloc (.cells #[.int .i64 k, .int .i64 l, .slice A r.length cap] 37)).heap.size) hB.size fun p hp => hB.cell hp)
  have HI := Lib.hid hI
  have HLo := Lib.hid (fun (x : Int) (W : World) (h : Sl W W.heap.size encN A r) => ref16_Low W l A cap r x h hI hm hr hs)
  have HHi := Lib.hid (fun (x : Int) (W : World) (h : Sl W W.heap.size encN A r) => ref16_High W l A cap r x h hI hm hr hs)
  have HG := Lib.hid (fun x => gap_range (l := l) hr hs x)
  have HR := Lib.hid (fun p => worstPre_range hr hrt hs p)
  have e0 := worstPre_nil hr hrt
  have q1 := weighR_le (l := l) (f := fun _ hi => decide (hi ≤ 0)) hr
  have q2 := weighR_le (l := l) (f := fun lo _ => decide (lo ≤ 0)) hr
  have L0 := Lib.hid (HLo.out 0)
  have H0 := Lib.hid (HHi.out 0)
  have e1 : gapAt l r 0 = highOf l r 0 - lowOf l r 0 := rfl
  rw [e1] at e0
  unfold lowOf at L0 e0
  unfold highOf at H0 e0
  generalize weighR l (fun _ hi => decide (hi ≤ 0)) r = n0 at q1 L0 e0
  generalize weighR l (fun lo _ => decide (lo ≤ 0)) r = m0 at q2 H0 e0
  have E0 := Lib.hid e0
  clear hS hI e0 e1 hB
  go_enter Tryz.func49, Tryz.ntmps49
  go_wp2_with fail
  refine wp_region_ext (by kernel_rfl) (by kernel_rfl) ?_
  repeat (go_big_quiet_step (fail))
  refine wpQuiet_nil ?_
  intro w1 hb1
  replace hb1 := below_of_ext hb1
  have B1 : Below w.heap.size w w1 := Below.then_ (by repeat (first | with_reducible exact Below.refl _ _ | with_reducible assumption | ((with_reducible refine Below.setCell ?_ ?_ _); rotate_left; · (first | omega | exact Nat.le_refl _ | (simp <;> omega))) | (with_reducible refine Below.allocW ?_ _) | (with_reducible refine Below.drew ?_) | (with_reducible refine Below.extW ?_ _))) hb1
  have s1 : w.heap.size ≤ w1.heap.size := B1.size
  have z1_0 : w.heap.size < w1.heap.size := by have := hb1.size; (try simp at this); omega
  have y1_0 : w.heap.size ≤ w1.heap.size := Nat.le_of_lt z1_0
  have c1_0 := fun o => hb1.cell (p := ⟨w.heap.size, o, none⟩) (by first | omega | (simp <;> omega))
  have f1_0 := fun o => hb1.frozen (p := ⟨w.heap.size, o, none⟩) (by first | omega | (simp <;> omega))
  have S1 := Lib.hid (HS.out.keep (B' := w1.heap.size) hb1.size fun p hp => hb1.cell hp)
  go_wp2_with fail
  refine (H0.out _ S1.out).mono ?_
  rintro e w2 ⟨rfl, hb2⟩
  have B2 : Below w.heap.size w w2 := Below.then_ (by repeat (first | with_reducible exact Below.refl _ _ | with_reducible assumption | ((with_reducible refine Below.setCell ?_ ?_ _); rotate_left; · (first | omega | exact Nat.le_refl _ | (simp <;> omega))) | (with_reducible refine Below.allocW ?_ _) | (with_reducible refine Below.drew ?_) | (with_reducible refine Below.extW ?_ _))) hb2
  have s2 : w.heap.size ≤ w2.heap.size := B2.size
  have z2_0 : w.heap.size < w2.heap.size := by have := hb2.size; (try simp at this); omega
  have y2_0 : w.heap.size ≤ w2.heap.size := Nat.le_of_lt z2_0
  have c2_0 := fun o => hb2.cell (p := ⟨w.heap.size, o, none⟩) (by first | omega | (simp <;> omega))
  have f2_0 := fun o => hb2.frozen (p := ⟨w.heap.size, o, none⟩) (by first | omega | (simp <;> omega))
  have S2 := Lib.hid (S1.out.keep (B' := w2.heap.size) hb2.size fun p hp => hb2.cell hp)
  go_wp2_with fail
  refine (L0.out _ S2.out).mono ?_
  rintro e w3 ⟨rfl, hb3⟩
  have B3 : Below w.heap.size w w3 := Below.then_ (by repeat (first | with_reducible exact Below.refl _ _ | with_reducible assumption | ((with_reducible refine Below.setCell ?_ ?_ _); rotate_left; · (first | omega | exact Nat.le_refl _ | (simp <;> omega))) | (with_reducible refine Below.allocW ?_ _) | (with_reducible refine Below.drew ?_) | (with_reducible refine Below.extW ?_ _))) hb3
  have s3 : w.heap.size ≤ w3.heap.size := B3.size
  have z3_0 : w.heap.size < w3.heap.size := by have := hb3.size; (try simp at this); omega
  have y3_0 : w.heap.size ≤ w3.heap.size := Nat.le_of_lt z3_0
  have c3_0 := fun o => hb3.cell (p := ⟨w.heap.size, o, none⟩) (by first | omega | (simp <;> omega))
  have f3_0 := fun o => hb3.frozen (p := ⟨w.heap.size, o, none⟩) (by first | omega | (simp <;> omega))
  have S3 := Lib.hid (S2.out.keep (B' := w3.heap.size) hb3.size fun p hp => hb3.cell hp)
  have W3 := Lib.hid B3
  clear S1 S2 hb1 hb2 hb3 B1 B2 B3
  go_wp2_with fail
  go_loopw [6, 7, 8] (fun x gp i wr => ∃ q : Nat, q ≤ r.length ∧ i = .int .i64 q ∧ x = .int .i64 (worstPre l r (r.take q)).1 ∧ gp = .int .i64 (worstPre l r (r.take q)).2 ∧ Below w3.heap.size w3 wr) (fun _ _ i _ => r.length - (intOf i).toNat)
  case atStart => exact ⟨0, Nat.zero_le _, rfl, by rw [List.take_zero, E0.out], by rw [List.take_zero, E0.out], Below.refl _ _⟩
  case round =>
    obtain ⟨j, hj, rfl, rfl, rfl, hB⟩ := hrel
    have hsz := hB.size
    have hBW : Below w.heap.size w wr := W3.out.trans (hB.mono W3.out.size)
    have Sr := Lib.hid (S3.out.keep (B' := wr.heap.size) hsz fun p hp => hB.cell hp)
    by_cases hlt : j < r.length
    · obtain ⟨c, off, rfl, hc, hcl⟩ := Sr.out.at_ hlt
      have d0 := hcl 0 (.int .i64 r[j].1) rfl
      simp only [Nat.add_zero] at d0
      have hxi := (HI.out _ (List.getElem_mem hlt)).1
      have E7 := worstPre_succ (l := l) (r := r) hlt
      have hrg := HR.out (r.take j)
      obtain ⟨x, hxe⟩ : ∃ x, x = r[j] := ⟨_, rfl⟩
      rw [← hxe] at d0 hxi E7
      have HE := Lib.hid (ref2_Ends · l x.1 hxi.2)
      generalize endsOf l x.1 = t at E7 HE
      obtain ⟨lo, hi, ok⟩ := t
      unfold endsV at HE
      simp only at E7
      have Lj := Lib.hid (HLo.out lo)
      have Hj := Lib.hid (HHi.out lo)
      have q3 := weighR_le (l := l) (f := fun _ hi => decide (hi ≤ lo)) hr
      have q4 := weighR_le (l := l) (f := fun lo' _ => decide (lo' ≤ lo)) hr
      have e1 : gapAt l r lo = highOf l r lo - lowOf l r lo := rfl
      rw [e1] at E7
      unfold lowOf at Lj E7
      unfold highOf at Hj E7
      generalize weighR l (fun _ hi => decide (hi ≤ lo)) r = n1 at q3 Lj E7
      generalize weighR l (fun lo' _ => decide (lo' ≤ lo)) r = m1 at q4 Hj E7
      generalize worstPre l r (r.take j) = p at E7 hrg
      obtain ⟨px, pg⟩ := p
      simp only at hrg
      unfold worstStep at E7
      simp only at E7
      have E7 := Lib.hid E7
      clear hcl hxe hxi e1
      rcases (show pg < m1 - n1 ∨ (decide (pg < m1 - n1) = false ∧ m1 - n1 = pg ∧ lo < px) ∨ (decide (pg < m1 - n1) = false ∧ m1 - n1 = pg ∧ decide (lo < px) = false) ∨ (decide (pg < m1 - n1) = false ∧ (m1 - n1 == pg) = false) by
        by_cases c1 : pg < m1 - n1
        · exact .inl c1
        · by_cases c2 : m1 - n1 = pg
          · by_cases c3 : lo < px
            · exact .inr (.inl ⟨by simpa using c1, c2, c3⟩)
            · exact .inr (.inr (.inl ⟨by simpa using c1, c2, by simpa using c3⟩))
          · exact .inr (.inr (.inr ⟨by simpa using c1, by simpa using c2⟩))) with c1 | ⟨c1, c2, c3⟩ | ⟨c1, c2, c3⟩ | ⟨c1, c2⟩
      · have ER := Lib.hid (show worstPre l r (r.take (j + 1)) = (lo, m1 - n1) by rw [E7.out, if_pos (.inl c1)])
        go_wp2_with fail
        refine (HE.out _).mono ?_
        rintro e w1 ⟨rfl, hb1⟩
        have B1 : Below w.heap.size w w1 := Below.then_ (by repeat (first | with_reducible exact Below.refl _ _ | with_reducible assumption | ((with_reducible refine Below.setCell ?_ ?_ _); rotate_left; · (first | omega | exact Nat.le_refl _ | (simp <;> omega))) | (with_reducible refine Below.allocW ?_ _) | (with_reducible refine Below.drew ?_) | (with_reducible refine Below.extW ?_ _))) hb1
        have s1 : w.heap.size ≤ w1.heap.size := B1.size
        have T1 := Lib.hid (Sr.out.keep (B' := w1.heap.size) hb1.size fun p hp => hb1.cell hp)
        have HB1 := Lib.hid (hB.trans (hb1.mono hsz))
        go_wp2_with fail
        refine (Hj.out _ T1.out).mono ?_
        rintro e w4 ⟨rfl, hb4⟩
        have B4 : Below w.heap.size w w4 := Below.then_ (by repeat (first | with_reducible exact Below.refl _ _ | with_reducible assumption | ((with_reducible refine Below.setCell ?_ ?_ _); rotate_left; · (first | omega | exact Nat.le_refl _ | (simp <;> omega))) | (with_reducible refine Below.allocW ?_ _) | (with_reducible refine Below.drew ?_) | (with_reducible refine Below.extW ?_ _))) hb4
        have s4 : w.heap.size ≤ w4.heap.size := B4.size
        have T4 := Lib.hid (T1.out.keep (B' := w4.heap.size) hb4.size fun p hp => hb4.cell hp)
        have HB4 := Lib.hid (HB1.out.trans (hb4.mono HB1.out.size))
        go_wp2_with fail
        refine (Lj.out _ T4.out).mono ?_
        rintro e w5 ⟨rfl, hb5⟩
        have B5 : Below w.heap.size w w5 := Below.then_ (by repeat (first | with_reducible exact Below.refl _ _ | with_reducible assumption | ((with_reducible refine Below.setCell ?_ ?_ _); rotate_left; · (first | omega | exact Nat.le_refl _ | (simp <;> omega))) | (with_reducible refine Below.allocW ?_ _) | (with_reducible refine Below.drew ?_) | (with_reducible refine Below.extW ?_ _))) hb5
        have s5 : w.heap.size ≤ w5.heap.size := B5.size
        have HB5 := HB4.out.trans (hb5.mono HB4.out.size)
        go_wp2_with fail
        go_roundw
        case rel => exact ⟨j + 1, by omega, by go_num, by rw [ER.out], by rw [ER.out], HB5⟩
        case measure => simp [intOf]; omega
      · have ER := Lib.hid (show worstPre l r (r.take (j + 1)) = (lo, m1 - n1) by rw [E7.out, if_pos (.inr ⟨c2, c3⟩)])
        have c4 : (m1 - n1 == pg) = true := by simpa using c2
        clear c2
        go_wp2_with fail
        refine (HE.out _).mono ?_
        rintro e w1 ⟨rfl, hb1⟩
        have B1 : Below w.heap.size w w1 := Below.then_ (by repeat (first | with_reducible exact Below.refl _ _ | with_reducible assumption | ((with_reducible refine Below.setCell ?_ ?_ _); rotate_left; · (first | omega | exact Nat.le_refl _ | (simp <;> omega))) | (with_reducible refine Below.allocW ?_ _) | (with_reducible refine Below.drew ?_) | (with_reducible refine Below.extW ?_ _))) hb1
        have s1 : w.heap.size ≤ w1.heap.size := B1.size
        have T1 := Lib.hid (Sr.out.keep (B' := w1.heap.size) hb1.size fun p hp => hb1.cell hp)
        have HB1 := Lib.hid (hB.trans (hb1.mono hsz))
        go_wp2_with fail
        refine (Hj.out _ T1.out).mono ?_
        rintro e w4 ⟨rfl, hb4⟩
        have B4 : Below w.heap.size w w4 := Below.then_ (by repeat (first | with_reducible exact Below.refl _ _ | with_reducible assumption | ((with_reducible refine Below.setCell ?_ ?_ _); rotate_left; · (first | omega | exact Nat.le_refl _ | (simp <;> omega))) | (with_reducible refine Below.allocW ?_ _) | (with_reducible refine Below.drew ?_) | (with_reducible refine Below.extW ?_ _))) hb4
        have s4 : w.heap.size ≤ w4.heap.size := B4.size
        have T4 := Lib.hid (T1.out.keep (B' := w4.heap.size) hb4.size fun p hp => hb4.cell hp)
        have HB4 := Lib.hid (HB1.out.trans (hb4.mono HB1.out.size))
        go_wp2_with fail
        refine (Lj.out _ T4.out).mono ?_
        rintro e w5 ⟨rfl, hb5⟩
        have B5 : Below w.heap.size w w5 := Below.then_ (by repeat (first | with_reducible exact Below.refl _ _ | with_reducible assumption | ((with_reducible refine Below.setCell ?_ ?_ _); rotate_left; · (first | omega | exact Nat.le_refl _ | (simp <;> omega))) | (with_reducible refine Below.allocW ?_ _) | (with_reducible refine Below.drew ?_) | (with_reducible refine Below.extW ?_ _))) hb5
        have s5 : w.heap.size ≤ w5.heap.size := B5.size
        have HB5 := HB4.out.trans (hb5.mono HB4.out.size)
        go_wp2_with fail
        go_roundw
        case rel => exact ⟨j + 1, by omega, by go_num, by rw [ER.out], by rw [ER.out], HB5⟩
        case measure => simp [intOf]; omega
      · have ER := Lib.hid (show worstPre l r (r.take (j + 1)) = (px, pg) by rw [E7.out, if_neg (by simp only [decide_eq_false_iff_not] at c1 c3; omega)])
        have c4 : (m1 - n1 == pg) = true := by simpa using c2
        clear c2
        go_wp2_with fail
        refine (HE.out _).mono ?_
        rintro e w1 ⟨rfl, hb1⟩
        have B1 : Below w.heap.size w w1 := Below.then_ (by repeat (first | with_reducible exact Below.refl _ _ | with_reducible assumption | ((with_reducible refine Below.setCell ?_ ?_ _); rotate_left; · (first | omega | exact Nat.le_refl _ | (simp <;> omega))) | (with_reducible refine Below.allocW ?_ _) | (with_reducible refine Below.drew ?_) | (with_reducible refine Below.extW ?_ _))) hb1
        have s1 : w.heap.size ≤ w1.heap.size := B1.size
        have T1 := Lib.hid (Sr.out.keep (B' := w1.heap.size) hb1.size fun p hp => hb1.cell hp)
        have HB1 := Lib.hid (hB.trans (hb1.mono hsz))
        go_wp2_with fail
        refine (Hj.out _ T1.out).mono ?_
        rintro e w4 ⟨rfl, hb4⟩
        have B4 : Below w.heap.size w w4 := Below.then_ (by repeat (first | with_reducible exact Below.refl _ _ | with_reducible assumption | ((with_reducible refine Below.setCell ?_ ?_ _); rotate_left; · (first | omega | exact Nat.le_refl _ | (simp <;> omega))) | (with_reducible refine Below.allocW ?_ _) | (with_reducible refine Below.drew ?_) | (with_reducible refine Below.extW ?_ _))) hb4
        have s4 : w.heap.size ≤ w4.heap.size := B4.size
        have T4 := Lib.hid (T1.out.keep (B' := w4.heap.size) hb4.size fun p hp => hb4.cell hp)
        have HB4 := Lib.hid (HB1.out.trans (hb4.mono HB1.out.size))
        go_wp2_with fail
        refine (Lj.out _ T4.out).mono ?_
        rintro e w5 ⟨rfl, hb5⟩
        have B5 : Below w.heap.size w w5 := Below.then_ (by repeat (first | with_reducible exact Below.refl _ _ | with_reducible assumption | ((with_reducible refine Below.setCell ?_ ?_ _); rotate_left; · (first | omega | exact Nat.le_refl _ | (simp <;> omega))) | (with_reducible refine Below.allocW ?_ _) | (with_reducible refine Below.drew ?_) | (with_reducible refine Below.extW ?_ _))) hb5
        have s5 : w.heap.size ≤ w5.heap.size := B5.size
        have HB5 := HB4.out.trans (hb5.mono HB4.out.size)
        go_wp2_with fail
        go_roundw
        case rel => exact ⟨j + 1, by omega, by go_num, by rw [ER.out], by rw [ER.out], HB5⟩
        case measure => simp [intOf]; omega
      · have ER := Lib.hid (show worstPre l r (r.take (j + 1)) = (px, pg) by rw [E7.out, if_neg (by simp only [decide_eq_false_iff_not, beq_eq_false_iff_ne, ne_eq] at c1 c2; omega)])
        go_wp2_with fail
        refine (HE.out _).mono ?_
        rintro e w1 ⟨rfl, hb1⟩
        have B1 : Below w.heap.size w w1 := Below.then_ (by repeat (first | with_reducible exact Below.refl _ _ | with_reducible assumption | ((with_reducible refine Below.setCell ?_ ?_ _); rotate_left; · (first | omega | exact Nat.le_refl _ | (simp <;> omega))) | (with_reducible refine Below.allocW ?_ _) | (with_reducible refine Below.drew ?_) | (with_reducible refine Below.extW ?_ _))) hb1
        have s1 : w.heap.size ≤ w1.heap.size := B1.size
        have T1 := Lib.hid (Sr.out.keep (B' := w1.heap.size) hb1.size fun p hp => hb1.cell hp)
        have HB1 := Lib.hid (hB.trans (hb1.mono hsz))
        go_wp2_with fail
        refine (Hj.out _ T1.out).mono ?_
        rintro e w4 ⟨rfl, hb4⟩
        have B4 : Below w.heap.size w w4 := Below.then_ (by repeat (first | with_reducible exact Below.refl _ _ | with_reducible assumption | ((with_reducible refine Below.setCell ?_ ?_ _); rotate_left; · (first | omega | exact Nat.le_refl _ | (simp <;> omega))) | (with_reducible refine Below.allocW ?_ _) | (with_reducible refine Below.drew ?_) | (with_reducible refine Below.extW ?_ _))) hb4
        have s4 : w.heap.size ≤ w4.heap.size := B4.size
        have T4 := Lib.hid (T1.out.keep (B' := w4.heap.size) hb4.size fun p hp => hb4.cell hp)
        have HB4 := Lib.hid (HB1.out.trans (hb4.mono HB1.out.size))
        go_wp2_with fail
        refine (Lj.out _ T4.out).mono ?_
        rintro e w5 ⟨rfl, hb5⟩
        have B5 : Below w.heap.size w w5 := Below.then_ (by repeat (first | with_reducible exact Below.refl _ _ | with_reducible assumption | ((with_reducible refine Below.setCell ?_ ?_ _); rotate_left; · (first | omega | exact Nat.le_refl _ | (simp <;> omega))) | (with_reducible refine Below.allocW ?_ _) | (with_reducible refine Below.drew ?_) | (with_reducible refine Below.extW ?_ _))) hb5
        have s5 : w.heap.size ≤ w5.heap.size := B5.size
        have HB5 := HB4.out.trans (hb5.mono HB4.out.size)
        go_wp2_with fail
        go_roundw
        case rel => exact ⟨j + 1, by omega, by go_num, by rw [ER.out], by rw [ER.out], HB5⟩
        case measure => simp [intOf]; omega
    · obtain rfl : j = r.length := by omega
      have ET := Lib.hid (List.take_length (l := r))
      go_wp2_with fail
      go_ret2
      exact ⟨by rw [ET.out]; rfl, W3.out.trans (hB.mono W3.out.size)⟩
end Go.Proofs.YtbmmkhbdcaokkaaGreat
/- Chapter 20's example. -/
namespace Go.Proofs.YtbmmkhbdcaokkaaGreat
open Go.ChangeShapes Go.WideShapes Go.ChangeAt Go.RowKit
set_option linter.unusedVariables false
set_option maxRecDepth 100000

theorem least20 : leastT ((2 : Nat) : Int) nodes16 = (0, 0, 0) := by decide +kernel
theorem most20 : mostT ((2 : Nat) : Int) nodes16 = (3, 3, 0) := by decide +kernel
theorem mean20 : meanT ((2 : Nat) : Int) nodes16 = (1, 2, 0) := by decide +kernel
theorem worst20 : worstT ((2 : Nat) : Int) nodes16 = (0, 1, 0) := by decide +kernel
theorem alive20 (w : World) : Calls Tryz.prog 32 #[] w fun e w' => e = .returned (.bool true) ∧ Below w.heap.size w w' := by
  have HS := Lib.hid (sl_lit w encN nodes16 108 _ rfl)
  have HC := Lib.hid (digest_Load · 2 2 4 (some ⟨w.heap.size, 0, none⟩) 3 nodes16 load16 · nodes16_ints (by decide))
  go_enter Tryz.func32, Tryz.ntmps32
  go_wp2_with fail
  refine (HC.out _ (HS.out.keep (by simp) fun p hp => rfl)).mono ?_
  rintro e w1 ⟨g, F, rfl, hD, _, hb1⟩
  have B1 : Below w.heap.size w w1 := Below.then_ (by repeat (first | with_reducible exact Below.refl _ _ | with_reducible assumption | ((with_reducible refine Below.setCell ?_ ?_ _); rotate_left; · (first | omega | exact Nat.le_refl _ | (simp <;> omega))) | (with_reducible refine Below.allocW ?_ _) | (with_reducible refine Below.drew ?_) | (with_reducible refine Below.extW ?_ _))) hb1
  have s1 : w.heap.size ≤ w1.heap.size := B1.size
  have KD := Lib.hid hD
  clear hD
  go_wp2_with fail
  refine (bound_Least _ g 2 2 4 nodes16 F KD.out (by decide)).mono ?_
  rintro e w2 ⟨rfl, hb2⟩
  have B2 : Below w.heap.size w w2 := Below.then_ (by repeat (first | with_reducible exact Below.refl _ _ | with_reducible assumption | ((with_reducible refine Below.setCell ?_ ?_ _); rotate_left; · (first | omega | exact Nat.le_refl _ | (simp <;> omega))) | (with_reducible refine Below.allocW ?_ _) | (with_reducible refine Below.drew ?_) | (with_reducible refine Below.extW ?_ _))) hb2
  have s2 : w.heap.size ≤ w2.heap.size := B2.size
  rw [least20]
  unfold bothV
  have KD2 := Lib.hid ((KD.out.below hb2).alloc (.cells #[.int .i64 0, .int .i64 0] 29))
  go_wp2_with fail
  refine (bound_Greatest _ g 2 2 4 nodes16 F KD2.out (by decide)).mono ?_
  rintro e w3 ⟨rfl, hb3⟩
  have B3 : Below w.heap.size w w3 := Below.then_ (by repeat (first | with_reducible exact Below.refl _ _ | with_reducible assumption | ((with_reducible refine Below.setCell ?_ ?_ _); rotate_left; · (first | omega | exact Nat.le_refl _ | (simp <;> omega))) | (with_reducible refine Below.allocW ?_ _) | (with_reducible refine Below.drew ?_) | (with_reducible refine Below.extW ?_ _))) hb3
  have s3 : w.heap.size ≤ w3.heap.size := B3.size
  have z3_0 : w2.heap.size < w3.heap.size := by have := hb3.size; (try simp at this); omega
  have y3_0 : w2.heap.size ≤ w3.heap.size := Nat.le_of_lt z3_0
  have c3_0 := fun o => hb3.cell (p := ⟨w2.heap.size, o, none⟩) (by first | omega | (simp <;> omega))
  have f3_0 := fun o => hb3.frozen (p := ⟨w2.heap.size, o, none⟩) (by first | omega | (simp <;> omega))
  rw [most20]
  unfold bothV
  have KD3 := Lib.hid ((KD2.out.below hb3).alloc (.cells #[.int .i64 3, .int .i64 3] 29))
  go_wp2_with fail
  refine (bound_Mean _ g 2 2 4 nodes16 F KD3.out (by decide)).mono ?_
  rintro e w4 ⟨rfl, hb4⟩
  have B4 : Below w.heap.size w w4 := Below.then_ (by repeat (first | with_reducible exact Below.refl _ _ | with_reducible assumption | ((with_reducible refine Below.setCell ?_ ?_ _); rotate_left; · (first | omega | exact Nat.le_refl _ | (simp <;> omega))) | (with_reducible refine Below.allocW ?_ _) | (with_reducible refine Below.drew ?_) | (with_reducible refine Below.extW ?_ _))) hb4
  have s4 : w.heap.size ≤ w4.heap.size := B4.size
  have z4_0 : w2.heap.size < w4.heap.size := by have := hb4.size; (try simp at this); omega
  have y4_0 : w2.heap.size ≤ w4.heap.size := Nat.le_of_lt z4_0
  have c4_0 := fun o => hb4.cell (p := ⟨w2.heap.size, o, none⟩) (by first | omega | (simp <;> omega))
  have f4_0 := fun o => hb4.frozen (p := ⟨w2.heap.size, o, none⟩) (by first | omega | (simp <;> omega))
  have z4_1 : w3.heap.size < w4.heap.size := by have := hb4.size; (try simp at this); omega
  have y4_1 : w3.heap.size ≤ w4.heap.size := Nat.le_of_lt z4_1
  have c4_1 := fun o => hb4.cell (p := ⟨w3.heap.size, o, none⟩) (by first | omega | (simp <;> omega))
  have f4_1 := fun o => hb4.frozen (p := ⟨w3.heap.size, o, none⟩) (by first | omega | (simp <;> omega))
  rw [mean20]
  unfold bothV
  have KD4 := Lib.hid ((KD3.out.below hb4).alloc (.cells #[.int .i64 1, .int .i64 2] 29))
  go_wp2_with fail
  refine (bound_Worst _ g 2 2 4 nodes16 F KD4.out (by decide)).mono ?_
  rintro e w5 ⟨rfl, hb5⟩
  have B5 : Below w.heap.size w w5 := Below.then_ (by repeat (first | with_reducible exact Below.refl _ _ | with_reducible assumption | ((with_reducible refine Below.setCell ?_ ?_ _); rotate_left; · (first | omega | exact Nat.le_refl _ | (simp <;> omega))) | (with_reducible refine Below.allocW ?_ _) | (with_reducible refine Below.drew ?_) | (with_reducible refine Below.extW ?_ _))) hb5
  have s5 : w.heap.size ≤ w5.heap.size := B5.size
  have z5_0 : w2.heap.size < w5.heap.size := by have := hb5.size; (try simp at this); omega
  have y5_0 : w2.heap.size ≤ w5.heap.size := Nat.le_of_lt z5_0
  have c5_0 := fun o => hb5.cell (p := ⟨w2.heap.size, o, none⟩) (by first | omega | (simp <;> omega))
  have f5_0 := fun o => hb5.frozen (p := ⟨w2.heap.size, o, none⟩) (by first | omega | (simp <;> omega))
  have z5_1 : w3.heap.size < w5.heap.size := by have := hb5.size; (try simp at this); omega
  have y5_1 : w3.heap.size ≤ w5.heap.size := Nat.le_of_lt z5_1
  have c5_1 := fun o => hb5.cell (p := ⟨w3.heap.size, o, none⟩) (by first | omega | (simp <;> omega))
  have f5_1 := fun o => hb5.frozen (p := ⟨w3.heap.size, o, none⟩) (by first | omega | (simp <;> omega))
  have z5_2 : w4.heap.size < w5.heap.size := by have := hb5.size; (try simp at this); omega
  have y5_2 : w4.heap.size ≤ w5.heap.size := Nat.le_of_lt z5_2
  have c5_2 := fun o => hb5.cell (p := ⟨w4.heap.size, o, none⟩) (by first | omega | (simp <;> omega))
  have f5_2 := fun o => hb5.frozen (p := ⟨w4.heap.size, o, none⟩) (by first | omega | (simp <;> omega))
  rw [worst20]
  unfold triV
  go_wp2_with fail
  go_ret
  exact ⟨rfl, (by repeat (first | with_reducible exact Below.refl _ _ | with_reducible assumption | ((with_reducible refine Below.setCell ?_ ?_ _); rotate_left; · (first | omega | exact Nat.le_refl _ | (simp <;> omega))) | (with_reducible refine Below.allocW ?_ _) | (with_reducible refine Below.drew ?_) | (with_reducible refine Below.extW ?_ _)))⟩
end Go.Proofs.YtbmmkhbdcaokkaaGreat
/- Chapter 20: where a digest tells least: the law. -/
namespace Go.Proofs.YtbmmkhbdcaokkaaGreat
open Go.ChangeShapes Go.WideShapes Go.ChangeAt Go.RowKit
set_option linter.unusedVariables false
set_option maxRecDepth 100000

theorem law_BoundWorst_no (l k K : Int) (r : List Nd) (A : Option Addr) (cap : Nat) (a b : Int) (w : World) (h : ¬ goodL l k K r) (hS : Sl w w.heap.size encN A r) (hI : ints r) (hm : r.length ≤ maxLen) :
    Calls Tryz.prog 11 #[loadedV l k K A r.length cap, .int .i64 a, .int .i64 b] w fun e w' => e = .returned (.bool true) ∧ Below w.heap.size w w' := by
  have HC := Lib.hid (law16_Load_no · l k K A cap r h · hI hm)
  have HS := Lib.hid hS
  clear h hS
  unfold loadedV refDig at HC
  unfold loadedV
  go_enter Tryz.func11, Tryz.ntmps11
  go_wp2_with fail
  refine (HC.out _ (HS.out.keep (by simp) fun p hp => Go.RowKit.Below.cell (B := w.heap.size) (w := w) (by repeat (first | with_reducible exact Below.refl _ _ | with_reducible assumption | ((with_reducible refine Below.setCell ?_ ?_ _); rotate_left; · (first | omega | exact Nat.le_refl _ | (simp <;> omega))) | (with_reducible refine Below.allocW ?_ _) | (with_reducible refine Below.drew ?_) | (with_reducible refine Below.extW ?_ _))) hp)).mono ?_
  rintro e w1 ⟨rfl, hb1⟩
  have B1 : Below w.heap.size w w1 := Below.then_ (by repeat (first | with_reducible exact Below.refl _ _ | with_reducible assumption | ((with_reducible refine Below.setCell ?_ ?_ _); rotate_left; · (first | omega | exact Nat.le_refl _ | (simp <;> omega))) | (with_reducible refine Below.allocW ?_ _) | (with_reducible refine Below.drew ?_) | (with_reducible refine Below.extW ?_ _))) hb1
  have s1 : w.heap.size ≤ w1.heap.size := B1.size
  have z1_0 : w.heap.size < w1.heap.size := by have := hb1.size; (try simp at this); omega
  have y1_0 : w.heap.size ≤ w1.heap.size := Nat.le_of_lt z1_0
  have c1_0 := fun o => hb1.cell (p := ⟨w.heap.size, o, none⟩) (by first | omega | (simp <;> omega))
  have f1_0 := fun o => hb1.frozen (p := ⟨w.heap.size, o, none⟩) (by first | omega | (simp <;> omega))
  go_wp2_with fail
  refine (alive20 _).mono ?_
  rintro e w2 ⟨rfl, hb2⟩
  have B2 : Below w.heap.size w w2 := Below.then_ (by repeat (first | with_reducible exact Below.refl _ _ | with_reducible assumption | ((with_reducible refine Below.setCell ?_ ?_ _); rotate_left; · (first | omega | exact Nat.le_refl _ | (simp <;> omega))) | (with_reducible refine Below.allocW ?_ _) | (with_reducible refine Below.drew ?_) | (with_reducible refine Below.extW ?_ _))) hb2
  have s2 : w.heap.size ≤ w2.heap.size := B2.size
  go_wp2_with fail
  go_ret
  exact ⟨rfl, (by repeat (first | with_reducible exact Below.refl _ _ | with_reducible assumption | ((with_reducible refine Below.setCell ?_ ?_ _); rotate_left; · (first | omega | exact Nat.le_refl _ | (simp <;> omega))) | (with_reducible refine Below.allocW ?_ _) | (with_reducible refine Below.drew ?_) | (with_reducible refine Below.extW ?_ _)))⟩
set_option maxHeartbeats 2000000 in
theorem law_BoundWorst_yes (l K : Nat) (k : Int) (r : List Nd) (A : Option Addr) (cap : Nat) (a b : Int) (w : World) (h : goodL l k K r) (hS : Sl w w.heap.size encN A r) (hI : ints r) (ha : i64 a) (hb : i64 b) :
    Calls Tryz.prog 11 #[loadedV l k K A r.length cap, .int .i64 a, .int .i64 b] w fun e w' => e = .returned (.bool true) ∧ Below w.heap.size w w' := by
  have hn : r.length ≤ 67108864 := by have := h.1; omega
  have hr := (goodL_parts h.2.2).1
  have hf := right_fits hr
  have HC := Lib.hid (law16_Load · l K k A cap r h · hI)
  have HS := Lib.hid hS
  have HW := Lib.hid (fun g F (W : World) h => bound_Worst W g K l k r F h hn)
  have HI2 := Lib.hid (fun g F (W : World) h => bound_Within W g K l k r F a b h hn hr ha hb)
  have HN := Lib.hid (fun g F (W : World) h => digest_N W g K l k r F h)
  have HR := Lib.hid (fun (W : World) (hs : Sl W W.heap.size encN A r) => ref20_Worst W k l A cap r hs hI hn hf.1.roll hf.1.sum hr)
  have hs0 := sumR_nonneg hf.1.roll
  have hs1 := hf.1.sum
  have hwr := worstPre_range hf.1.roll hr hf.1.sum r
  unfold triV worstT at HW
  clear h hS hr hf hI
  unfold loadedV refDig at HC
  unfold loadedV
  go_enter Tryz.func11, Tryz.ntmps11
  go_wp2_with fail
  refine (HC.out _ (HS.out.keep (by simp) fun p hp => Go.RowKit.Below.cell (B := w.heap.size) (w := w) (by repeat (first | with_reducible exact Below.refl _ _ | with_reducible assumption | ((with_reducible refine Below.setCell ?_ ?_ _); rotate_left; · (first | omega | exact Nat.le_refl _ | (simp <;> omega))) | (with_reducible refine Below.allocW ?_ _) | (with_reducible refine Below.drew ?_) | (with_reducible refine Below.extW ?_ _))) hp)).mono ?_
  rintro e w1 ⟨g, F, rfl, hD, _, hb1⟩
  have B1 : Below w.heap.size w w1 := Below.then_ (by repeat (first | with_reducible exact Below.refl _ _ | with_reducible assumption | ((with_reducible refine Below.setCell ?_ ?_ _); rotate_left; · (first | omega | exact Nat.le_refl _ | (simp <;> omega))) | (with_reducible refine Below.allocW ?_ _) | (with_reducible refine Below.drew ?_) | (with_reducible refine Below.extW ?_ _))) hb1
  have s1 : w.heap.size ≤ w1.heap.size := B1.size
  have z1_0 : w.heap.size < w1.heap.size := by have := hb1.size; (try simp at this); omega
  have y1_0 : w.heap.size ≤ w1.heap.size := Nat.le_of_lt z1_0
  have c1_0 := fun o => hb1.cell (p := ⟨w.heap.size, o, none⟩) (by first | omega | (simp <;> omega))
  have f1_0 := fun o => hb1.frozen (p := ⟨w.heap.size, o, none⟩) (by first | omega | (simp <;> omega))
  have KD := Lib.hid (hD.alloc (.cells #[.int .i64 k, .int .i64 l, .slice A r.length cap] 37))
  have N1 := Lib.hid (heap_alloc_new w1 (.cells #[.int .i64 k, .int .i64 l, .slice A r.length cap] 37))
  clear hD
  by_cases h0 : sumR r = 0
  · have e : withinT l r a b = (false, 7) := by unfold withinT; rw [if_pos h0]
    rw [if_pos h0] at HW
    rw [e] at HI2
    rw [h0] at HN
    clear h0 e
    go_wp2_with fail
    refine (HW.out g F _ KD.out).mono ?_
    rintro e w2 ⟨rfl, hb2⟩
    have B2 : Below w.heap.size w w2 := Below.then_ (by repeat (first | with_reducible exact Below.refl _ _ | with_reducible assumption | ((with_reducible refine Below.setCell ?_ ?_ _); rotate_left; · (first | omega | exact Nat.le_refl _ | (simp <;> omega))) | (with_reducible refine Below.allocW ?_ _) | (with_reducible refine Below.drew ?_) | (with_reducible refine Below.extW ?_ _))) hb2
    have s2 : w.heap.size ≤ w2.heap.size := B2.size
    have z2_0 : w.heap.size < w2.heap.size := by have := hb2.size; (try simp at this); omega
    have y2_0 : w.heap.size ≤ w2.heap.size := Nat.le_of_lt z2_0
    have c2_0 := fun o => hb2.cell (p := ⟨w.heap.size, o, none⟩) (by first | omega | (simp <;> omega))
    have f2_0 := fun o => hb2.frozen (p := ⟨w.heap.size, o, none⟩) (by first | omega | (simp <;> omega))
    have KD2 := Lib.hid (KD.out.below hb2)
    go_wp2_with fail
    refine (HI2.out g F _ KD2.out).mono ?_
    rintro e w3 ⟨rfl, hb3⟩
    have B3 : Below w.heap.size w w3 := Below.then_ (by repeat (first | with_reducible exact Below.refl _ _ | with_reducible assumption | ((with_reducible refine Below.setCell ?_ ?_ _); rotate_left; · (first | omega | exact Nat.le_refl _ | (simp <;> omega))) | (with_reducible refine Below.allocW ?_ _) | (with_reducible refine Below.drew ?_) | (with_reducible refine Below.extW ?_ _))) hb3
    have s3 : w.heap.size ≤ w3.heap.size := B3.size
    have z3_0 : w.heap.size < w3.heap.size := by have := hb3.size; (try simp at this); omega
    have y3_0 : w.heap.size ≤ w3.heap.size := Nat.le_of_lt z3_0
    have c3_0 := fun o => hb3.cell (p := ⟨w.heap.size, o, none⟩) (by first | omega | (simp <;> omega))
    have f3_0 := fun o => hb3.frozen (p := ⟨w.heap.size, o, none⟩) (by first | omega | (simp <;> omega))
    have KD3 := Lib.hid (KD2.out.below hb3)
    go_wp2_with fail
    refine (HN.out g F _ KD3.out).mono ?_
    rintro e w4 ⟨rfl, hb4⟩
    have B4 : Below w.heap.size w w4 := Below.then_ (by repeat (first | with_reducible exact Below.refl _ _ | with_reducible assumption | ((with_reducible refine Below.setCell ?_ ?_ _); rotate_left; · (first | omega | exact Nat.le_refl _ | (simp <;> omega))) | (with_reducible refine Below.allocW ?_ _) | (with_reducible refine Below.drew ?_) | (with_reducible refine Below.extW ?_ _))) hb4
    have s4 : w.heap.size ≤ w4.heap.size := B4.size
    have z4_0 : w.heap.size < w4.heap.size := by have := hb4.size; (try simp at this); omega
    have y4_0 : w.heap.size ≤ w4.heap.size := Nat.le_of_lt z4_0
    have c4_0 := fun o => hb4.cell (p := ⟨w.heap.size, o, none⟩) (by first | omega | (simp <;> omega))
    have f4_0 := fun o => hb4.frozen (p := ⟨w.heap.size, o, none⟩) (by first | omega | (simp <;> omega))
    go_wp2_with fail
    refine (alive20 _).mono ?_
    rintro e w5 ⟨rfl, hb5⟩
    have B5 : Below w.heap.size w w5 := Below.then_ (by repeat (first | with_reducible exact Below.refl _ _ | with_reducible assumption | ((with_reducible refine Below.setCell ?_ ?_ _); rotate_left; · (first | omega | exact Nat.le_refl _ | (simp <;> omega))) | (with_reducible refine Below.allocW ?_ _) | (with_reducible refine Below.drew ?_) | (with_reducible refine Below.extW ?_ _))) hb5
    have s5 : w.heap.size ≤ w5.heap.size := B5.size
    go_wp2_with fail
    go_ret
    exact ⟨rfl, (by repeat (first | with_reducible exact Below.refl _ _ | with_reducible assumption | ((with_reducible refine Below.setCell ?_ ?_ _); rotate_left; · (first | omega | exact Nat.le_refl _ | (simp <;> omega))) | (with_reducible refine Below.allocW ?_ _) | (with_reducible refine Below.drew ?_) | (with_reducible refine Below.extW ?_ _)))⟩
  · rw [if_neg h0] at HW
    have hN0 : ((sumR r) == 0) = false := by simpa using h0
    have e : withinT l r a b = if a < 0 ∨ b < 1 then (false, 2) else (decide (ordV (worstPre l r r).2.toNat b.toNat a.toNat (sumR r).toNat ≤ 0), 0) := by unfold withinT; rw [if_neg h0]
    rw [e] at HI2
    clear h0 e
    generalize (worstPre (l : Int) r r).2 = gp at HW HR HI2 hwr
    generalize (worstPre (l : Int) r r).1 = x at HW HR
    generalize sumR r = n at hs0 hs1 HN HI2 hN0
    obtain ⟨gp, rfl⟩ := Int.eq_ofNat_of_zero_le hwr.1
    obtain ⟨n, rfl⟩ := Int.eq_ofNat_of_zero_le hs0
    by_cases hc : a < 0 ∨ b < 1
    · rw [if_pos hc] at HI2
      rcases (show a < 0 ∨ (decide (a < 0) = false ∧ b < 1) by by_cases hn : a < 0; exact .inl hn; exact .inr ⟨by simpa using hn, by omega⟩) with c1 | ⟨c1, c2⟩
      all_goals (
        clear hc
        go_wp2_with fail
        refine (HW.out g F _ KD.out).mono ?_
        rintro e w2 ⟨rfl, hb2⟩
        have B2 : Below w.heap.size w w2 := Below.then_ (by repeat (first | with_reducible exact Below.refl _ _ | with_reducible assumption | ((with_reducible refine Below.setCell ?_ ?_ _); rotate_left; · (first | omega | exact Nat.le_refl _ | (simp <;> omega))) | (with_reducible refine Below.allocW ?_ _) | (with_reducible refine Below.drew ?_) | (with_reducible refine Below.extW ?_ _))) hb2
        have s2 : w.heap.size ≤ w2.heap.size := B2.size
        have z2_0 : w.heap.size < w2.heap.size := by have := hb2.size; (try simp at this); omega
        have y2_0 : w.heap.size ≤ w2.heap.size := Nat.le_of_lt z2_0
        have c2_0 := fun o => hb2.cell (p := ⟨w.heap.size, o, none⟩) (by first | omega | (simp <;> omega))
        have f2_0 := fun o => hb2.frozen (p := ⟨w.heap.size, o, none⟩) (by first | omega | (simp <;> omega))
        have KD2 := Lib.hid (KD.out.below hb2)
        have N2 := Lib.hid (blk_below N1.out hb2)
        go_wp2_with fail
        refine (HI2.out g F _ KD2.out).mono ?_
        rintro e w3 ⟨rfl, hb3⟩
        have B3 : Below w.heap.size w w3 := Below.then_ (by repeat (first | with_reducible exact Below.refl _ _ | with_reducible assumption | ((with_reducible refine Below.setCell ?_ ?_ _); rotate_left; · (first | omega | exact Nat.le_refl _ | (simp <;> omega))) | (with_reducible refine Below.allocW ?_ _) | (with_reducible refine Below.drew ?_) | (with_reducible refine Below.extW ?_ _))) hb3
        have s3 : w.heap.size ≤ w3.heap.size := B3.size
        have z3_0 : w.heap.size < w3.heap.size := by have := hb3.size; (try simp at this); omega
        have y3_0 : w.heap.size ≤ w3.heap.size := Nat.le_of_lt z3_0
        have c3_0 := fun o => hb3.cell (p := ⟨w.heap.size, o, none⟩) (by first | omega | (simp <;> omega))
        have f3_0 := fun o => hb3.frozen (p := ⟨w.heap.size, o, none⟩) (by first | omega | (simp <;> omega))
        have KD3 := Lib.hid (KD2.out.below hb3)
        have N3 := Lib.hid (blk_below N2.out hb3)
        go_wp2_with fail
        refine (HN.out g F _ KD3.out).mono ?_
        rintro e w4 ⟨rfl, hb4⟩
        have B4 : Below w.heap.size w w4 := Below.then_ (by repeat (first | with_reducible exact Below.refl _ _ | with_reducible assumption | ((with_reducible refine Below.setCell ?_ ?_ _); rotate_left; · (first | omega | exact Nat.le_refl _ | (simp <;> omega))) | (with_reducible refine Below.allocW ?_ _) | (with_reducible refine Below.drew ?_) | (with_reducible refine Below.extW ?_ _))) hb4
        have s4 : w.heap.size ≤ w4.heap.size := B4.size
        have z4_0 : w.heap.size < w4.heap.size := by have := hb4.size; (try simp at this); omega
        have y4_0 : w.heap.size ≤ w4.heap.size := Nat.le_of_lt z4_0
        have c4_0 := fun o => hb4.cell (p := ⟨w.heap.size, o, none⟩) (by first | omega | (simp <;> omega))
        have f4_0 := fun o => hb4.frozen (p := ⟨w.heap.size, o, none⟩) (by first | omega | (simp <;> omega))
        have n4 := blk_below N3.out hb4
        have cn4 := blk_cell n4
        have zn4 := lt_of_block n4
        have S4 := Lib.hid (HS.out.keep s4 fun p hp => B4.cell hp)
        clear n4
        go_wp2_with fail
        refine (HR.out _ S4.out).mono ?_
        rintro e w5 ⟨rfl, hb5⟩
        have B5 : Below w.heap.size w w5 := Below.then_ (by repeat (first | with_reducible exact Below.refl _ _ | with_reducible assumption | ((with_reducible refine Below.setCell ?_ ?_ _); rotate_left; · (first | omega | exact Nat.le_refl _ | (simp <;> omega))) | (with_reducible refine Below.allocW ?_ _) | (with_reducible refine Below.drew ?_) | (with_reducible refine Below.extW ?_ _))) hb5
        have s5 : w.heap.size ≤ w5.heap.size := B5.size
        go_wp2_with fail
        refine (alive20 _).mono ?_
        rintro e w6 ⟨rfl, hb6⟩
        have B6 : Below w.heap.size w w6 := Below.then_ (by repeat (first | with_reducible exact Below.refl _ _ | with_reducible assumption | ((with_reducible refine Below.setCell ?_ ?_ _); rotate_left; · (first | omega | exact Nat.le_refl _ | (simp <;> omega))) | (with_reducible refine Below.allocW ?_ _) | (with_reducible refine Below.drew ?_) | (with_reducible refine Below.extW ?_ _))) hb6
        have s6 : w.heap.size ≤ w6.heap.size := B6.size
        go_wp2_with fail
        go_ret
        exact ⟨rfl, (by repeat (first | with_reducible exact Below.refl _ _ | with_reducible assumption | ((with_reducible refine Below.setCell ?_ ?_ _); rotate_left; · (first | omega | exact Nat.le_refl _ | (simp <;> omega))) | (with_reducible refine Below.allocW ?_ _) | (with_reducible refine Below.drew ?_) | (with_reducible refine Below.extW ?_ _)))⟩)
    · rw [if_neg hc] at HI2
      obtain ⟨a, rfl⟩ := Int.eq_ofNat_of_zero_le (show 0 ≤ a by omega)
      obtain ⟨b, rfl⟩ := Int.eq_ofNat_of_zero_le (show 0 ≤ b by omega)
      have k1 : decide ((a : Int) < 0) = false := by simp
      have k2 : decide ((b : Int) < 1) = false := by simp; omega
      have HO := Lib.hid (ref1_Order · gp b a n (by omega) (by have := hb.2; omega) (by have := ha.2; omega) (by omega))
      simp only [Int.toNat_natCast] at HI2
      clear hc
      go_wp2_with fail
      refine (HW.out g F _ KD.out).mono ?_
      rintro e w2 ⟨rfl, hb2⟩
      have B2 : Below w.heap.size w w2 := Below.then_ (by repeat (first | with_reducible exact Below.refl _ _ | with_reducible assumption | ((with_reducible refine Below.setCell ?_ ?_ _); rotate_left; · (first | omega | exact Nat.le_refl _ | (simp <;> omega))) | (with_reducible refine Below.allocW ?_ _) | (with_reducible refine Below.drew ?_) | (with_reducible refine Below.extW ?_ _))) hb2
      have s2 : w.heap.size ≤ w2.heap.size := B2.size
      have z2_0 : w.heap.size < w2.heap.size := by have := hb2.size; (try simp at this); omega
      have y2_0 : w.heap.size ≤ w2.heap.size := Nat.le_of_lt z2_0
      have c2_0 := fun o => hb2.cell (p := ⟨w.heap.size, o, none⟩) (by first | omega | (simp <;> omega))
      have f2_0 := fun o => hb2.frozen (p := ⟨w.heap.size, o, none⟩) (by first | omega | (simp <;> omega))
      have KD2 := Lib.hid (KD.out.below hb2)
      have N2 := Lib.hid (blk_below N1.out hb2)
      go_wp2_with fail
      refine (HI2.out g F _ KD2.out).mono ?_
      rintro e w3 ⟨rfl, hb3⟩
      have B3 : Below w.heap.size w w3 := Below.then_ (by repeat (first | with_reducible exact Below.refl _ _ | with_reducible assumption | ((with_reducible refine Below.setCell ?_ ?_ _); rotate_left; · (first | omega | exact Nat.le_refl _ | (simp <;> omega))) | (with_reducible refine Below.allocW ?_ _) | (with_reducible refine Below.drew ?_) | (with_reducible refine Below.extW ?_ _))) hb3
      have s3 : w.heap.size ≤ w3.heap.size := B3.size
      have z3_0 : w.heap.size < w3.heap.size := by have := hb3.size; (try simp at this); omega
      have y3_0 : w.heap.size ≤ w3.heap.size := Nat.le_of_lt z3_0
      have c3_0 := fun o => hb3.cell (p := ⟨w.heap.size, o, none⟩) (by first | omega | (simp <;> omega))
      have f3_0 := fun o => hb3.frozen (p := ⟨w.heap.size, o, none⟩) (by first | omega | (simp <;> omega))
      have KD3 := Lib.hid (KD2.out.below hb3)
      have N3 := Lib.hid (blk_below N2.out hb3)
      go_wp2_with fail
      refine (HN.out g F _ KD3.out).mono ?_
      rintro e w4 ⟨rfl, hb4⟩
      have B4 : Below w.heap.size w w4 := Below.then_ (by repeat (first | with_reducible exact Below.refl _ _ | with_reducible assumption | ((with_reducible refine Below.setCell ?_ ?_ _); rotate_left; · (first | omega | exact Nat.le_refl _ | (simp <;> omega))) | (with_reducible refine Below.allocW ?_ _) | (with_reducible refine Below.drew ?_) | (with_reducible refine Below.extW ?_ _))) hb4
      have s4 : w.heap.size ≤ w4.heap.size := B4.size
      have z4_0 : w.heap.size < w4.heap.size := by have := hb4.size; (try simp at this); omega
      have y4_0 : w.heap.size ≤ w4.heap.size := Nat.le_of_lt z4_0
      have c4_0 := fun o => hb4.cell (p := ⟨w.heap.size, o, none⟩) (by first | omega | (simp <;> omega))
      have f4_0 := fun o => hb4.frozen (p := ⟨w.heap.size, o, none⟩) (by first | omega | (simp <;> omega))
      have KD4 := Lib.hid (KD3.out.below hb4)
      have n4 := blk_below N3.out hb4
      have cn4 := blk_cell n4
      have zn4 := lt_of_block n4
      have S4 := Lib.hid (HS.out.keep s4 fun p hp => B4.cell hp)
      clear n4
      go_wp2_with fail
      refine (HR.out _ S4.out).mono ?_
      rintro e w5 ⟨rfl, hb5⟩
      have B5 : Below w.heap.size w w5 := Below.then_ (by repeat (first | with_reducible exact Below.refl _ _ | with_reducible assumption | ((with_reducible refine Below.setCell ?_ ?_ _); rotate_left; · (first | omega | exact Nat.le_refl _ | (simp <;> omega))) | (with_reducible refine Below.allocW ?_ _) | (with_reducible refine Below.drew ?_) | (with_reducible refine Below.extW ?_ _))) hb5
      have s5 : w.heap.size ≤ w5.heap.size := B5.size
      go_wp2_with fail
      refine (HN.out g F _ (KD4.out.below hb5)).mono ?_
      rintro e w6 ⟨rfl, hb6⟩
      have B6 : Below w.heap.size w w6 := Below.then_ (by repeat (first | with_reducible exact Below.refl _ _ | with_reducible assumption | ((with_reducible refine Below.setCell ?_ ?_ _); rotate_left; · (first | omega | exact Nat.le_refl _ | (simp <;> omega))) | (with_reducible refine Below.allocW ?_ _) | (with_reducible refine Below.drew ?_) | (with_reducible refine Below.extW ?_ _))) hb6
      have s6 : w.heap.size ≤ w6.heap.size := B6.size
      go_wp2_with fail
      refine (HO.out _).mono ?_
      rintro e w7 ⟨rfl, hb7⟩
      have B7 : Below w.heap.size w w7 := Below.then_ (by repeat (first | with_reducible exact Below.refl _ _ | with_reducible assumption | ((with_reducible refine Below.setCell ?_ ?_ _); rotate_left; · (first | omega | exact Nat.le_refl _ | (simp <;> omega))) | (with_reducible refine Below.allocW ?_ _) | (with_reducible refine Below.drew ?_) | (with_reducible refine Below.extW ?_ _))) hb7
      have s7 : w.heap.size ≤ w7.heap.size := B7.size
      go_wp2_with fail
      refine (alive20 _).mono ?_
      rintro e w8 ⟨rfl, hb8⟩
      have B8 : Below w.heap.size w w8 := Below.then_ (by repeat (first | with_reducible exact Below.refl _ _ | with_reducible assumption | ((with_reducible refine Below.setCell ?_ ?_ _); rotate_left; · (first | omega | exact Nat.le_refl _ | (simp <;> omega))) | (with_reducible refine Below.allocW ?_ _) | (with_reducible refine Below.drew ?_) | (with_reducible refine Below.extW ?_ _))) hb8
      have s8 : w.heap.size ≤ w8.heap.size := B8.size
      go_wp2_with fail
      go_ret
      exact ⟨rfl, (by repeat (first | with_reducible exact Below.refl _ _ | with_reducible assumption | ((with_reducible refine Below.setCell ?_ ?_ _); rotate_left; · (first | omega | exact Nat.le_refl _ | (simp <;> omega))) | (with_reducible refine Below.allocW ?_ _) | (with_reducible refine Below.drew ?_) | (with_reducible refine Below.extW ?_ _)))⟩
theorem law_BoundWorst (l k K : Int) (r : List Nd) (A : Option Addr) (cap : Nat) (a b : Int) (W : World) (hS : Sl W W.heap.size encN A r) (hI : ints r) (_ : i64 l) (_ : i64 k) (_ : i64 K) (hm : r.length ≤ maxLen) (ha : (Lit.int .i64 a).wf = true) (hb : (Lit.int .i64 b).wf = true) :
    Calls Tryz.prog 11 #[loadedV l k K A r.length cap, .int .i64 a, .int .i64 b] W fun e W' => e = .returned (.bool true) ∧ Below W.heap.size W W' := by
  by_cases h : goodL l k K r
  · obtain ⟨n, m, rfl, rfl⟩ := goodL_nat h.2.2
    exact law_BoundWorst_yes n m k r A cap a b W h hS hI (i64_of_wf ha) (i64_of_wf hb)
  · exact law_BoundWorst_no l k K r A cap a b W h hS hI hm
end Go.Proofs.YtbmmkhbdcaokkaaGreat
