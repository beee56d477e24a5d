/-
  Texts of this proof, one behind the other: DigCells, BoundsP, Ref19B, BinsBoundsW.
-/
import Derived.Test.YtbmmkhbdcaokkaaGreatP3
import Derived.Test.YtbmmkhbdcaokkaaGreatP4
import Derived.Test.YtbmmkhbdcaokkaaGreatP5
/- A digest's blocks are rows of cells: what an iterator's state turns is none of them. -/
set_option linter.unusedSimpArgs false namespace Go.Proofs.YtbmmkhbdcaokkaaGreat
open Go.ChangeShapes Go.WideShapes Go.ChangeAt Go.RowKit
set_option linter.unusedVariables false

theorem tyB : SliceTy Tryz.prog 73 29 2 16 (.agg #[.int .i64 0, .int .i64 0]) := ⟨Tryz.underlying73, by kernel_rfl, rfl, by decide⟩
theorem own_cells {α : Type} {size base e : Nat} {E : Enc α size} {w : World} {v : Value} {l : List α} (h : Own w base e E v l) {b : Nat} (hb : v.ownBlock = some b) : ∃ o, w.heap[b]? = some o ∧ o.isCells = true := by
  rcases h with ⟨rfl, _⟩ | ⟨g1, o1, c1, u1, rfl, _, hh1, _⟩
  · cases hb
  · have : g1 = b := by simpa [Value.ownBlock] using hb
    subst this
    exact ⟨_, hh1, rfl⟩
theorem DigAt.cells {w : World} {g K l : Nat} {k : Int} {r : List Nd} {F : Nat → Prop} (h : DigAt w g K l k r F) : ∀ b, F b → ∃ o, w.heap[b]? = some o ∧ o.isCells = true := by
  obtain ⟨h1, h2, p, F0, rfl, h3, h4⟩ := h
  rintro q (rfl | hq)
  · exact ⟨_, h3, rfl⟩
  · obtain ⟨a1, a2, a3, p2, F1, rfl, h5⟩ := h4
    rcases h5 with ⟨_, _, c, d⟩ | ⟨_, c, d⟩
    · rcases hq with rfl | hq
      · exact ⟨_, c, rfl⟩
      · obtain ⟨v, C, e1, e2, _, _, rfl⟩ := d
        rcases hq with rfl | hq
        · exact ⟨_, e1, rfl⟩
        · exact own_cells e2 hq
    · rcases hq with rfl | hq
      · exact ⟨_, c, rfl⟩
      · obtain ⟨v, S, b, e1, e2, _, _, _, _, rfl⟩ := d
        rcases hq with rfl | hq
        · exact ⟨_, e1, rfl⟩
        · exact own_cells e2 hq
theorem DigAt.grown {A B : World} {g K l : Nat} {k : Int} {r : List Nd} {F : Nat → Prop} {row : Option Nat} (h : DigAt A g K l k r F) (hg : A.grownBy B row) (hr : ∀ r, row = some r → ∃ o : Obj, A.heap[r]? = some o ∧ o.isCells = false) : DigAt B g K l k r F :=
  h.keep fun b hb => by
    obtain ⟨o, ho, hc⟩ := h.cells b hb
    exact hg.block b (h.lt b hb) fun e => by
      obtain ⟨o2, ho2, hc2⟩ := hr b e.symm
      rw [ho] at ho2; cases ho2
      rw [hc] at hc2; cases hc2
end Go.Proofs.YtbmmkhbdcaokkaaGreat
/- Package bins: Bounds. -/
namespace Go.Proofs.YtbmmkhbdcaokkaaGreat
open Go.ChangeShapes Go.WideShapes Go.ChangeAt Go.RowKit
set_option linter.unusedVariables false
set_option maxRecDepth 100000
attribute [local go_sem] Oper.semAt_some

/-- What Bounds tells of a run. -/
def bdOf (l : Int) (r : List Nd) (p : Int × Int) : Int × Int := ((betw l r p.1 p.2).1, (betw l r p.1 p.2).2.1)
def bdL (l : Nat) (r : List Nd) (es : List Int) : List (Int × Int) := if binErr l es = 0 then (runsL l es).map (bdOf l r) else []
def BdPost (l : Nat) (r : List Nd) (es : List Int) (w : World) (e : Ending) (w' : World) : Prop := ∃ v, e = .returned (.tuple #[v, .int .i64 (binErr l es)]) ∧ Own w' w.heap.size 29 encN v (bdL l r es) ∧ Below w.heap.size w w'
theorem betw_range {l : Int} {r : List Nd} (hr : Roll r) (a b : Int) : 0 ≤ (betw l r a b).1 ∧ (betw l r a b).1 ≤ sumR r ∧ 0 ≤ (betw l r a b).2.1 ∧ (betw l r a b).2.1 ≤ sumR r := by
  have h0 := sumR_nonneg hr
  unfold betw betwLow betwHigh
  split
  · simp only; omega
  · have h1 := weighR_le (l := l) (f := inLow a b) hr
    have h2 := weighR_le (l := l) (f := inHigh a b) hr
    simp only; omega
theorem bins_Bounds_nil (w : World) (v : Value) : Calls Tryz.prog 43 #[.pointer none, v] w fun e w' => e = .returned (.tuple #[.slice none 0 0, .int .i64 1]) ∧ Below w.heap.size w w' := by
  refine (callsIn_wide (n := 3)).1 ?_
  refine callsIn_of_wp_marks Tryz.func43 rfl trivial ?_ rfl
  simp only [Tryz.ntmps43, List.size_toArray, List.length_cons, List.length_nil, Nat.reduceAdd, Nat.reduceSub, Array.replicate_succ, Array.replicate_zero, List.push_toArray, List.append_toArray, List.nil_append, List.cons_append]
  gi_wp2_with fail
  refine ⟨trivial, ?_⟩
  refine (callsIn_wide.2 (bins_wrong_nil _ v)).mono ?_
  rintro e w1 ⟨rfl, hb1⟩
  have B1 := ((Below.refl w.heap.size w).alloc (Nat.le_refl _) (.cells #[.pointer none] 33)).trans (hb1.mono (by simp))
  gi_wp2_with fail
  exact ⟨.tuple #[.slice none 0 0, .int .i64 1], by simp [results, Tryz.f43, go_sem], rfl, B1⟩
/-- The state behind some runs. -/
structure BdI (w : World) (g K l : Nat) (k : Int) (r : List Nd) (F : Nat → Prop) (bt bo z : Nat) (pre : List (Int × Int)) (W : World) : Prop where
  t : W.heap[bt]? = some (.cells #[.pointer (some ⟨g, 0, none⟩)] 33 (0, 0))
  o : ∃ v, W.heap[bo]? = some (.cells #[v] 73 (0, 0)) ∧ Own W z 29 encN v (pre.map (bdOf l r))
  dig : DigAt W g K l k r F
  sz : z ≤ W.heap.size
set_option maxHeartbeats 1000000 in
theorem bins_Bounds (w : World) (g K l : Nat) (k : Int) (r : List Nd) (F : Nat → Prop) (A : Option Addr) (cap : Nat) (es : List Int) (h : DigAt w g K l k r F) (hn : r.length ≤ 67108864) (hS : Sl w w.heap.size encZ A es) (hm : es.length ≤ 67108864) (hr : rightOf l r = true) :
    Calls Tryz.prog 43 #[.pointer (some ⟨g, 0, none⟩), .slice A es.length cap] w (BdPost l r es w) := by
  have hl := h.l_le
  have hfit := h.fits
  have hflt := h.lt
  have HFl := Lib.hid hflt
  have BA0 : Below w.heap.size w (w.alloc (.cells #[.pointer (some ⟨g, 0, none⟩)] 33)) := (Below.refl _ _).alloc (Nat.le_refl _) _
  have HD := Lib.hid (h.alloc (.cells #[.pointer (some ⟨g, 0, none⟩)] 33))
  have HS := Lib.hid (hS.keep (B' := (w.alloc (.cells #[.pointer (some ⟨g, 0, none⟩)] 33)).heap.size) BA0.size fun p hp => BA0.cell hp)
  have T0 := Lib.hid (heap_alloc_new w (.cells #[.pointer (some ⟨g, 0, none⟩)] 33))
  have HW := Lib.hid (bins_wrong · g K l k r F A cap es · · hm)
  have BA := Lib.hid BA0
  clear h hS hflt BA0
  refine (callsIn_wide (n := 3)).1 ?_
  refine callsIn_of_wp_marks Tryz.func43 rfl trivial ?_ rfl
  simp only [Tryz.ntmps43, List.size_toArray, List.length_cons, List.length_nil, Nat.reduceAdd, Nat.reduceSub, Array.replicate_succ, Array.replicate_zero, List.push_toArray, List.append_toArray, List.nil_append, List.cons_append]
  gi_wp2_with fail
  refine ⟨trivial, ?_⟩
  refine (callsIn_wide.2 (HW.out _ HD.out HS.out)).mono ?_
  rintro e w1 ⟨rfl, hb1⟩
  have B1 : Below w.heap.size w w1 := BA.out.trans (hb1.mono BA.out.size)
  have s1 := B1.size
  have t1 := blk_below T0.out hb1
  have ct1 := blk_cell t1
  have zt1 := lt_of_block t1
  by_cases hE : binErr l es = 0
  · have HE := Lib.hid hE
    rw [hE]
    have hre : rightE l (-1) es = true := by unfold binErr at hE; split at hE <;> simp_all
    have hall := rightE_all es _ hre
    have p48 := pow_48 hl.2
    have S1 := Lib.hid (HS.out.keep (B' := w1.heap.size) hb1.size fun p hp => hb1.cell hp)
    have D2 := Lib.hid ((HD.out.below hb1).alloc (.cells #[.slice none 0 0] 73))
    have T2 := Lib.hid ((Below.heap_alloc w1 (.cells #[.slice none 0 0] 73) w.heap.size zt1).trans t1)
    have ct2 := blk_cell T2.out
    have zt2 : w.heap.size < (w1.alloc (.cells #[.slice none 0 0] 73)).heap.size := lt_of_block T2.out
    have O2 := Lib.hid (heap_alloc_new w1 (.cells #[.slice none 0 0] 73))
    clear hE hre t1
    gi_wp2_with fail
    refine ⟨trivial, ?_⟩
    refine (callsIn_wide.2 (digest_Conf _ g K l k r F D2.out)).mono ?_
    rintro e w3 ⟨rfl, hb3⟩
    have B3 : Below w.heap.size w w3 := (B1.alloc s1 _).trans (hb3.mono (by simp; omega))
    have s3 := B3.size
    have hb3s := hb3.size
    simp only [World.size_alloc] at hb3s
    have kt := blk_below T2.out hb3
    have ko := blk_below O2.out hb3
    have D3 := D2.out.below hb3
    gi_wp2_with fail
    refine ⟨trivial, ?_⟩
    refine (callsIn_wide.2 (bins_runs _ l A es.length cap)).mono ?_
    rintro e w4 ⟨rfl, rfl⟩
    gi_wp2_with fail
    have BA3 : Below w3.heap.size w3 ((w3.alloc (.cells #[.int .i64 l] 3)).alloc (.cells #[.slice A es.length cap] 27)) := ((Below.refl _ _).alloc (Nat.le_refl _) _).alloc (by simp) _
    have kt0 := Lib.hid (blk_below kt BA3)
    have ko0 := Lib.hid (blk_below ko BA3)
    have D0 := Lib.hid (D3.below BA3)
    have kbl := Lib.hid (show ((w3.alloc (.cells #[.int .i64 l] 3)).alloc (.cells #[.slice A es.length cap] 27)).heap[w3.heap.size]? = some (.cells #[.int .i64 l] 3 (0, 0)) from (Below.heap_alloc _ _ _ (by simp)).trans (heap_alloc_new w3 _))
    have kbe := Lib.hid (heap_new_at (w3.alloc (.cells #[.int .i64 l] 3)) (.cells #[.slice A es.length cap] 27) (w3.heap.size + 1) (by simp))
    have hB0 : Below w.heap.size w ((w3.alloc (.cells #[.int .i64 l] 3)).alloc (.cells #[.slice A es.length cap] 27)) := B3.trans (BA3.mono s3)
    have hB1 : Below w1.heap.size w1 ((w3.alloc (.cells #[.int .i64 l] 3)).alloc (.cells #[.slice A es.length cap] 27)) := (((Below.refl w1.heap.size w1).alloc (Nat.le_refl _) _).trans (hb3.mono (by simp))).trans (BA3.mono (by omega))
    have SX := Lib.hid (SlX.of (z := w3.heap.size + 2) (X := fun b => b = w1.heap.size) (S1.out.keep (Nat.le_refl _) fun p hp => hB1.cell hp) (by omega) (fun b hb => by rintro rfl; omega))
    have zW0 : ((w3.alloc (.cells #[.int .i64 l] 3)).alloc (.cells #[.slice A es.length cap] 27)).heap.size = w3.heap.size + 2 := by simp
    generalize (w3.alloc (.cells #[.int .i64 l] 3)).alloc (.cells #[.slice A es.length cap] 27) = W0 at kt0 ko0 D0 kbl kbe hB0 SX zW0 ⊢
    have HBt := Lib.hid (fun a b W (hD : DigAt W g K l k r F) => reach_Between W g K l k r F a b hD hn)
    unfold bothV at HBt
    clear kt ko D3 BA3 hB1 hb1 hb3 D2 S1 HD HS HW B1 B3 T0 T2 O2 BA ct1 ct2
    have hKB := Lib.hid (fun (W : World) (q : Nat) (o o' : Obj) (h : W.heap[q]? = some o) (hc : o.isCells = false) => keepX_b (z := w3.heap.size + 2) (X := fun b => b = w1.heap.size) W q o o' h hc)
    refine wpIn_rangeFunc_ownG rfl (by decide) (gf := 151) (lb := #[.pointer (some ⟨w3.heap.size + 1, 0, none⟩), .pointer (some ⟨w3.heap.size, 0, none⟩)]) rfl trivial (enters_of Tryz.func151 (by kernel_rfl) rfl)
      (runs_stops (3 - 1) (w3.heap.size + 1) w3.heap.size (w3.heap.size + 2) (fun b => b = w1.heap.size) l A cap es W0 (by decide) hl (by omega) kbe.out kbl.out SX.out (by omega) (fun (h : w3.heap.size + 1 = w1.heap.size) => by omega) (by omega) (fun (h : w3.heap.size = w1.heap.size) => by omega) (fun x hx => by have := hall x hx; omega) (fun x hx => (hall x hx).1) hm)
      keepX_t (fun W q o o' _ h hc _ => hKB.out W q o o' h hc) (Below.refl _ _) (fun _ => rfl)
      (fun pre W => BdI w g K l k r F w.heap.size w1.heap.size (w3.heap.size + 2) pre W ∧ Below w.heap.size w W)
      (fun _ _ _ => False)
      (OwnFrom.and (Go.Own.from (fun s A B row hs hg hr => ⟨row_grown hs.t hg hr, by obtain ⟨v, h1, h2⟩ := hs.o; exact ⟨v, row_grown h1 hg hr, own_grown h2 hg hr⟩, hs.dig.grown hg hr, Nat.le_trans hs.sz hg.size⟩) _) (ownFrom_below (Nat.le_refl _) (by omega)))
      (fun c => fun _ _ _ _ hs _ _ => hs)
      ⟨⟨kt0.out, ⟨_, ko0.out, Own.nil _ _ _ _⟩, D0.out, by omega⟩, hB0⟩
      (fun x => { tmps := #[.pointer (some ⟨g, 0, none⟩), .slice A es.length cap, .pointer (some ⟨w.heap.size, 0, none⟩), undef, .slice none 0 0, .int .i64 0, .int .i64 0, .pointer (some ⟨w1.heap.size, 0, none⟩), .int .i64 x.1, .int .i64 x.2, undef, undef,
        .pointer (some ⟨g, 0, none⟩), .slice A es.length cap, .int .i64 0, .int .i64 0, .bool false, undef, .pointer (some ⟨g, 0, none⟩), .agg #[.int .i64 l, .int .i64 k, .int .i64 K], .int .i64 l, .slice A es.length cap,
        .func (.func 151) #[] #[.pointer (some ⟨w3.heap.size + 1, 0, none⟩), .pointer (some ⟨w3.heap.size, 0, none⟩)], .int .i64 x.1, .int .i64 x.2, undef, undef, undef, undef, undef, undef, undef, undef, undef, undef, undef, undef], defers := [] }) ?assign ?body ?done ?stop
    case assign =>
      intro q x W Kc hK
      gi_wp2
      exact hK
    case body =>
      rintro q pre x W ⟨⟨ht, ⟨v, ho, hown⟩, hd, hsz⟩, hB⟩ hlen
      have KT := Lib.hid ht
      have KO := Lib.hid ho
      have KD := Lib.hid hd
      have KW := Lib.hid hown
      have HB := Lib.hid hB
      have ct := blk_cell ht
      have zt := lt_of_block ht
      have zo := lt_of_block ho
      have hW0 := (Own.lt hown)
      have br := betw_range (l := l) hfit.roll x.1 x.2
      have hs1 := hfit.sum
      have HX := Lib.hid (HBt.out x.1 x.2)
      have HSn : Hid ((pre ++ [x]).map (bdOf l r) = pre.map (bdOf l r) ++ [((betw l r x.1 x.2).1, (betw l r x.1 x.2).2.1)]) := Lib.hid (by rw [List.map_append]; rfl)
      have hlenL : (pre.map (bdOf (l : Int) r)).length = pre.length := by simp
      rw [runsL_len] at hlen
      generalize betw (l : Int) r x.1 x.2 = t at br HX HSn
      obtain ⟨p, p2, er⟩ := t
      simp only at br HX HSn
      generalize pre.map (bdOf (l : Int) r) = L at KO KW HSn hlenL ho hown
      have fo := blk_frozen ho
      clear ht ho hd hown hB
      gi_wp2_with fail
      refine ⟨trivial, ?_⟩
      refine (CallsIn.inRound q (callsIn_wide.2 (HX.out _ KD.out))).mono ?_
      rintro e w5 ⟨rfl, hb5⟩
      have s5 := hb5.size
      have ko5 := blk_below KO.out hb5
      have O5 := Lib.hid (KW.out.below hb5)
      have zz5 : w3.heap.size + 2 ≤ w5.heap.size := by omega
      have T5 := Lib.hid (blk_below KT.out hb5)
      have D5 := Lib.hid (KD.out.below hb5)
      have KO5 := Lib.hid ko5
      have co5 := blk_cell ((Below.heap_alloc w5 (.cells #[.int .i64 p, .int .i64 p2] 29) _ (lt_of_block ko5)).trans ko5)
      have zt5 : w1.heap.size < w5.heap.size := lt_of_block ko5
      clear ct fo ko5
      gi_wp2_with ((gi_at_builtin; refine wpListIn_push tyB rfl _ _ rfl encN (w5.alloc (.cells #[.int .i64 p, .int .i64 p2] 29)) (w3.heap.size + 2) v L rfl (O5.out.alloc _) (p, p2) (by go_simp) rfl ?c1 ?c2 ?c3 ?c4))
      case c1 => omega
      case c2 => simp only [maxLen]; omega
      case c3 => simp; omega
      case c4 =>
        intro v6 w6 hown6 hgrow6 _ hlies6 hb6 _
        obtain ⟨A6, c6, rfl, _⟩ := hown6.form
        have hrow : ∀ b, b < w3.heap.size + 2 → some b ≠ v.ownBlock := fun b hb h => by have := O5.out.lt b h.symm; omega
        have hb5' : Below W.heap.size W (w5.alloc (.cells #[.int .i64 p, .int .i64 p2] 29)) := hb5.alloc s5 _
        have s6 := hgrow6.size
        simp only [World.size_alloc] at s6
        have ko6 := (hgrow6.block w1.heap.size (by simp; omega) (hrow _ (by omega))).trans ((Below.heap_alloc w5 _ _ zt5).trans KO5.out)
        have kt6 := (hgrow6.block w.heap.size (by simp; omega) (hrow _ (by omega))).trans ((Below.heap_alloc w5 _ _ (lt_of_block T5.out)).trans T5.out)
        have D6 := Lib.hid (D5.out.keep fun b hb => (hgrow6.block b (by have := HFl.out b hb; simp; omega) (hrow b (by have := HFl.out b hb; omega))).trans (Below.heap_alloc w5 _ b (by have := HFl.out b hb; omega)))
        have KK : Hid (KeepX (w3.heap.size + 2) (fun b => b = w1.heap.size) W w6) := Lib.hid ((KeepX.of_below hb5').grown hgrow6 (fun b h => (O5.out.lt b h).1))
        have KF : Hid (KeepsFrom W0.heap.size W w6) := Lib.hid (((KeepsOthers.of_grownBy (grownBy_of_below hb5' none) (fun _ _ h => by cases h)).trans (KeepsOthers.of_grownBy hgrow6 (fun j o h ho => by
          obtain ⟨o2, h2, h3⟩ := own_cells (O5.out.alloc (.cells #[.int .i64 p, .int .i64 p2] 29)) h
          rw [h2] at ho; cases ho; exact h3))).from _)
        have BB : Hid (Below w.heap.size w w6) := Lib.hid ((HB.out.trans (hb5'.mono HB.out.size)).trans (hb6.mono (by omega)))
        have co6 := blk_cell ko6
        have fo6 := blk_frozen ko6
        have O6 := Lib.hid (show Own w6 (w3.heap.size + 2) 29 encN (.slice A6 (pre.length + 1) c6) (L ++ [(p, p2)]) by simpa [hlenL] using hown6)
        have KO6 := Lib.hid ko6
        have KT6 := Lib.hid kt6
        have zo6 : w1.heap.size < w6.heap.size := lt_of_block ko6
        have hwne : w.heap.size ≠ w1.heap.size := by omega
        clear hown6 hgrow6 hlies6 hb6 ko6 kt6 co5 hb5 hb5'
        gi_wp2_with fail
        refine ⟨KF.out.trans ((KeepsOthers.setCell _ _ _).from _), KK.out.set (.inl rfl) _, ⟨?_, ⟨.slice A6 (pre.length + 1) c6, ?_, ?_⟩, ?_, ?_⟩, BB.out.setCell (p := ⟨w1.heap.size, 0, none⟩) (by simp only; omega) _⟩
        · exact blk_set KT6.out hwne
        · exact heap_set_at (i := 0) KO6.out _
        · rw [HSn.out]
          exact O6.out.setCell (p := ⟨w1.heap.size, 0, none⟩) (fun h => by have := O6.out.lt _ h; simp only at this; omega) _
        · exact D6.out.set fun b hb => by have := HFl.out b hb; omega
        · simp [World.setCell]; omega
    case done =>
      rintro D ys W hD hys ⟨⟨ht, ⟨v, ho, hown⟩, hd, hsz⟩, hB⟩ hK
      have hys' : ys = runsL l es := hys
      have he2 : bdL l r es = (runsL l es).map (bdOf l r) := by unfold bdL; rw [if_pos HE.out]
      rw [hys', ← he2] at hown
      clear hys hys'
      have co := blk_cell ho
      have zo := lt_of_block ho
      gi_wp2
      refine ⟨by simp, .inl ⟨_, _, rfl, run_takeDeferred hK, ?_⟩⟩
      have hown2 := (own_grown hown (grownBy_putObj' W D (.deferred none)) (fun r e => by cases e; exact ⟨_, hK, rfl⟩)).base_le (b := w.heap.size) (by omega)
      exact ⟨.tuple #[v, .int .i64 0], by simp [results, Tryz.f43, go_sem], v, by rw [HE.out], hown2, hB.trans (belowK_b (w := w) (Nat.le_refl _) W D _ _ (by omega) hK rfl rfl)⟩
    case stop =>
      rintro D c pre W hD hpre h hK
      exact h.elim
  · have HE := Lib.hid (show (binErr l es == 0) = false by simpa using hE)
    have he2 : bdL l r es = [] := by unfold bdL; rw [if_neg hE]
    have hne := HE.out
    gi_wp2_with fail
    exact ⟨.tuple #[.slice none 0 0, .int .i64 (binErr l es)], by simp [results, Tryz.f43, go_sem], .slice none 0 0, rfl, by rw [he2]; exact Own.nil _ _ _ _, B1⟩
end Go.Proofs.YtbmmkhbdcaokkaaGreat
/- The reference of layer 19 (bins): Run, Bounds. -/
namespace Go.Proofs.YtbmmkhbdcaokkaaGreat
open Go.ChangeShapes Go.WideShapes Go.ChangeAt Go.RowKit
set_option linter.unusedVariables false
set_option maxRecDepth 100000

theorem ref19_Run (w : World) (l : Nat) (A : Option Addr) (cap : Nat) (es : List Int) (q : Nat) (hl : 1 ≤ l ∧ l ≤ 48) (hS : Sl w w.heap.size encZ A es) (he : ∀ x ∈ es, 0 ≤ x ∧ x < 2 ^ l) (hq : q ≤ es.length) (hm : es.length ≤ 67108864) :
    Calls Tryz.prog 100 #[.int .i64 l, .slice A es.length cap, .int .i64 q] w fun e w' => e = .returned (.tuple #[.int .i64 (runAt l es q).1, .int .i64 (runAt l es q).2]) ∧ Below w.heap.size w w' := by
  have p1 := pow_pos' l
  have p2 := pow_48 hl.2
  have HP := Lib.hid (ref2_Power · l (by omega))
  have el := runAt_last l es
  have e0 : (runAt l es 0).1 = 0 := by unfold runAt; simp
  by_cases hlt : q < es.length
  · have e2 := runAt_in (l := l) hlt
    have hr2 := he _ (List.getElem_mem hlt)
    obtain ⟨b, off, rfl, hb, hc⟩ := hS.at_ hlt
    have d2 := hc 0 (.int .i64 es[q]) rfl
    rw [e2]
    simp only [Nat.mul_one, Nat.add_zero] at d2
    have i2 : (q : Int) < (es.length : Int) := by omega
    rcases Nat.eq_zero_or_pos q with rfl | hq0
    · rw [e0]
      generalize es[0] = y at d2 hr2
      generalize (2 : Int) ^ l = P at HP p1 p2 hr2
      simp only [Nat.add_zero] at d2
      clear e0 e2 el hc he hS
      go_enter Tryz.func100, Tryz.ntmps100
      go_wp2_with fail
      refine (HP.out _).mono ?_
      rintro e w1 ⟨rfl, hb1⟩
      have B1 : Below w.heap.size w w1 := Below.then_ (by repeat (first | with_reducible exact Below.refl _ _ | with_reducible assumption | ((with_reducible refine Below.setCell ?_ ?_ _); rotate_left; · (first | omega | exact Nat.le_refl _ | (simp <;> omega))) | (with_reducible refine Below.allocW ?_ _) | (with_reducible refine Below.drew ?_) | (with_reducible refine Below.extW ?_ _))) hb1
      have s1 : w.heap.size ≤ w1.heap.size := B1.size
      have d3 := (hb1.cell (p := ⟨b, off, none⟩) hb).trans d2
      have lb : b < w1.heap.size := by omega
      go_wp2_with fail
      go_ret2
      exact ⟨rfl, B1⟩
    · obtain ⟨p, rfl⟩ : ∃ p, q = p + 1 := ⟨q - 1, by omega⟩
      have e1 := runAt_fst_succ (l := l) (q := p) (es := es) (by omega)
      have hr1 := he _ (List.getElem_mem (show p < es.length by omega))
      obtain ⟨b', off', hA, hb', hc'⟩ := hS.at_ (show p < es.length by omega)
      cases hA
      have d1 := hc' 0 (.int .i64 es[p]) rfl
      rw [e1]
      simp only [Nat.mul_one, Nat.add_zero] at d1
      generalize es[p] = x at d1 hr1
      generalize es[p + 1] = y at d2 hr2
      generalize (2 : Int) ^ l = P at HP p1 p2 hr1 hr2
      have i0 : (0 : Int) < (p : Int) + 1 := by omega
      clear e0 e1 e2 el hc hc' he hS
      go_enter Tryz.func100, Tryz.ntmps100
      go_wp2_with fail
      refine (HP.out _).mono ?_
      rintro e w1 ⟨rfl, hb1⟩
      have B1 : Below w.heap.size w w1 := Below.then_ (by repeat (first | with_reducible exact Below.refl _ _ | with_reducible assumption | ((with_reducible refine Below.setCell ?_ ?_ _); rotate_left; · (first | omega | exact Nat.le_refl _ | (simp <;> omega))) | (with_reducible refine Below.allocW ?_ _) | (with_reducible refine Below.drew ?_) | (with_reducible refine Below.extW ?_ _))) hb1
      have s1 : w.heap.size ≤ w1.heap.size := B1.size
      have d3 := (hb1.cell (p := ⟨b, off + p, none⟩) hb).trans d1
      have d4 := (hb1.cell (p := ⟨b, off + (p + 1), none⟩) hb).trans d2
      have lb : b < w1.heap.size := by omega
      go_wp2_with fail
      go_ret2
      exact ⟨rfl, B1⟩
  · obtain rfl : q = es.length := by omega
    have HL := Lib.hid (rfl : es.length = es.length)
    rw [el]
    rcases Nat.eq_zero_or_pos es.length with h0 | hq0
    · have e3 : (runAt l es es.length).1 = 0 := by rw [h0]; exact e0
      rw [e3]
      generalize (2 : Int) ^ l = P at HP p1 p2 he
      rw [h0]
      clear e0 e3 el hS he
      go_enter Tryz.func100, Tryz.ntmps100
      go_wp2_with fail
      refine (HP.out _).mono ?_
      rintro e w1 ⟨rfl, hb1⟩
      have B1 : Below w.heap.size w w1 := Below.then_ (by repeat (first | with_reducible exact Below.refl _ _ | with_reducible assumption | ((with_reducible refine Below.setCell ?_ ?_ _); rotate_left; · (first | omega | exact Nat.le_refl _ | (simp <;> omega))) | (with_reducible refine Below.allocW ?_ _) | (with_reducible refine Below.drew ?_) | (with_reducible refine Below.extW ?_ _))) hb1
      have s1 : w.heap.size ≤ w1.heap.size := B1.size
      go_wp2_with fail
      go_ret2
      exact ⟨rfl, B1⟩
    · obtain ⟨p, hp⟩ : ∃ p, es.length = p + 1 := ⟨es.length - 1, by omega⟩
      have hpl : p < es.length := by omega
      have hp9 : p ≤ 67108864 := by omega
      have e1 := runAt_fst_succ (l := l) hpl
      rw [← hp] at e1
      have hr1 := he _ (List.getElem_mem hpl)
      obtain ⟨b, off, rfl, hb, hc⟩ := hS.at_ hpl
      have d1 := hc 0 (.int .i64 es[p]) rfl
      rw [e1]
      simp only [Nat.mul_one, Nat.add_zero] at d1
      generalize es[p] = x at d1 hr1
      generalize (2 : Int) ^ l = P at HP p1 p2 hr1
      clear e0 e1 el hc he hS hlt
      rw [hp] at *
      have i0 : (0 : Int) < (p : Int) + 1 := by omega
      go_enter Tryz.func100, Tryz.ntmps100
      go_wp2_with fail
      refine (HP.out _).mono ?_
      rintro e w1 ⟨rfl, hb1⟩
      have B1 : Below w.heap.size w w1 := Below.then_ (by repeat (first | with_reducible exact Below.refl _ _ | with_reducible assumption | ((with_reducible refine Below.setCell ?_ ?_ _); rotate_left; · (first | omega | exact Nat.le_refl _ | (simp <;> omega))) | (with_reducible refine Below.allocW ?_ _) | (with_reducible refine Below.drew ?_) | (with_reducible refine Below.extW ?_ _))) hb1
      have s1 : w.heap.size ≤ w1.heap.size := B1.size
      have d3 := (hb1.cell (p := ⟨b, off + p, none⟩) hb).trans d1
      have lb : b < w1.heap.size := by omega
      go_wp2_with fail
      go_ret2
      exact ⟨rfl, B1⟩
set_option maxHeartbeats 1000000 in
theorem ref19_Bounds (w : World) (k : Int) (l : Nat) (A A2 : Option Addr) (cap cap2 : Nat) (r : List Nd) (es : List Int) (h1 : 1 ≤ l) (h2 : l ≤ 48) (hS : Sl w w.heap.size encN A r) (hI : ints r) (hm : r.length ≤ 67108864) (hr : Roll r) (hs : sumR r ≤ 72057594037927935) (hS2 : Sl w w.heap.size encZ A2 es) (hm2 : es.length ≤ 60) :
    Calls Tryz.prog 44 #[.agg #[.int .i64 k, .int .i64 l, .slice A r.length cap], .slice A2 es.length cap2] w (BdPost l r es w) := by
  have hB : Below w.heap.size w (w.alloc (.cells #[.int .i64 k, .int .i64 l, .slice A r.length cap] 37)) := (by repeat (first | with_reducible exact Below.refl _ _ | with_reducible assumption | ((with_reducible refine Below.setCell ?_ ?_ _); rotate_left; · (first | omega | exact Nat.le_refl _ | (simp <;> omega))) | (with_reducible refine Below.allocW ?_ _) | (with_reducible refine Below.drew ?_) | (with_reducible refine Below.extW ?_ _)))
  have HS := Lib.hid (hS.keep (B' := (w.alloc (.cells #[.int .i64 k, .int .i64 l, .slice A r.length cap] 37)).heap.size) hB.size fun p hp => hB.cell hp)
  have HS2 := Lib.hid (hS2.keep (B' := (w.alloc (.cells #[.int .i64 k, .int .i64 l, .slice A r.length cap] 37)).heap.size) hB.size fun p hp => hB.cell hp)
  have HR := Lib.hid (fun (W : World) (h : Sl W W.heap.size encZ A2 es) => ref19_Right W l A2 cap2 es h1 h2 h (by omega))
  have HBt := Lib.hid (fun (a b : Int) (W : World) (h : Sl W W.heap.size encN A r) => ref18_Between W k l A cap r a b h hI hm hr hs)
  have K0 := Lib.hid (heap_alloc_new w (.cells #[.int .i64 k, .int .i64 l, .slice A r.length cap] 37))
  have HB := Lib.hid hB
  clear hS hI hS2 hB
  cases hE : rightE l (-1) es
  · have he : binErr l es = 8 := by unfold binErr; rw [hE]; rfl
    have he2 : bdL l r es = [] := by unfold bdL; rw [he]; rfl
    rw [hE] at HR
    unfold BdPost
    rw [he, he2]
    clear he he2 hE
    go_enter Tryz.func44, Tryz.ntmps44
    go_wp2_with fail
    refine (HR.out _ HS2.out).mono ?_
    rintro e w1 ⟨rfl, hb1⟩
    have B1 : Below w.heap.size w w1 := Below.then_ (by repeat (first | with_reducible exact Below.refl _ _ | with_reducible assumption | ((with_reducible refine Below.setCell ?_ ?_ _); rotate_left; · (first | omega | exact Nat.le_refl _ | (simp <;> omega))) | (with_reducible refine Below.allocW ?_ _) | (with_reducible refine Below.drew ?_) | (with_reducible refine Below.extW ?_ _))) hb1
    have s1 : w.heap.size ≤ w1.heap.size := B1.size
    go_wp2_with fail
    go_ret2
    exact ⟨_, rfl, Own.nil _ _ _ _, (by repeat (first | with_reducible exact Below.refl _ _ | with_reducible assumption | ((with_reducible refine Below.setCell ?_ ?_ _); rotate_left; · (first | omega | exact Nat.le_refl _ | (simp <;> omega))) | (with_reducible refine Below.allocW ?_ _) | (with_reducible refine Below.drew ?_) | (with_reducible refine Below.extW ?_ _)))⟩
  · have he : binErr l es = 0 := by unfold binErr; rw [hE]; rfl
    have he2 : bdL l r es = (List.range (es.length + 1)).map (fun j => bdOf l r (runAt l es j)) := by unfold bdL runsL; rw [he, if_pos rfl, List.map_map]; rfl
    have hall := rightE_all es _ hE
    have HRun := Lib.hid (fun (q : Nat) (W : World) (h : Sl W W.heap.size encZ A2 es) (hq : q ≤ es.length) => ref19_Run W l A2 cap2 es q ⟨h1, h2⟩ h hall hq (by omega))
    have hruns : ∀ q, q ≤ es.length → -1 ≤ (runAt l es q).1 := fun q hq => by
      unfold runAt
      simp only
      split
      · omega
      · have : es.getD (q - 1) 0 ∈ es := by
          rw [List.getD_eq_getElem?_getD, List.getElem?_eq_getElem (by omega)]
          exact List.getElem_mem _
        have := hall _ this
        omega
    rw [hE] at HR
    unfold BdPost
    rw [he]
    have HU := Lib.hid he2
    have HV : Hid (∀ j, bdOf l r (runAt l es j) = ((betw l r (runAt l es j).1 (runAt l es j).2).1, (betw l r (runAt l es j).1 (runAt l es j).2).2.1)) := Lib.hid (fun j => rfl)
    have HRg := Lib.hid (fun a b => betw_range (l := l) hr a b)
    clear he he2 hE hall hruns
    go_enter Tryz.func44, Tryz.ntmps44
    go_wp2_with fail
    refine (HR.out _ HS2.out).mono ?_
    rintro e w1 ⟨rfl, hb1⟩
    have B1 : Below w.heap.size w w1 := Below.then_ (by repeat (first | with_reducible exact Below.refl _ _ | with_reducible assumption | ((with_reducible refine Below.setCell ?_ ?_ _); rotate_left; · (first | omega | exact Nat.le_refl _ | (simp <;> omega))) | (with_reducible refine Below.allocW ?_ _) | (with_reducible refine Below.drew ?_) | (with_reducible refine Below.extW ?_ _))) hb1
    have s1 : w.heap.size ≤ w1.heap.size := B1.size
    have z1_0 : w.heap.size < w1.heap.size := by have := hb1.size; (try simp at this); omega
    have y1_0 : w.heap.size ≤ w1.heap.size := Nat.le_of_lt z1_0
    have c1_0 := fun o => hb1.cell (p := ⟨w.heap.size, o, none⟩) (by first | omega | (simp <;> omega))
    have f1_0 := fun o => hb1.frozen (p := ⟨w.heap.size, o, none⟩) (by first | omega | (simp <;> omega))
    have K1 := Lib.hid (blk_below K0.out hb1)
    go_wp2_with fail
    go_loopw [6, 7] (fun o i wr => ∃ (q : Nat) (L : List (Int × Int)), q ≤ es.length + 1 ∧ i = .int .i64 q ∧ L = (List.range q).map (fun j => bdOf l r (runAt l es j)) ∧ Own wr (w.heap.size + 1) 29 encN o L ∧ wr.heap[w.heap.size]? = some (.cells #[.int .i64 k, .int .i64 l, .slice A r.length cap] 37 (0, 0)) ∧ Below w.heap.size w wr ∧ Below (w.heap.size + 1) (w.alloc (.cells #[.int .i64 k, .int .i64 l, .slice A r.length cap] 37)) wr) (fun _ i _ => es.length + 1 - (intOf i).toNat)
    case atStart => exact ⟨0, [], Nat.zero_le _, rfl, rfl, Own.nil _ _ _ _, K1.out, B1, by simpa using hb1⟩
    case round =>
      obtain ⟨q, L, hq, rfl, hL, hown, hk, hB, hB2⟩ := hrel
      have KO := Lib.hid hown
      have KK := Lib.hid hk
      have HLL := Lib.hid hL
      have KB := Lib.hid hB2
      have hsz := hB.size
      have hll : L.length = q := by rw [hL]; simp
      have HLq := Lib.hid hll
      have ck := blk_cell hk
      have zk := lt_of_block hk
      have T1 := Lib.hid (HS.out.keep (B' := wr.heap.size) (by simp; omega) fun p hp => hB2.cell (by simpa using hp))
      have T2 := Lib.hid (HS2.out.keep (B' := wr.heap.size) (by simp; omega) fun p hp => hB2.cell (by simpa using hp))
      clear hown hk hL hB2 hll
      by_cases hlt : q ≤ es.length
      · have H1 := Lib.hid (fun W h => HRun.out q W h hlt)
        have EB := Lib.hid (HV.out q)
        generalize hR : runAt l es q = xx at H1 EB
        obtain ⟨x, y⟩ := xx
        have ER := Lib.hid hR
        clear hR
        have H2 := Lib.hid (HBt.out x y)
        have br := HRg.out x y
        unfold bothV at H2
        simp only at H1 EB
        generalize betw (l : Int) r x y = t at H2 EB br
        obtain ⟨p, p2, er⟩ := t
        simp only at H2 EB br
        have i1 : decide ((q : Int) ≤ (es.length : Int)) = true := by simp; omega
        obtain ⟨A3, c3, rfl, _⟩ := KO.out.form
        go_wp2_with fail
        refine (H1.out _ T2.out).mono ?_
        rintro e w2 ⟨rfl, hb2⟩
        have K2 := Lib.hid (blk_below KK.out hb2)
        have ck2 := blk_cell K2.out
        have zk2 := lt_of_block K2.out
        have U1 := Lib.hid (T1.out.keep hb2.size fun p hp => hb2.cell hp)
        have O2 := Lib.hid (KO.out.below hb2)
        have HB2 := Lib.hid (Below.trans hB (hb2.mono hsz))
        have KB2 := Lib.hid (KB.out.trans (hb2.mono (by omega)))
        clear hb2
        go_wp2_with fail
        refine (H2.out _ U1.out).mono ?_
        rintro e w3 ⟨rfl, hb3⟩
        have K3 := Lib.hid (blk_below K2.out hb3)
        have O3 := Lib.hid (O2.out.below hb3)
        have HB3 := Lib.hid (Below.trans HB2.out (hb3.mono HB2.out.size))
        have KB3 := Lib.hid (KB2.out.trans (hb3.mono (by omega)))
        have zk3 := lt_of_block K3.out
        clear hb3
        go_wp2_with ((at_builtin; refine wpList_push tyB rfl _ _ rfl encN (w3.alloc (.cells #[.int .i64 p, .int .i64 p2] 29)) (w.heap.size + 1) (.slice A3 L.length c3) L rfl (O3.out.alloc _) (p, p2) (by go_simp) rfl ?c1 ?c2 ?c3 ?c4))
        case c1 => have := HLq.out; omega
        case c2 => have := HLq.out; simp only [maxLen]; omega
        case c3 => simp; omega
        case c4 =>
          intro v' w4 hown4 hgrow _ hlies hb4 _
          have HO4 := Lib.hid (show Own w4 (w.heap.size + 1) 29 encN v' ((List.range (q + 1)).map (fun j => bdOf l r (runAt l es j))) by rw [map_range_succ, ← HLL.out, ER.out, EB.out]; exact hown4)
          have b34 : Below (w.heap.size + 1) w3 w4 := ((Below.refl _ w3).alloc (by omega) _).trans hb4
          have k4 := (b34.block w.heap.size (by omega)).trans K3.out
          have KK4 := Lib.hid k4
          have KB4 := Lib.hid (KB3.out.trans b34)
          have BB4 := Below.trans HB3.out (b34.mono (by omega))
          clear hown4 hgrow k4
          go_wp2_with fail
          go_roundw
          case rel => exact ⟨q + 1, _, by omega, by go_num, rfl, HO4.out, KK4.out, BB4, KB4.out⟩
          case measure => simp [intOf]; omega
      · have hqe : q = es.length + 1 := by omega
        have i1 : decide (q ≤ es.length) = false := by simp; omega
        have E := Lib.hid (show bdL l r es = L by rw [HU.out, HLL.out, hqe])
        clear hqe hlt
        obtain ⟨A3, c3, rfl, _⟩ := KO.out.form
        go_wp2_with fail
        go_ret2
        exact ⟨_, rfl, by rw [E.out]; exact KO.out.base_le (Nat.le_succ _), hB⟩
end Go.Proofs.YtbmmkhbdcaokkaaGreat
/- Chapter 19: between which bounds each bin holds: the law. -/
namespace Go.Proofs.YtbmmkhbdcaokkaaGreat
open Go.ChangeShapes Go.WideShapes Go.ChangeAt Go.RowKit
set_option linter.unusedVariables false
set_option linter.unusedSimpArgs false
set_option maxRecDepth 100000

theorem law_BinsBounds_no (l k K : Int) (r : List Nd) (A : Option Addr) (cap : Nat) (es : List Int) (A2 : Option Addr) (cap2 : Nat) (w : World) (h : ¬ goodL l k K r) (hS : Sl w w.heap.size encN A r) (hI : ints r) (hm : r.length ≤ maxLen) :
    Calls Tryz.prog 8 #[loadedV l k K A r.length cap, .slice A2 es.length cap2] w fun e w' => e = .returned (.bool true) ∧ Below w.heap.size w w' := by
  have HC := Lib.hid (law16_Load_no · l k K A cap r h · hI hm)
  have HS := Lib.hid hS
  clear h hS
  unfold loadedV refDig at HC
  unfold loadedV
  go_enter Tryz.func8, Tryz.ntmps8
  go_wp2_with fail
  refine (bins_Bounds_nil _ _).mono ?_
  rintro e w1 ⟨rfl, hb1⟩
  have B1 : Below w.heap.size w w1 := Below.then_ (by repeat (first | with_reducible exact Below.refl _ _ | with_reducible assumption | ((with_reducible refine Below.setCell ?_ ?_ _); rotate_left; · (first | omega | exact Nat.le_refl _ | (simp <;> omega))) | (with_reducible refine Below.allocW ?_ _) | (with_reducible refine Below.drew ?_) | (with_reducible refine Below.extW ?_ _))) hb1
  have s1 : w.heap.size ≤ w1.heap.size := B1.size
  have z1_0 : w.heap.size < w1.heap.size := by have := hb1.size; (try simp at this); omega
  have y1_0 : w.heap.size ≤ w1.heap.size := Nat.le_of_lt z1_0
  have c1_0 := fun o => hb1.cell (p := ⟨w.heap.size, o, none⟩) (by first | omega | (simp <;> omega))
  have f1_0 := fun o => hb1.frozen (p := ⟨w.heap.size, o, none⟩) (by first | omega | (simp <;> omega))
  go_wp2_with fail
  refine (HC.out _ (HS.out.keep s1 fun p hp => B1.cell hp)).mono ?_
  rintro e w2 ⟨rfl, hb2⟩
  have B2 : Below w.heap.size w w2 := Below.then_ (by repeat (first | with_reducible exact Below.refl _ _ | with_reducible assumption | ((with_reducible refine Below.setCell ?_ ?_ _); rotate_left; · (first | omega | exact Nat.le_refl _ | (simp <;> omega))) | (with_reducible refine Below.allocW ?_ _) | (with_reducible refine Below.drew ?_) | (with_reducible refine Below.extW ?_ _))) hb2
  have s2 : w.heap.size ≤ w2.heap.size := B2.size
  have z2_0 : w.heap.size < w2.heap.size := by have := hb2.size; (try simp at this); omega
  have y2_0 : w.heap.size ≤ w2.heap.size := Nat.le_of_lt z2_0
  have c2_0 := fun o => hb2.cell (p := ⟨w.heap.size, o, none⟩) (by first | omega | (simp <;> omega))
  have f2_0 := fun o => hb2.frozen (p := ⟨w.heap.size, o, none⟩) (by first | omega | (simp <;> omega))
  go_wp2_with fail
  refine (alive19 _).mono ?_
  rintro e w3 ⟨rfl, hb3⟩
  have B3 : Below w.heap.size w w3 := Below.then_ (by repeat (first | with_reducible exact Below.refl _ _ | with_reducible assumption | ((with_reducible refine Below.setCell ?_ ?_ _); rotate_left; · (first | omega | exact Nat.le_refl _ | (simp <;> omega))) | (with_reducible refine Below.allocW ?_ _) | (with_reducible refine Below.drew ?_) | (with_reducible refine Below.extW ?_ _))) hb3
  have s3 : w.heap.size ≤ w3.heap.size := B3.size
  go_wp2_with fail
  go_ret
  exact ⟨rfl, (by repeat (first | with_reducible exact Below.refl _ _ | with_reducible assumption | ((with_reducible refine Below.setCell ?_ ?_ _); rotate_left; · (first | omega | exact Nat.le_refl _ | (simp <;> omega))) | (with_reducible refine Below.allocW ?_ _) | (with_reducible refine Below.drew ?_) | (with_reducible refine Below.extW ?_ _)))⟩
theorem bdL_len (l : Nat) (r : List Nd) (es : List Int) : (bdL l r es).length ≤ es.length + 1 := by
  unfold bdL
  split
  · rw [List.length_map, runsL_len]; exact Nat.le_refl _
  · simp
theorem bdL_range {l : Nat} {r : List Nd} (hr : Roll r) (es : List Int) : ∀ x ∈ bdL l r es, 0 ≤ x.1 ∧ x.1 ≤ sumR r ∧ 0 ≤ x.2 ∧ x.2 ≤ sumR r := by
  intro x hx
  unfold bdL at hx
  split at hx
  · obtain ⟨p, _, rfl⟩ := List.mem_map.1 hx
    exact betw_range hr p.1 p.2
  · simp at hx
set_option maxHeartbeats 2000000 in
theorem law_BinsBounds_yes (l K : Nat) (k : Int) (r : List Nd) (A : Option Addr) (cap : Nat) (es : List Int) (A2 : Option Addr) (cap2 : Nat) (w : World) (h : goodL l k K r) (hS : Sl w w.heap.size encN A r) (hI : ints r) (hS2 : Sl w w.heap.size encZ A2 es) :
    Calls Tryz.prog 8 #[loadedV l k K A r.length cap, .slice A2 es.length cap2] w fun e w' => e = .returned (.bool true) ∧ Below w.heap.size w w' := by
  have hn : r.length ≤ 67108864 := by have := h.1; omega
  have hr := (goodL_parts h.2.2).1
  have hf := right_fits hr
  have HC := Lib.hid (law16_Load · l K k A cap r h · hI)
  have HS := Lib.hid hS
  have HS2 := Lib.hid hS2
  have HI := Lib.hid hI
  have HRr := Lib.hid hr
  have HF := Lib.hid hf
  have hB : Below w.heap.size w (w.alloc (.cells #[.int .i64 l, .int .i64 k, .int .i64 K, .slice A r.length cap] 26)) := (by repeat (first | with_reducible exact Below.refl _ _ | with_reducible assumption | ((with_reducible refine Below.setCell ?_ ?_ _); rotate_left; · (first | omega | exact Nat.le_refl _ | (simp <;> omega))) | (with_reducible refine Below.allocW ?_ _) | (with_reducible refine Below.drew ?_) | (with_reducible refine Below.extW ?_ _)))
  have K0 := Lib.hid (heap_alloc_new w (.cells #[.int .i64 l, .int .i64 k, .int .i64 K, .slice A r.length cap] 26))
  clear h hS hr hI hS2 hf hB
  unfold loadedV refDig at HC
  unfold loadedV
  go_enter Tryz.func8, Tryz.ntmps8
  go_wp2_with fail
  refine (bins_Bounds_nil _ _).mono ?_
  rintro e w1 ⟨rfl, hb1⟩
  have B1 : Below w.heap.size w w1 := Below.then_ (by repeat (first | with_reducible exact Below.refl _ _ | with_reducible assumption | ((with_reducible refine Below.setCell ?_ ?_ _); rotate_left; · (first | omega | exact Nat.le_refl _ | (simp <;> omega))) | (with_reducible refine Below.allocW ?_ _) | (with_reducible refine Below.drew ?_) | (with_reducible refine Below.extW ?_ _))) hb1
  have s1 : w.heap.size ≤ w1.heap.size := B1.size
  have z1_0 : w.heap.size < w1.heap.size := by have := hb1.size; (try simp at this); omega
  have y1_0 : w.heap.size ≤ w1.heap.size := Nat.le_of_lt z1_0
  have c1_0 := fun o => hb1.cell (p := ⟨w.heap.size, o, none⟩) (by first | omega | (simp <;> omega))
  have f1_0 := fun o => hb1.frozen (p := ⟨w.heap.size, o, none⟩) (by first | omega | (simp <;> omega))
  have K1 := Lib.hid (blk_below K0.out hb1)
  go_wp2_with fail
  refine (HC.out _ (HS.out.keep s1 fun p hp => B1.cell hp)).mono ?_
  rintro e w2 ⟨g, F, rfl, hD, _, hb2⟩
  have B2 : Below w.heap.size w w2 := Below.then_ (by repeat (first | with_reducible exact Below.refl _ _ | with_reducible assumption | ((with_reducible refine Below.setCell ?_ ?_ _); rotate_left; · (first | omega | exact Nat.le_refl _ | (simp <;> omega))) | (with_reducible refine Below.allocW ?_ _) | (with_reducible refine Below.drew ?_) | (with_reducible refine Below.extW ?_ _))) hb2
  have s2 : w.heap.size ≤ w2.heap.size := B2.size
  have z2_0 : w.heap.size < w2.heap.size := by have := hb2.size; (try simp at this); omega
  have y2_0 : w.heap.size ≤ w2.heap.size := Nat.le_of_lt z2_0
  have c2_0 := fun o => hb2.cell (p := ⟨w.heap.size, o, none⟩) (by first | omega | (simp <;> omega))
  have f2_0 := fun o => hb2.frozen (p := ⟨w.heap.size, o, none⟩) (by first | omega | (simp <;> omega))
  have hl := hD.l_le
  have KD := Lib.hid (hD.alloc (.cells #[.int .i64 k, .int .i64 l, .slice A r.length cap] 37))
  clear hD
  by_cases hlong : 60 < es.length
  · have hlong' : (60 : Int) < (es.length : Int) := by omega
    go_wp2_with fail
    refine (alive19 _).mono ?_
    rintro e w3 ⟨rfl, hb3⟩
    have B3 : Below w.heap.size w w3 := Below.then_ (by repeat (first | with_reducible exact Below.refl _ _ | with_reducible assumption | ((with_reducible refine Below.setCell ?_ ?_ _); rotate_left; · (first | omega | exact Nat.le_refl _ | (simp <;> omega))) | (with_reducible refine Below.allocW ?_ _) | (with_reducible refine Below.drew ?_) | (with_reducible refine Below.extW ?_ _))) hb3
    have s3 : w.heap.size ≤ w3.heap.size := B3.size
    go_wp2_with fail
    go_ret
    exact ⟨rfl, (by repeat (first | with_reducible exact Below.refl _ _ | with_reducible assumption | ((with_reducible refine Below.setCell ?_ ?_ _); rotate_left; · (first | omega | exact Nat.le_refl _ | (simp <;> omega))) | (with_reducible refine Below.allocW ?_ _) | (with_reducible refine Below.drew ?_) | (with_reducible refine Below.extW ?_ _)))⟩
  · have hk60 : es.length ≤ 60 := by omega
    have hlong' : decide (60 < es.length) = false := by simpa using hlong
    clear hlong
    have BA2 : Below w.heap.size w (w2.alloc (.cells #[.int .i64 k, .int .i64 l, .slice A r.length cap] 37)) := (by repeat (first | with_reducible exact Below.refl _ _ | with_reducible assumption | ((with_reducible refine Below.setCell ?_ ?_ _); rotate_left; · (first | omega | exact Nat.le_refl _ | (simp <;> omega))) | (with_reducible refine Below.allocW ?_ _) | (with_reducible refine Below.drew ?_) | (with_reducible refine Below.extW ?_ _)))
    have E2 := Lib.hid (HS2.out.keep BA2.size fun p hp => BA2.cell hp)
    have R2 := Lib.hid (HS.out.keep BA2.size fun p hp => BA2.cell hp)
    have N2 := Lib.hid (heap_alloc_new w2 (.cells #[.int .i64 k, .int .i64 l, .slice A r.length cap] 37))
    clear BA2
    go_wp2_with fail
    refine (bins_Bounds _ g K l k r F A2 cap2 es KD.out hn E2.out (by omega) HRr.out).mono ?_
    rintro e w3 ⟨v3, rfl, o3, hb3⟩
    have B3 : Below w.heap.size w w3 := Below.then_ (by repeat (first | with_reducible exact Below.refl _ _ | with_reducible assumption | ((with_reducible refine Below.setCell ?_ ?_ _); rotate_left; · (first | omega | exact Nat.le_refl _ | (simp <;> omega))) | (with_reducible refine Below.allocW ?_ _) | (with_reducible refine Below.drew ?_) | (with_reducible refine Below.extW ?_ _))) hb3
    have s3 : w.heap.size ≤ w3.heap.size := B3.size
    have z3_0 : w.heap.size < w3.heap.size := by have := hb3.size; (try simp at this); omega
    have y3_0 : w.heap.size ≤ w3.heap.size := Nat.le_of_lt z3_0
    have c3_0 := fun o => hb3.cell (p := ⟨w.heap.size, o, none⟩) (by first | omega | (simp <;> omega))
    have f3_0 := fun o => hb3.frozen (p := ⟨w.heap.size, o, none⟩) (by first | omega | (simp <;> omega))
    have n3 := blk_below N2.out hb3
    have cn3 := blk_cell n3
    have zn3 := lt_of_block n3
    have E3 := Lib.hid (E2.out.keep hb3.size fun p hp => hb3.cell hp)
    have R3 := Lib.hid (R2.out.keep hb3.size fun p hp => hb3.cell hp)
    have O3 := Lib.hid o3
    clear o3 n3 hb3
    go_wp2_with fail
    refine (ref19_Bounds _ k l A A2 cap cap2 r es hl.1 hl.2 R3.out HI.out hn HF.out.1.roll HF.out.1.sum E3.out hk60).mono ?_
    rintro e w4 ⟨v4, rfl, o4, hb4⟩
    have B4 : Below w.heap.size w w4 := Below.then_ (by repeat (first | with_reducible exact Below.refl _ _ | with_reducible assumption | ((with_reducible refine Below.setCell ?_ ?_ _); rotate_left; · (first | omega | exact Nat.le_refl _ | (simp <;> omega))) | (with_reducible refine Below.allocW ?_ _) | (with_reducible refine Below.drew ?_) | (with_reducible refine Below.extW ?_ _))) hb4
    have s4 : w.heap.size ≤ w4.heap.size := B4.size
    have z4_0 : w.heap.size < w4.heap.size := by have := hb4.size; (try simp at this); omega
    have y4_0 : w.heap.size ≤ w4.heap.size := Nat.le_of_lt z4_0
    have c4_0 := fun o => hb4.cell (p := ⟨w.heap.size, o, none⟩) (by first | omega | (simp <;> omega))
    have f4_0 := fun o => hb4.frozen (p := ⟨w.heap.size, o, none⟩) (by first | omega | (simp <;> omega))
    obtain ⟨A3, c3, rfl, _⟩ := O3.out.form
    obtain ⟨A4, c4, rfl, _⟩ := o4.form
    have T3 := Lib.hid (O3.out.below hb4).sl
    have T4 := Lib.hid o4.sl
    have hbl := bdL_len l r es
    have hbr := bdL_range (l := l) HF.out.1.roll es
    have hs1 := HF.out.1.sum
    have HBr := Lib.hid hbr
    have BW4 : Below w.heap.size w w4 := B4
    have HB4 := Lib.hid BW4
    clear o4 hb4 hbr
    generalize bdL l r es = L at hbl T3 T4 HBr
    go_wp2_with fail
    go_loopw [13, 58] (fun o i wr => ∃ q : Nat, q ≤ L.length ∧ i = .int .i64 q ∧ Below w4.heap.size w4 wr) (fun _ i _ => L.length - (intOf i).toNat)
    case atStart => exact ⟨0, Nat.zero_le _, rfl, Below.refl _ _⟩
    case round =>
      obtain ⟨q, hq, rfl, hB⟩ := hrel
      have hsz := hB.size
      have KB := Lib.hid hB
      by_cases hlt : q < L.length
      · obtain ⟨b, off, rfl, hb, hc⟩ := T3.out.at_ hlt
        obtain ⟨b', off', rfl, hb', hc'⟩ := T4.out.at_ hlt
        have d0 := (hB.cell (p := ⟨b, off + q * 2 + 0, none⟩) hb).trans (hc 0 (.int .i64 L[q].1) rfl)
        have d1 := (hB.cell (p := ⟨b, off + q * 2 + 1, none⟩) hb).trans (hc 1 (.int .i64 L[q].2) rfl)
        have e0 := (hB.cell (p := ⟨b', off' + q * 2 + 0, none⟩) hb').trans (hc' 0 (.int .i64 L[q].1) rfl)
        have e1 := (hB.cell (p := ⟨b', off' + q * 2 + 1, none⟩) hb').trans (hc' 1 (.int .i64 L[q].2) rfl)
        have hx := HBr.out _ (List.getElem_mem hlt)
        generalize L[q] = x at d0 d1 e0 e1 hx
        obtain ⟨x1, x2⟩ := x
        simp only [Nat.add_zero] at d0 d1 e0 e1 hx
        have lb : b < wr.heap.size := by omega
        have lb' : b' < wr.heap.size := by omega
        clear hc hc' hB
        go_wp2_with fail
        refine wp_region_noPanic ?_
        refine wp_region_N (fun W => W.cell? ⟨b, off + q * 2, none⟩ = some (.int .i64 x1) ∧ W.cell? ⟨b, off + q * 2 + 1, none⟩ = some (.int .i64 x2) ∧ W.cell? ⟨b', off' + q * 2, none⟩ = some (.int .i64 x1) ∧ W.cell? ⟨b', off' + q * 2 + 1, none⟩ = some (.int .i64 x2)) [] (by kernel_rfl) ⟨d0, d1, e0, e1⟩ (fun hHeld => ?_)
        refine wpAnyN_pure (i := 0) (v := .slice (some ⟨b, off, none⟩) L.length c3) rfl (by kernel_rfl) (by kernel_rfl) (by kernel_rfl) (fun _ _ _ h => h) (Or.inl ⟨by rfl, fun W _ => by go_simp⟩) ?_
        try simp only [Act.put, List.setIfInBounds_toArray, List.set_cons_zero, List.set_cons_succ]
        refine wpAnyN_pure (i := 1) (v := .int .i64 q) rfl (by kernel_rfl) (by kernel_rfl) (by kernel_rfl) (fun _ _ _ h => h) (Or.inl ⟨by rfl, fun W _ => by go_simp⟩) ?_
        try simp only [Act.put, List.setIfInBounds_toArray, List.set_cons_zero, List.set_cons_succ]
        refine wpAnyN_pure (i := 2) (v := .pointer (some ⟨b, off + q * 2, none⟩)) rfl (by kernel_rfl) (by kernel_rfl) (by kernel_rfl) (fun _ _ _ h => h) (Or.inl ⟨by rfl, fun W _ => by go_simp⟩) ?_
        try simp only [Act.put, List.setIfInBounds_toArray, List.set_cons_zero, List.set_cons_succ]
        refine wpAnyN_take (i := 3) (v := .agg #[.int .i64 x1, .int .i64 x2]) rfl (by kernel_rfl) (by kernel_rfl) (by kernel_rfl) (by kernel_rfl) (fun _ _ _ h => h) (Or.inl ⟨by rfl, fun W hW => by obtain ⟨q1, q2, q3, q4⟩ := hW; go_simp⟩) hHeld ?_
        try simp only [Act.put, List.setIfInBounds_toArray, List.set_cons_zero, List.set_cons_succ]
        refine wpAnyN_pure (i := 4) (v := .slice (some ⟨b', off', none⟩) L.length c4) rfl (by kernel_rfl) (by kernel_rfl) (by kernel_rfl) (fun _ _ _ h => h) (Or.inl ⟨by rfl, fun W _ => by go_simp⟩) ?_
        try simp only [Act.put, List.setIfInBounds_toArray, List.set_cons_zero, List.set_cons_succ]
        refine wpAnyN_pure (i := 5) (v := .int .i64 q) rfl (by kernel_rfl) (by kernel_rfl) (by kernel_rfl) (fun _ _ _ h => h) (Or.inl ⟨by rfl, fun W _ => by go_simp⟩) ?_
        try simp only [Act.put, List.setIfInBounds_toArray, List.set_cons_zero, List.set_cons_succ]
        refine wpAnyN_pure (i := 6) (v := .pointer (some ⟨b', off' + q * 2, none⟩)) rfl (by kernel_rfl) (by kernel_rfl) (by kernel_rfl) (fun _ _ _ h => h) (Or.inl ⟨by rfl, fun W _ => by go_simp⟩) ?_
        try simp only [Act.put, List.setIfInBounds_toArray, List.set_cons_zero, List.set_cons_succ]
        refine wpAnyN_take (i := 7) (v := .agg #[.int .i64 x1, .int .i64 x2]) rfl (by kernel_rfl) (by kernel_rfl) (by kernel_rfl) (by kernel_rfl) (fun _ _ _ h => h) (Or.inl ⟨by rfl, fun W hW => by obtain ⟨q1, q2, q3, q4⟩ := hW; go_simp⟩) hHeld ?_
        try simp only [Act.put, List.setIfInBounds_toArray, List.set_cons_zero, List.set_cons_succ]
        refine wpAnyN_one (i := 8) (by kernel_rfl) rfl (fun K hK => ?_)
        go_simp
        refine hK.out _ _ (fun _ _ => hHeld) ?_
        clear hK K
        try simp only [Act.put, List.setIfInBounds_toArray, List.set_cons_zero, List.set_cons_succ]
        refine wpAnyN_done (by kernel_rfl) ?_ _
        refine NoPanic.normal ?_
        go_wp2_with fail
        go_roundw
        case rel => exact ⟨q + 1, by omega, by go_num, Below.drew KB.out⟩
        case measure => simp [intOf]; omega
      · obtain rfl : q = L.length := by omega
        go_wp2_with fail
        refine (alive19 _).mono ?_
        rintro e w5 ⟨rfl, hb5⟩
        go_wp2_with fail
        go_ret
        exact ⟨rfl, (HB4.out.trans (KB.out.mono HB4.out.size)).trans (hb5.mono (Nat.le_trans HB4.out.size hsz))⟩
theorem law_BinsBounds (l k K : Int) (r : List Nd) (A : Option Addr) (cap : Nat) (es : List Int) (A2 : Option Addr) (cap2 : Nat) (W : World) (hS : Sl W W.heap.size encN A r) (hI : ints r) (_ : i64 l) (_ : i64 k) (_ : i64 K) (hm : r.length ≤ maxLen) (hS2 : Sl W W.heap.size encZ A2 es) (_ : ∀ x ∈ es, i64 x) (_ : es.length ≤ maxLen) :
    Calls Tryz.prog 8 #[loadedV l k K A r.length cap, .slice A2 es.length cap2] W fun e W' => e = .returned (.bool true) ∧ Below W.heap.size W W' := by
  by_cases h : goodL l k K r
  · obtain ⟨n, m, rfl, rfl⟩ := goodL_nat h.2.2
    exact law_BinsBounds_yes n m k r A cap es A2 cap2 W h hS hI hS2
  · exact law_BinsBounds_no l k K r A cap es A2 cap2 W h hS hI hm
end Go.Proofs.YtbmmkhbdcaokkaaGreat
