/-
  Texts of this proof, one behind the other: Made13, LawW, Alive18, ReachHoldsW.
-/
import Derived.Test.YtcjnchjmpkapmaaR4
/- Chapter 13: Do, Made. -/
set_option linter.unusedSimpArgs false namespace Go.Proofs.Ytcjnchjmpkapmaa
open Go.ChangeShapes Go.WideShapes Go.ChangeAt Go.RowKit
set_option linter.unusedVariables false
set_option linter.unusedSimpArgs false
set_option maxRecDepth 100000

theorem DigTo.from {w W w' : World} {g K l : Nat} {k : Int} {s : List Nd} {F : Nat → Prop} (hB : Below w.heap.size w W) (h : DigTo W g K l k s F w') : DigTo w g K l k s F w' := by
  obtain ⟨F', h1, h2, h3⟩ := h
  exact ⟨F', h1, (Turn.of_below hB).trans h2 Grow.refl, fun b hb => (h3 b hb).imp id fun h => Nat.le_trans hB.size h⟩
def DoPost (g K l : Nat) (k : Int) (r : List Nd) (o : Op3) (F : Nat → Prop) (w : World) (e : Ending) (w' : World) : Prop :=
  ∃ (r' : List Nd) (n : Int), e = .returned (.int .i64 n) ∧ DoTo l k r o r' n ∧ DigTo w g K l k r' F w'
theorem law13_Do (w : World) (g K l : Nat) (k : Int) (r : List Nd) (F : Nat → Prop) (h : DigAt w g K l k r F) (hn : r.length ≤ 67108864) (o : Op3) :
    Calls Try.prog 11 #[.pointer (some ⟨g, 0, none⟩), .agg #[.int .i64 o.1, .int .i64 o.2.1, .int .i64 o.2.2]] w (DoPost g K l k r o F w) := by
  obtain ⟨kd, x, c⟩ := o
  have HC := Lib.hid (fun W h => digest_Compress W g K l k r F h hn)
  have HR := Lib.hid (fun W h => digest_Reset W g K l k r F h hn)
  have HI := Lib.hid (fun W h => digest_Insert W g K l k r F h hn x c)
  have B0 : Below w.heap.size w (w.alloc (.cells #[.int .i64 kd, .int .i64 x, .int .i64 c] 49)) := (by repeat (first | with_reducible exact Below.refl _ _ | with_reducible assumption | ((with_reducible refine Below.setCell ?_ ?_ _); rotate_left; · (first | omega | exact Nat.le_refl _ | (simp <;> omega))) | (with_reducible refine Below.allocW ?_ _) | (with_reducible refine Below.drew ?_) | (with_reducible refine Below.extW ?_ _)))
  have BB := Lib.hid B0
  have D0 := Lib.hid (h.below B0)
  clear h B0
  unfold DoPost
  by_cases h1 : kd = 1
  · subst h1
    have hE : ∀ r' n, (∃ ps, RunTo l (sumR r / k) r ps r' ∧ n = (ps.length : Int)) → DoTo l k r (1, x, c) r' n := fun r' n h => .inl ⟨rfl, h⟩
    have HE := Lib.hid hE
    clear hE
    go_enter Try.func11, Try.ntmps11
    go_wp2_with fail
    refine (HC.out _ D0.out).mono ?_
    rintro e w1 ⟨ps, s, rfl, hR, hT⟩
    have HT := Lib.hid (hT.from BB.out)
    have HRn := Lib.hid (HE.out s _ ⟨ps, hR, rfl⟩)
    clear hT hR
    go_wp2_with fail
    go_ret
    exact ⟨s, _, rfl, HRn.out, HT.out⟩
  · have h1' : (kd == 1) = false := by simpa using h1
    by_cases h2 : kd = 2
    · subst h2
      have HE : Hid (DoTo l k r (2, x, c) [] 0) := Lib.hid (.inr (.inl ⟨rfl, rfl, rfl⟩))
      go_enter Try.func11, Try.ntmps11
      go_wp2_with fail
      refine (HR.out _ D0.out).mono ?_
      rintro e w1 ⟨rfl, hT⟩
      have HT := Lib.hid (hT.from BB.out)
      clear hT
      go_wp2_with fail
      go_ret
      exact ⟨[], 0, rfl, HE.out, HT.out⟩
    · have h2' : (kd == 2) = false := by simpa using h2
      have hE : ∀ r', InsTo l k r x c r' → DoTo l k r (kd, x, c) r' (insErr l r x c) := fun r' h => .inr (.inr ⟨h1, h2, h, rfl⟩)
      have HE := Lib.hid hE
      generalize insErr l r x c = n at HE HI
      clear hE h1 h2
      go_enter Try.func11, Try.ntmps11
      go_wp2_with fail
      refine (HI.out _ D0.out).mono ?_
      rintro e w1 ⟨r', rfl, hI, hT⟩
      have HT := Lib.hid (hT.from BB.out)
      have HRn := Lib.hid (HE.out r' hI)
      clear hT hI
      go_wp2_with fail
      go_ret
      exact ⟨r', n, rfl, HRn.out, HT.out⟩
theorem DigAt.typed {w : World} {g K l : Nat} {k : Int} {r : List Nd} {F : Nat → Prop} (h : DigAt w g K l k r F) : ∀ b, F b → ∃ t, (t = 70 ∨ PoolTypes t) ∧ TypeAt w b t := by
  obtain ⟨p, F0, rfl, hh, hP, _, _, _⟩ := h.parts
  rintro b (rfl | hb)
  · exact ⟨_, .inl rfl, .of hh⟩
  · obtain ⟨t, ht, h⟩ := hP.typed b hb
    exact ⟨t, .inr ht, h⟩
theorem DigAt.not_type {w : World} {g K l : Nat} {k : Int} {r : List Nd} {F : Nat → Prop} (h : DigAt w g K l k r F) {b t : Nat} (hb : TypeAt w b t) (ht : t ≠ 70 ∧ t ≠ 91 ∧ t ≠ 103 ∧ t ≠ 3 ∧ t ≠ 105 ∧ t ≠ 45) : ¬ F b := fun hf => by
  obtain ⟨t', h1, h2⟩ := h.typed b hf
  have := typeAt_eq hb h2
  subst this
  obtain ⟨a1, a2, a3, a4, a5, a6⟩ := ht
  rcases h1 with h1 | h1 | h1 | h1 | h1 | h1
  · exact a1 h1
  · exact a2 h1
  · exact a3 h1
  · exact a4 h1
  · exact a5 h1
  · exact a6 h1
theorem SlT.turn {α : Type} {size : Nat} {w w' : World} {e : TypeId} {E : Enc α size} {A : Option Addr} {l : List α} {F : Nat → Prop} (h : SlT w e E A l) (ht : Turn F w w') (hF : ∀ b, TypeAt w b e → ¬ F b) : SlT w' e E A l := by
  rcases h with h | ⟨b, off, hA, hT, hc⟩
  · exact .inl h
  · have hk := ht.block b hT.lt (hF b hT)
    refine .inr ⟨b, off, hA, ?_, fun i x hi j u hj => (World.cell?_of_block hk).trans (hc i x hi j u hj)⟩
    obtain ⟨cs, fr, hh⟩ := hT
    exact ⟨cs, fr, hk.trans hh⟩
structure MadeS (w : World) (pb g K l : Nat) (k : Int) (r m : List Nd) (F : Nat → Prop) (A : Option Addr) (cap : Nat) (W : World) : Prop where
  d : DigAt W g K l k r F
  fw : ∀ b, F b → w.heap.size ≤ b
  b : W.heap[pb]? = some (.cells #[.int .i64 l, .slice A m.length cap] 31 (0, 0))
  pw : w.heap.size + 1 < pb
  z : W.heap[w.heap.size + 1]? = some (.cells #[.int .i64 0, .slice none 0 0] 31 (0, 0))
  s : SlT W 59 encN A m
  blw : Below w.heap.size w W
section
variable {w : World} {pb g K l : Nat} {k : Int} {r r' m m' : List Nd} {F F' : Nat → Prop} {A A' : Option Addr} {cap cap' : Nat} {W W' : World}
theorem MadeS.below (h : MadeS w pb g K l k r m F A cap W) (hb : Below W.heap.size W W') : MadeS w pb g K l k r m F A cap W' :=
  ⟨h.d.below hb, h.fw, blk_below h.b hb, h.pw, blk_below h.z hb, h.s.below hb, h.blw.trans (hb.mono h.blw.size)⟩
theorem MadeS.dig (h : MadeS w pb g K l k r m F A cap W) (ht : DigTo W g K l k r' F W') : ∃ F', MadeS w pb g K l k r' m F' A cap W' := by
  obtain ⟨F', h1, h2, h3⟩ := ht
  refine ⟨F', h1, fun b hb => ?_, h2.keep h.b (h.d.not_type (.of h.b) (by decide)), h.pw, h2.keep h.z (h.d.not_type (.of h.z) (by decide)), h.s.turn h2 fun b hb => h.d.not_type hb (by decide), h.blw.trans (h2.below h.fw h.blw.size)⟩
  rcases h3 b hb with hb | hb
  · exact h.fw b hb
  · exact Nat.le_trans h.blw.size hb
theorem set_one {W : World} {pb t : Nat} {a c u : Value} (h : W.heap[pb]? = some (.cells #[a, c] t (0, 0))) : (W.setCell ⟨pb, 1, none⟩ u).heap[pb]? = some (.cells #[a, u] t (0, 0)) := by
  simp [World.setCell, Array.getElem?_modify, h]
theorem set_nil {W : World} {pb t : Nat} {a c u : Value} (h : W.heap[pb]? = some (.cells #[a, c] t (0, 0))) : (W.setCell ⟨pb, 0, none⟩ u).heap[pb]? = some (.cells #[u, c] t (0, 0)) := by
  simp [World.setCell, Array.getElem?_modify, h]
theorem MadeS.set1 (h : MadeS w pb g K l k r m F A cap W) (hs : SlT W 59 encN A' m') : MadeS w pb g K l k r m' F A' cap' (W.setCell ⟨pb, 1, none⟩ (.slice A' m'.length cap')) := by
  have hne : ∀ b, b ≠ pb → (W.setCell ⟨pb, 1, none⟩ (.slice A' m'.length cap')).heap[b]? = W.heap[b]? := fun b hb => Below.heap_setCell _ _ _ _ hb
  have hF : ¬ F pb := h.d.not_type (.of h.b) (by decide)
  refine ⟨h.d.keep fun b hb => hne b (by rintro rfl; exact hF hb), h.fw, set_one h.b, h.pw, (hne _ (by have := h.pw; omega)).trans h.z, hs.setCellT (p := ⟨pb, 1, none⟩) (.of h.b) (by decide), h.blw.setCell (by have := h.pw; simp only; omega) _⟩
theorem MadeS.set0 (h : MadeS w pb g K l k r m F A cap W) : MadeS w pb g K l k r m F A cap (W.setCell ⟨pb, 0, none⟩ (.int .i64 l)) := by
  have hne : ∀ b, b ≠ pb → (W.setCell ⟨pb, 0, none⟩ (.int .i64 l)).heap[b]? = W.heap[b]? := fun b hb => Below.heap_setCell _ _ _ _ hb
  have hF : ¬ F pb := h.d.not_type (.of h.b) (by decide)
  refine ⟨h.d.keep fun b hb => hne b (by rintro rfl; exact hF hb), h.fw, set_nil h.b, h.pw, (hne _ (by have := h.pw; omega)).trans h.z, h.s.setCellT (p := ⟨pb, 0, none⟩) (.of h.b) (by decide), h.blw.setCell (by have := h.pw; simp only; omega) _⟩
end
theorem law13_Made_no (w : World) (l k K : Int) (v : Value) (h : isDig l k K = false) :
    Calls Try.prog 5 #[.agg #[.int .i64 l, .int .i64 k, .int .i64 K], v] w fun e w' => e = .returned (.tuple #[.pointer none, bagV 0 none 0 0]) ∧ Below w.heap.size w w' := by
  have HN := Lib.hid (fun W => digest_New_no W l k K h)
  have BW0 : Below w.heap.size w ((w.alloc (.cells #[.int .i64 l, .int .i64 k, .int .i64 K] 23)).alloc (.cells #[.int .i64 0, .slice none 0 0] 31)) := (by repeat (first | with_reducible exact Below.refl _ _ | with_reducible assumption | ((with_reducible refine Below.setCell ?_ ?_ _); rotate_left; · (first | omega | exact Nat.le_refl _ | (simp <;> omega))) | (with_reducible refine Below.allocW ?_ _) | (with_reducible refine Below.drew ?_) | (with_reducible refine Below.extW ?_ _)))
  have X0 := heap_new_at (w.alloc (.cells #[.int .i64 l, .int .i64 k, .int .i64 K] 23)) (.cells #[.int .i64 0, .slice none 0 0] 31) (w.heap.size + 1) (by simp)
  have HX := Lib.hid (And.intro BW0 X0)
  clear BW0 X0 h
  unfold bagV
  go_enter Try.func5, Try.ntmps5
  go_wp2_with fail
  refine (HN.out _).mono ?_
  rintro e w1 ⟨rfl, hb1⟩
  have Y := blk_below HX.out.2 hb1
  have c := blk_cell Y
  have f := blk_frozen Y
  have z := lt_of_block Y
  have B1 := Lib.hid (Below.then_ HX.out.1 hb1)
  clear hb1 Y
  go_wp2_with fail
  exact bodyPost_ret (v := .tuple #[.pointer none, .agg #[.int .i64 0, .slice none 0 0]]) (by simp only [results, Try.results5]; go_simp) rfl ⟨rfl, Below.setCell (p := ⟨w.heap.size + 1, 1, none⟩) (Below.setCell (p := ⟨w.heap.size + 1, 0, none⟩) B1.out (by simp) _) (by simp) _⟩
theorem isDig_nat {l k K : Int} (h : isDig l k K = true) : ∃ n m : Nat, l = n ∧ K = m := by
  simp only [isDig, isPool, Bool.and_eq_true, decide_eq_true_eq] at h
  exact ⟨l.toNat, K.toNat, by omega, by omega⟩
def CallsPost (K l : Nat) (k : Int) (n : Nat) (w : World) (e : Ending) (w' : World) : Prop :=
  ∃ (g : Nat) (F : Nat → Prop) (r m : List Nd) (A : Option Addr) (cap : Nat), e = .returned (.tuple #[.pointer (some ⟨g, 0, none⟩), bagV l A m.length cap]) ∧ DigAt w' g K l k r F ∧ (∀ b, F b → w.heap.size ≤ b) ∧ SlT w' 59 encN A m ∧ Held l k r m ∧ r.length ≤ n ∧ m.length ≤ n ∧ (r.length : Int) ≤ 8 * k ∧ Below w.heap.size w w'
set_option maxHeartbeats 8000000 in
theorem law13_Made (w : World) (l K : Nat) (k : Int) (A : Option Addr) (cap : Nat) (ops : List Op3) (hd : isDig l k K = true) (hS : Sl w w.heap.size encO A ops) (hI : intsO ops) (hlen : ops.length ≤ 1000) :
    Calls Try.prog 5 #[.agg #[.int .i64 l, .int .i64 k, .int .i64 K], .slice A ops.length cap] w (CallsPost K l k ops.length w) := by
  have hk : 1 ≤ k := by simp only [isDig, Bool.and_eq_true, decide_eq_true_eq] at hd; exact hd.2.1
  have hl : 1 ≤ l ∧ l ≤ 48 := by simp only [isDig, isPool, Bool.and_eq_true, decide_eq_true_eq] at hd; omega
  have HN := Lib.hid (fun W => digest_New W l K k hd)
  have HS := Lib.hid hS
  have HI := Lib.hid hI
  have BW0 : Hid (Below w.heap.size w ((w.alloc (.cells #[.int .i64 l, .int .i64 k, .int .i64 K] 23)).alloc (.cells #[.int .i64 0, .slice none 0 0] 31))) := Lib.hid (by repeat (first | with_reducible exact Below.refl _ _ | with_reducible assumption | ((with_reducible refine Below.setCell ?_ ?_ _); rotate_left; · (first | omega | exact Nat.le_refl _ | (simp <;> omega))) | (with_reducible refine Below.allocW ?_ _) | (with_reducible refine Below.drew ?_) | (with_reducible refine Below.extW ?_ _)))
  have X0 : Hid (((w.alloc (.cells #[.int .i64 l, .int .i64 k, .int .i64 K] 23)).alloc (.cells #[.int .i64 0, .slice none 0 0] 31)).heap[w.heap.size + 1]? = some (.cells #[.int .i64 0, .slice none 0 0] 31 (0, 0))) := Lib.hid (heap_new_at _ _ _ (by simp))
  have X1 : Hid (((w.alloc (.cells #[.int .i64 l, .int .i64 k, .int .i64 K] 23)).alloc (.cells #[.int .i64 0, .slice none 0 0] 31)).heap[w.heap.size]? = some (.cells #[.int .i64 l, .int .i64 k, .int .i64 K] 23 (0, 0))) := Lib.hid ((heap_new_lt _ _ _ (by simp)).trans (heap_alloc_new w _))
  have Z0 : Hid (((w.alloc (.cells #[.int .i64 l, .int .i64 k, .int .i64 K] 23)).alloc (.cells #[.int .i64 0, .slice none 0 0] 31)).heap.size = w.heap.size + 2) := Lib.hid (by simp)
  unfold CallsPost bagV
  clear hS hI hd
  go_enter Try.func5, Try.ntmps5
  go_upto_region 1 with fail
  generalize (w.alloc (.cells #[.int .i64 l, .int .i64 k, .int .i64 K] 23)).alloc (.cells #[.int .i64 0, .slice none 0 0] 31) = W0 at X0 X1 BW0 Z0 ⊢
  have c1 := blk_cell X1.out
  have z1 := lt_of_block X1.out
  go_wp2_with fail
  refine (HN.out _).mono ?_
  rintro e w1 ⟨g, F0, rfl, hD, hF, hb1⟩
  have Y1 := blk_below X1.out hb1
  have c2 := blk_cell Y1
  have z2 := lt_of_block Y1
  obtain ⟨pb, hpb⟩ : ∃ pb, pb = w1.heap.size := ⟨_, rfl⟩
  have hs1 := hb1.size
  have al := (Below.refl w1.heap.size w1).alloc (Nat.le_refl _) (.cells #[.int .i64 l, .slice none 0 0] 31)
  have R0 : Hid (MadeS w pb g K l k [] [] F0 none 0 (w1.alloc (.cells #[.int .i64 l, .slice none 0 0] 31))) := Lib.hid
    ⟨hD.below al, fun b hb => by have := hF b hb; have := BW0.out.size; omega, heap_new_at _ _ _ hpb, by have := Z0.out; omega, blk_below (blk_below X0.out hb1) al, .nil, Below.then_ (Below.then_ BW0.out hb1) al⟩
  clear hD hF hb1 Y1 al c1 z1 X1 X0 HN
  go_upto_region 5 with fail
  rw [← hpb]
  generalize w1.alloc (.cells #[.int .i64 l, .slice none 0 0] 31) = W2 at R0 ⊢
  have hol : (ops.length : Int) ≤ 1000 := by omega
  clear c2 z2 hs1 hpb Z0
  go_wp2_with fail
  go_loopw [29] (fun i wr => ∃ (q : Nat) (r m : List Nd) (F : Nat → Prop) (A' : Option Addr) (cap' : Nat), q ≤ ops.length ∧ i = .int .i64 q ∧ MadeS w pb g K l k r m F A' cap' wr ∧ Held l k r m ∧ r.length ≤ q ∧ m.length ≤ q ∧ (r.length : Int) ≤ 8 * k) (fun i _ => ops.length - (intOf i).toNat)
  case atStart => exact ⟨0, [], [], F0, none, 0, Nat.zero_le _, rfl, R0.out, Held.nil l k, by simp, by simp, by simp; omega⟩
  case round =>
    obtain ⟨q, r, m, F, A', cap', hq, rfl, hR, hH, hrl, hml, hrm⟩ := hrel
    have R := Lib.hid hR
    have H := Lib.hid hH
    have hz := hR.blw.size
    clear hR hH
    by_cases hlt : q < ops.length
    · have hqi : (q : Int) < (ops.length : Int) := by omega
      obtain ⟨b, off, rfl, hb, hc⟩ := HS.out.at_ hlt
      have d0 := (R.out.blw.cell (p := ⟨b, off + q * 3, none⟩) hb).trans (by have := hc 0 (.int .i64 ops[q].1) rfl; simpa using this)
      have d1 := (R.out.blw.cell (p := ⟨b, off + q * 3 + 1, none⟩) hb).trans (hc 1 (.int .i64 ops[q].2.1) rfl)
      have d2 := (R.out.blw.cell (p := ⟨b, off + q * 3 + 2, none⟩) hb).trans (hc 2 (.int .i64 ops[q].2.2) rfl)
      have lb : b < wr.heap.size := Nat.lt_of_lt_of_le hb hz
      have hi := HI.out _ (List.getElem_mem hlt)
      have HDo := Lib.hid (fun W h => law13_Do W g K l k r F h (by omega) ops[q])
      have HAd := Lib.hid (fun W A c h => ref10_Add W l A c m ops[q].2.1 ops[q].2.2 hl h H.out.bag (by omega) hi.2.2.2)
      have hdo : ∀ r' n, DoTo l k r ops[q] r' n → Held l k r' (bagDo l m ops[q] n) ∧ r'.length ≤ q + 1 ∧ (r'.length : Int) ≤ 8 * k ∧ (bagDo l m ops[q] n).length ≤ q + 1 := fun r' n h =>
        ⟨H.out.do_ hl hk h, by have := h.len H.out.fits; omega, h.room H.out.fits hl hk hrm, by have := bagDo_len l m ops[q] n; omega⟩
      have HD := Lib.hid hdo
      unfold bagDo at HD
      generalize ops[q] = o at d0 d1 d2 HDo HAd HD
      obtain ⟨kd, x, c⟩ := o
      simp only at d0 d1 d2 HDo HAd HD
      clear hc hi hdo
      have XO := Lib.hid (heap_new_at wr (.cells #[.int .i64 kd, .int .i64 x, .int .i64 c] 49) wr.heap.size rfl)
      have R1 := Lib.hid (R.out.below ((Below.refl wr.heap.size wr).alloc (Nat.le_refl _) (.cells #[.int .i64 kd, .int .i64 x, .int .i64 c] 49)))
      go_upto_region 8 with fail
      obtain ⟨po, hpo⟩ : ∃ po, po = wr.heap.size := ⟨_, rfl⟩
      rw [← hpo] at XO ⊢
      generalize wr.alloc (.cells #[.int .i64 kd, .int .i64 x, .int .i64 c] 49) = W3 at XO R1 ⊢
      have e0 := blk_cell XO.out
      have ez := lt_of_block XO.out
      clear d0 d1 d2 lb R hpo
      go_wp2_with fail
      refine (HDo.out _ R1.out.d).mono ?_
      rintro e w4 ⟨r', n, rfl, hDo, hT⟩
      have X4 := Lib.hid (by obtain ⟨F', _, h2, _⟩ := hT; exact h2.keep XO.out (R1.out.d.not_type (.of XO.out) (by decide)))
      obtain ⟨F4, R4'⟩ := R1.out.dig hT
      have R4 := Lib.hid R4'
      have HD4 := Lib.hid (HD.out r' n hDo)
      have f0 := blk_cell X4.out
      have fz := lt_of_block X4.out
      have p0 := blk_cell R4.out.b
      have pf := blk_frozen R4.out.b
      have pz := lt_of_block R4.out.b
      clear hDo hT R4' e0 ez XO R1 HD HDo
      by_cases h2 : kd = 2
      · subst h2
        have HE : Hid (MadeS w pb g K l k r' [] F4 none 0 (w4.setCell ⟨pb, 1, none⟩ (.slice none 0 0))) := Lib.hid (R4.out.set1 (m' := []) .nil)
        rw [if_pos rfl] at HD4
        go_wp2_with fail
        go_roundw
        case rel => exact ⟨q + 1, r', [], F4, none, 0, by omega, by go_num, HE.out, HD4.out.1, HD4.out.2.1, by simp, HD4.out.2.2.1⟩
        case measure => simp [intOf]; omega
      · have h2' : (kd == 2) = false := by simpa using h2
        rw [if_neg h2] at HD4
        by_cases h1 : kd = 1
        · subst h1
          rw [if_neg (by simp)] at HD4
          go_wp2_with fail
          go_roundw
          case rel => exact ⟨q + 1, r', m, F4, A', cap', by omega, by go_num, R4.out, HD4.out.1, HD4.out.2.1, by omega, HD4.out.2.2.1⟩
          case measure => simp [intOf]; omega
        · have h1' : (kd == 1) = false := by simpa using h1
          have h1n : (kd != 1) = true := by simpa using h1
          by_cases hn : n = 0
          · subst hn
            rw [if_pos ⟨h1, rfl⟩] at HD4
            unfold bagV at HAd
            generalize addB l m x c = t at HD4 HAd
            obtain ⟨m', e'⟩ := t
            simp only at HD4 HAd
            go_wp2_with fail
            refine (HAd.out _ A' cap' R4.out.s).mono ?_
            rintro e w5 ⟨A5, c5, rfl, hS5, hb5⟩
            have R5 := Lib.hid (R4.out.below hb5)
            have S5 := Lib.hid hS5
            have HE : Hid (MadeS w pb g K l k r' m' F4 A5 c5 ((w5.setCell ⟨pb, 0, none⟩ (.int .i64 l)).setCell ⟨pb, 1, none⟩ (.slice A5 m'.length c5))) := Lib.hid (R5.out.set0.set1 (hS5.setCellT (p := ⟨pb, 0, none⟩) (.of R5.out.b) (by decide)))
            have p5 := blk_cell R5.out.b
            have pf5 := blk_frozen R5.out.b
            have pz5 := lt_of_block R5.out.b
            clear hS5 hb5 p0 pf pz f0 fz
            go_wp2_with fail
            go_roundw
            case rel => exact ⟨q + 1, r', m', F4, A5, c5, by omega, by go_num, HE.out, HD4.out.1, HD4.out.2.1, HD4.out.2.2.2, HD4.out.2.2.1⟩
            case measure => simp [intOf]; omega
          · have hn' : (n == 0) = false := by simpa using hn
            rw [if_neg (fun h => hn h.2)] at HD4
            go_wp2_with fail
            go_roundw
            case rel => exact ⟨q + 1, r', m, F4, A', cap', by omega, by go_num, R4.out, HD4.out.1, HD4.out.2.1, by omega, HD4.out.2.2.1⟩
            case measure => simp [intOf]; omega
    · obtain rfl : q = ops.length := by omega
      have hqi : decide ((ops.length : Int) < (ops.length : Int)) = false := by simp
      have p0 := blk_cell R.out.b
      have pz := lt_of_block R.out.b
      have y0 := blk_cell R.out.z
      have yf := blk_frozen R.out.z
      have yz := lt_of_block R.out.z
      have HE : Hid (∀ a b : Value, DigAt ((wr.setCell ⟨w.heap.size + 1, 0, none⟩ a).setCell ⟨w.heap.size + 1, 1, none⟩ b).drew g K l k r F ∧ SlT ((wr.setCell ⟨w.heap.size + 1, 0, none⟩ a).setCell ⟨w.heap.size + 1, 1, none⟩ b).drew 59 encN A' m ∧ Below w.heap.size w ((wr.setCell ⟨w.heap.size + 1, 0, none⟩ a).setCell ⟨w.heap.size + 1, 1, none⟩ b).drew) := Lib.hid fun a b => by
        have hF : ¬ F (w.heap.size + 1) := R.out.d.not_type (.of R.out.z) (by decide)
        have T0 := TypeAt.of R.out.z
        refine ⟨R.out.d.keep fun j hj => ?_, ((R.out.s.setCellT (p := ⟨w.heap.size + 1, 0, none⟩) T0 (by decide)).setCellT (p := ⟨w.heap.size + 1, 1, none⟩) T0.setCell (by decide)).drew, ((R.out.blw.setCell (by simp) _).setCell (by simp) _).drew⟩
        exact (Below.heap_setCell _ _ _ _ (by rintro rfl; exact hF hj)).trans (Below.heap_setCell _ _ _ _ (by rintro rfl; exact hF hj))
      have HFw := Lib.hid R.out.fw
      have H2 := Lib.hid (And.intro hrl (And.intro hml hrm))
      go_upto_region 14 with fail
      go_region
      all_goals (go_wp2_with fail)
      all_goals first
        | exact bodyPost_ret (v := .tuple #[.pointer (some ⟨g, 0, none⟩), .agg #[.int .i64 l, .slice A' m.length cap']]) (by simp only [results, Try.results5]; go_simp) rfl ⟨g, F, r, m, A', cap', rfl, (HE.out _ _).1, HFw.out, (HE.out _ _).2.1, H.out, H2.out.1, H2.out.2.1, H2.out.2.2, (HE.out _ _).2.2⟩
        | trace_state
end Go.Proofs.Ytcjnchjmpkapmaa
/- What stands while a law over a digest of calls runs. -/
namespace Go.Proofs.Ytcjnchjmpkapmaa
open Go.ChangeShapes Go.WideShapes Go.ChangeAt Go.RowKit
set_option linter.unusedVariables false

structure LawW (w : World) (g K l : Nat) (k : Int) (r m : List Nd) (F : Nat → Prop) (ops : List Op3) (A : Option Addr) (cap : Nat) (pb : Nat) (A1 : Option Addr) (c1 : Nat) (W : World) : Prop where
  d : DigAt W g K l k r F
  x : W.heap[w.heap.size]? = some (.cells #[.int .i64 l, .int .i64 k, .int .i64 K, .slice A ops.length cap] 26 (0, 0))
  b : W.heap[pb]? = some (.cells #[.int .i64 l, .slice A1 m.length c1] 31 (0, 0))
  s : Sl W W.heap.size encN A1 m
  blw : Below w.heap.size w W
end Go.Proofs.Ytcjnchjmpkapmaa
/- Chapter 18's example. -/
namespace Go.Proofs.Ytcjnchjmpkapmaa
open Go.ChangeShapes Go.WideShapes Go.ChangeAt Go.RowKit
set_option linter.unusedVariables false
set_option maxRecDepth 100000

theorem betw18_a : betw ((2 : Nat) : Int) nodes16 0 2 = (2, 3, 0) := by decide +kernel
theorem betw18_b : betw ((2 : Nat) : Int) nodes16 1 2 = (0, 1, 0) := by decide +kernel
theorem betw18_c : betw ((2 : Nat) : Int) nodes16 3 3 = (3, 4, 0) := by decide +kernel
theorem alive18 (w : World) : Calls Try.prog 4 #[] w fun e w' => e = .returned (.bool true) ∧ Below w.heap.size w w' := by
  have HS := Lib.hid (sl_lit w encN nodes16 45 _ rfl)
  have HC := Lib.hid (digest_Load · 2 2 4 (some ⟨w.heap.size, 0, none⟩) 3 nodes16 load16 · nodes16_ints (by decide))
  go_enter Try.func4, Try.ntmps4
  go_wp2_with fail
  refine (HC.out _ (HS.out.keep (by simp) fun p hp => rfl)).mono ?_
  rintro e w1 ⟨g, F, rfl, hD, _, hb1⟩
  have B1 : Below w.heap.size w w1 := Below.then_ (by repeat (first | with_reducible exact Below.refl _ _ | with_reducible assumption | ((with_reducible refine Below.setCell ?_ ?_ _); rotate_left; · (first | omega | exact Nat.le_refl _ | (simp <;> omega))) | (with_reducible refine Below.allocW ?_ _) | (with_reducible refine Below.drew ?_) | (with_reducible refine Below.extW ?_ _))) hb1
  have s1 : w.heap.size ≤ w1.heap.size := B1.size
  have KD := Lib.hid hD
  have HB := Lib.hid (fun (a b : Int) (w : World) h => reach_Between w g 2 2 4 nodes16 F a b h (by decide))
  clear hD
  go_wp2_with fail
  refine (HB.out 0 2 _ KD.out).mono ?_
  rintro e w2 ⟨rfl, hb2⟩
  have B2 : Below w.heap.size w w2 := Below.then_ (by repeat (first | with_reducible exact Below.refl _ _ | with_reducible assumption | ((with_reducible refine Below.setCell ?_ ?_ _); rotate_left; · (first | omega | exact Nat.le_refl _ | (simp <;> omega))) | (with_reducible refine Below.allocW ?_ _) | (with_reducible refine Below.drew ?_) | (with_reducible refine Below.extW ?_ _))) hb2
  have s2 : w.heap.size ≤ w2.heap.size := B2.size
  rw [betw18_a]
  unfold bothV
  have KD2 := Lib.hid ((KD.out.below hb2).alloc (.cells #[.int .i64 2, .int .i64 3] 35))
  go_wp2_with fail
  refine (HB.out 1 2 _ KD2.out).mono ?_
  rintro e w3 ⟨rfl, hb3⟩
  have B3 : Below w.heap.size w w3 := Below.then_ (by repeat (first | with_reducible exact Below.refl _ _ | with_reducible assumption | ((with_reducible refine Below.setCell ?_ ?_ _); rotate_left; · (first | omega | exact Nat.le_refl _ | (simp <;> omega))) | (with_reducible refine Below.allocW ?_ _) | (with_reducible refine Below.drew ?_) | (with_reducible refine Below.extW ?_ _))) hb3
  have s3 : w.heap.size ≤ w3.heap.size := B3.size
  have z3_0 : w2.heap.size < w3.heap.size := by have := hb3.size; (try simp at this); omega
  have y3_0 : w2.heap.size ≤ w3.heap.size := Nat.le_of_lt z3_0
  have c3_0 := fun o => hb3.cell (p := ⟨w2.heap.size, o, none⟩) (by first | omega | (simp <;> omega))
  have f3_0 := fun o => hb3.frozen (p := ⟨w2.heap.size, o, none⟩) (by first | omega | (simp <;> omega))
  rw [betw18_b]
  unfold bothV
  have KD3 := Lib.hid ((KD2.out.below hb3).alloc (.cells #[.int .i64 0, .int .i64 1] 35))
  go_wp2_with fail
  refine (HB.out 3 3 _ KD3.out).mono ?_
  rintro e w4 ⟨rfl, hb4⟩
  have B4 : Below w.heap.size w w4 := Below.then_ (by repeat (first | with_reducible exact Below.refl _ _ | with_reducible assumption | ((with_reducible refine Below.setCell ?_ ?_ _); rotate_left; · (first | omega | exact Nat.le_refl _ | (simp <;> omega))) | (with_reducible refine Below.allocW ?_ _) | (with_reducible refine Below.drew ?_) | (with_reducible refine Below.extW ?_ _))) hb4
  have s4 : w.heap.size ≤ w4.heap.size := B4.size
  have z4_0 : w2.heap.size < w4.heap.size := by have := hb4.size; (try simp at this); omega
  have y4_0 : w2.heap.size ≤ w4.heap.size := Nat.le_of_lt z4_0
  have c4_0 := fun o => hb4.cell (p := ⟨w2.heap.size, o, none⟩) (by first | omega | (simp <;> omega))
  have f4_0 := fun o => hb4.frozen (p := ⟨w2.heap.size, o, none⟩) (by first | omega | (simp <;> omega))
  have z4_1 : w3.heap.size < w4.heap.size := by have := hb4.size; (try simp at this); omega
  have y4_1 : w3.heap.size ≤ w4.heap.size := Nat.le_of_lt z4_1
  have c4_1 := fun o => hb4.cell (p := ⟨w3.heap.size, o, none⟩) (by first | omega | (simp <;> omega))
  have f4_1 := fun o => hb4.frozen (p := ⟨w3.heap.size, o, none⟩) (by first | omega | (simp <;> omega))
  rw [betw18_c]
  unfold bothV
  go_wp2_with fail
  go_ret
  exact ⟨rfl, (by repeat (first | with_reducible exact Below.refl _ _ | with_reducible assumption | ((with_reducible refine Below.setCell ?_ ?_ _); rotate_left; · (first | omega | exact Nat.le_refl _ | (simp <;> omega))) | (with_reducible refine Below.allocW ?_ _) | (with_reducible refine Below.drew ?_) | (with_reducible refine Below.extW ?_ _)))⟩
end Go.Proofs.Ytcjnchjmpkapmaa
/- Chapter 18: the range holds: the law. -/
namespace Go.Proofs.Ytcjnchjmpkapmaa
open Go.ChangeShapes Go.WideShapes Go.ChangeAt Go.RowKit
set_option linter.unusedVariables false
set_option linter.unusedSimpArgs false
set_option maxRecDepth 100000

set_option maxHeartbeats 4000000 in
theorem law_ReachHolds_big (l k K : Int) (ops : List Op3) (A : Option Addr) (cap : Nat) (a b : Int) (w : World) (h : ¬ (ops.length ≤ 120 ∧ 1 ≤ k ∧ ¬ (K = 1 ∧ 10 < l))) (hm : ops.length ≤ maxLen) :
    Calls Try.prog 3 #[callsV l k K A ops.length cap, .int .i64 a, .int .i64 b] w fun e w' => e = .returned (.bool true) ∧ Below w.heap.size w w' := by
  unfold maxLen at hm
  unfold callsV
  by_cases h1 : 120 < ops.length
  · have h1p : (120 : Int) < (ops.length : Int) := by omega
    clear h
    go_enter Try.func3, Try.ntmps3
    go_wp2_with fail
    refine (alive18 _).mono ?_
    rintro e w1 ⟨rfl, hb1⟩
    have B1 : Below w.heap.size w w1 := Below.then_ (by repeat (first | with_reducible exact Below.refl _ _ | with_reducible assumption | ((with_reducible refine Below.setCell ?_ ?_ _); rotate_left; · (first | omega | exact Nat.le_refl _ | (simp <;> omega))) | (with_reducible refine Below.allocW ?_ _) | (with_reducible refine Below.drew ?_) | (with_reducible refine Below.extW ?_ _))) hb1
    have s1 : w.heap.size ≤ w1.heap.size := B1.size
    go_wp2_with fail
    go_ret
    exact ⟨rfl, (by repeat (first | with_reducible exact Below.refl _ _ | with_reducible assumption | ((with_reducible refine Below.setCell ?_ ?_ _); rotate_left; · (first | omega | exact Nat.le_refl _ | (simp <;> omega))) | (with_reducible refine Below.allocW ?_ _) | (with_reducible refine Below.drew ?_) | (with_reducible refine Below.extW ?_ _)))⟩
  · have h1n : decide ((120 : Int) < (ops.length : Int)) = false := by simp; omega
    by_cases h2 : k < 1
    · clear h
      go_enter Try.func3, Try.ntmps3
      go_wp2_with fail
      refine (alive18 _).mono ?_
      rintro e w1 ⟨rfl, hb1⟩
      have B1 : Below w.heap.size w w1 := Below.then_ (by repeat (first | with_reducible exact Below.refl _ _ | with_reducible assumption | ((with_reducible refine Below.setCell ?_ ?_ _); rotate_left; · (first | omega | exact Nat.le_refl _ | (simp <;> omega))) | (with_reducible refine Below.allocW ?_ _) | (with_reducible refine Below.drew ?_) | (with_reducible refine Below.extW ?_ _))) hb1
      have s1 : w.heap.size ≤ w1.heap.size := B1.size
      go_wp2_with fail
      go_ret
      exact ⟨rfl, (by repeat (first | with_reducible exact Below.refl _ _ | with_reducible assumption | ((with_reducible refine Below.setCell ?_ ?_ _); rotate_left; · (first | omega | exact Nat.le_refl _ | (simp <;> omega))) | (with_reducible refine Below.allocW ?_ _) | (with_reducible refine Below.drew ?_) | (with_reducible refine Below.extW ?_ _)))⟩
    · have h2n : decide (k < 1) = false := by simpa using h2
      have hK : K = 1 ∧ 10 < l := Classical.byContradiction fun hc => h ⟨by omega, by omega, hc⟩
      obtain ⟨rfl, hL⟩ := hK
      clear h h1 h2
      go_enter Try.func3, Try.ntmps3
      go_wp2_with fail
      refine (alive18 _).mono ?_
      rintro e w1 ⟨rfl, hb1⟩
      have B1 : Below w.heap.size w w1 := Below.then_ (by repeat (first | with_reducible exact Below.refl _ _ | with_reducible assumption | ((with_reducible refine Below.setCell ?_ ?_ _); rotate_left; · (first | omega | exact Nat.le_refl _ | (simp <;> omega))) | (with_reducible refine Below.allocW ?_ _) | (with_reducible refine Below.drew ?_) | (with_reducible refine Below.extW ?_ _))) hb1
      have s1 : w.heap.size ≤ w1.heap.size := B1.size
      go_wp2_with fail
      go_ret
      exact ⟨rfl, (by repeat (first | with_reducible exact Below.refl _ _ | with_reducible assumption | ((with_reducible refine Below.setCell ?_ ?_ _); rotate_left; · (first | omega | exact Nat.le_refl _ | (simp <;> omega))) | (with_reducible refine Below.allocW ?_ _) | (with_reducible refine Below.drew ?_) | (with_reducible refine Below.extW ?_ _)))⟩
set_option maxHeartbeats 4000000 in
theorem law_ReachHolds_none (l k K : Int) (ops : List Op3) (A : Option Addr) (cap : Nat) (a b : Int) (w : World) (h : ops.length ≤ 120 ∧ 1 ≤ k ∧ ¬ (K = 1 ∧ 10 < l)) (hd : isDig l k K = false) :
    Calls Try.prog 3 #[callsV l k K A ops.length cap, .int .i64 a, .int .i64 b] w fun e w' => e = .returned (.bool true) ∧ Below w.heap.size w w' := by
  obtain ⟨h1, h2, h4⟩ := h
  have h1n : decide ((120 : Int) < (ops.length : Int)) = false := by simp; omega
  have h2n : decide (k < 1) = false := by simp; omega
  have HM := Lib.hid (fun W v => law13_Made_no W l k K v hd)
  unfold bagV at HM
  unfold callsV
  rcases (by by_cases e : K = 1; exact .inl ⟨by simpa using e, by simp; omega⟩; exact .inr (by simpa using e) : ((K == 1) = true ∧ decide (10 < l) = false) ∨ (K == 1) = false) with ⟨g1, g2⟩ | g1
  all_goals
    clear h4 hd h1 h2
    go_enter Try.func3, Try.ntmps3
    go_wp2_with fail
    refine (HM.out _ _).mono ?_
    rintro e w1 ⟨rfl, hb1⟩
    have B1 : Below w.heap.size w w1 := Below.then_ (by repeat (first | with_reducible exact Below.refl _ _ | with_reducible assumption | ((with_reducible refine Below.setCell ?_ ?_ _); rotate_left; · (first | omega | exact Nat.le_refl _ | (simp <;> omega))) | (with_reducible refine Below.allocW ?_ _) | (with_reducible refine Below.drew ?_) | (with_reducible refine Below.extW ?_ _))) hb1
    have s1 : w.heap.size ≤ w1.heap.size := B1.size
    go_wp2_with fail
    refine (alive18 _).mono ?_
    rintro e w2 ⟨rfl, hb2⟩
    have B2 : Below w.heap.size w w2 := Below.then_ (by repeat (first | with_reducible exact Below.refl _ _ | with_reducible assumption | ((with_reducible refine Below.setCell ?_ ?_ _); rotate_left; · (first | omega | exact Nat.le_refl _ | (simp <;> omega))) | (with_reducible refine Below.allocW ?_ _) | (with_reducible refine Below.drew ?_) | (with_reducible refine Below.extW ?_ _))) hb2
    have s2 : w.heap.size ≤ w2.heap.size := B2.size
    go_wp2_with fail
    go_ret
    exact ⟨rfl, (by repeat (first | with_reducible exact Below.refl _ _ | with_reducible assumption | ((with_reducible refine Below.setCell ?_ ?_ _); rotate_left; · (first | omega | exact Nat.le_refl _ | (simp <;> omega))) | (with_reducible refine Below.allocW ?_ _) | (with_reducible refine Below.drew ?_) | (with_reducible refine Below.extW ?_ _)))⟩
set_option maxHeartbeats 4000000 in
theorem law_ReachHolds_yes (l K : Nat) (k : Int) (ops : List Op3) (A : Option Addr) (cap : Nat) (a b : Int) (w : World) (h : ops.length ≤ 120 ∧ 1 ≤ k ∧ ¬ ((K : Int) = 1 ∧ 10 < (l : Int))) (hd : isDig l k K = true) (hS : Sl w w.heap.size encO A ops) (hI : intsO ops) :
    Calls Try.prog 3 #[callsV l k K A ops.length cap, .int .i64 a, .int .i64 b] w fun e w' => e = .returned (.bool true) ∧ Below w.heap.size w w' := by
  obtain ⟨h1, h2, h4⟩ := h
  have hl : 1 ≤ l ∧ l ≤ 48 := by simp only [isDig, isPool, Bool.and_eq_true, decide_eq_true_eq] at hd; omega
  have h1n : decide ((120 : Int) < (ops.length : Int)) = false := by simp; omega
  have h2n : decide (k < 1) = false := by simp; omega
  have HM := Lib.hid (fun W h => law13_Made W l K k A cap ops hd h hI (by omega))
  have X0 : Hid ((w.alloc (.cells #[.int .i64 l, .int .i64 k, .int .i64 K, .slice A ops.length cap] 26)).heap[w.heap.size]? = some (.cells #[.int .i64 l, .int .i64 k, .int .i64 K, .slice A ops.length cap] 26 (0, 0))) := Lib.hid (heap_alloc_new w _)
  have BW0 : Hid (Below w.heap.size w (w.alloc (.cells #[.int .i64 l, .int .i64 k, .int .i64 K, .slice A ops.length cap] 26))) := Lib.hid (by repeat (first | with_reducible exact Below.refl _ _ | with_reducible assumption | ((with_reducible refine Below.setCell ?_ ?_ _); rotate_left; · (first | omega | exact Nat.le_refl _ | (simp <;> omega))) | (with_reducible refine Below.allocW ?_ _) | (with_reducible refine Below.drew ?_) | (with_reducible refine Below.extW ?_ _)))
  have S0 := Lib.hid (hS.keep (B' := (w.alloc (.cells #[.int .i64 l, .int .i64 k, .int .i64 K, .slice A ops.length cap] 26)).heap.size) BW0.out.size fun p hp => BW0.out.cell hp)
  unfold callsV
  rcases (by by_cases e : (K : Int) = 1; exact .inl ⟨by simpa using e, by simp; omega⟩; exact .inr (by simpa using e) : (((K : Int) == 1) = true ∧ decide (10 < (l : Int)) = false) ∨ ((K : Int) == 1) = false) with ⟨g1, g2⟩ | g1
  all_goals
    clear h4 hd hS
    go_enter Try.func3, Try.ntmps3
    go_upto_region 1 with fail
    generalize w.alloc (.cells #[.int .i64 l, .int .i64 k, .int .i64 K, .slice A ops.length cap] 26) = W0 at X0 BW0 S0 ⊢
    have x0 := blk_cell X0.out
    have xz := lt_of_block X0.out
    go_wp2_with fail
    refine (HM.out W0 S0.out).mono ?_
    rintro e w1 ⟨g, F, r, m, A1, c1, rfl, hD, _, hT, hH, hr, _, _, hb1⟩
    obtain ⟨x, hx⟩ : ∃ x, x = min a b := ⟨_, rfl⟩
    obtain ⟨y, hy⟩ : ∃ y, y = max a b := ⟨_, rfl⟩
    have hxy : x ≤ y := by omega
    obtain ⟨q1, q2, q3⟩ := hH.betw hl h2 hxy
    have hv : ∀ x ∈ m, 1 ≤ x.2 := fun x hx => (hH.bag.val x hx).2.2
    have hs0 := hH.bag.sum0
    have hs1 := hH.bag.sum
    have hb := betwB_le hv x y
    have hlo : 0 ≤ betwLow l r x y ∧ betwLow l r x y ≤ sumR r := weighR_le hH.fits.roll
    have hhi : 0 ≤ betwHigh l r x y ∧ betwHigh l r x y ≤ sumR r := weighR_le hH.fits.roll
    rw [hH.sum] at hlo hhi
    have hq0 : 0 ≤ sumR m / k := Int.ediv_nonneg hs0 (by omega)
    have hq1 : sumR m / k ≤ sumR m := Int.ediv_le_self _ hs0
    have td : (sumR m).tdiv k = sumR m / k := Int.tdiv_eq_ediv_of_nonneg hs0
    have HB := Lib.hid (fun W h => reach_Between W g K l k r F x y h (by omega))
    rw [betw_yes (show ¬ y < x by omega)] at HB
    have HN := Lib.hid (fun W h => ref10_Between W l A1 c1 m x y h hv hs1)
    have HT := Lib.hid (fun W h => ref10_Total W l A1 c1 m h hv hs1)
    have al := (Below.refl w1.heap.size w1).alloc (Nat.le_refl _) (.cells #[.int .i64 l, .slice A1 m.length c1] 31)
    have X2 := Lib.hid (heap_alloc_new w1 (.cells #[.int .i64 l, .slice A1 m.length c1] 31))
    have B2 := Lib.hid (Below.then_ (Below.then_ BW0.out hb1) al)
    have Z2 := Lib.hid (blk_below (blk_below X0.out hb1) al)
    have D2 := Lib.hid (hD.below al)
    have S2 := Lib.hid (hT.below al).sl
    unfold bagV at HN HT ⊢
    generalize betwLow l r x y = lo at q1 q3 hlo HB
    generalize betwHigh l r x y = hi at q2 q3 hhi HB
    generalize betwB m x y = n at q1 q2 hb HN
    generalize sumR m = t at hs0 hs1 hb hlo hhi HT q3 hq0 hq1 td
    have hm0 : (0 : Int) ≤ 2 * l * (t / k) := Int.mul_nonneg (by omega) hq0
    have hm1 : (2 : Int) * l * (t / k) ≤ 6917529027641081760 := by
      have h1 : (2 : Int) * l * (t / k) ≤ 96 * (t / k) := Int.mul_le_mul_of_nonneg_right (by omega) hq0
      omega
    have hw : wrap64 ((2 : Int) * l * (t / k)) = 2 * l * (t / k) := by unfold wrap64; omega
    clear hD hT hH hb1 al x0 xz X0 BW0 S0 HM hr hv hm0 hm1
    go_upto_region 4 with fail
    obtain ⟨pb, hpb⟩ : ∃ pb, pb = w1.heap.size := ⟨_, rfl⟩
    rw [← hpb] at X2 ⊢
    generalize w1.alloc (.cells #[.int .i64 l, .slice A1 m.length c1] 31) = w2 at X2 B2 Z2 D2 S2 ⊢
    clear hpb
    have x2 := blk_cell X2.out
    have xz2 := lt_of_block X2.out
    go_upto_region 7 with fail
    rw [← hx, ← hy]
    clear hx hy
    go_wp2_with fail
    refine (HB.out _ D2.out).mono ?_
    rintro e w3 ⟨rfl, hb3⟩
    have al := (hb3.trans (((Below.refl w3.heap.size w3).alloc (Nat.le_refl _) (.cells #[.int .i64 lo, .int .i64 hi] 35)).mono hb3.size))
    have Y4 := Lib.hid (heap_alloc_new w3 (.cells #[.int .i64 lo, .int .i64 hi] 35))
    have X4 := Lib.hid (blk_below X2.out al)
    have Z4 := Lib.hid (blk_below Z2.out al)
    have S4 := Lib.hid (S2.out.keep (B' := (w3.alloc (.cells #[.int .i64 lo, .int .i64 hi] 35)).heap.size) al.size fun p hp => al.cell hp)
    have B4 := Lib.hid (Below.then_ B2.out al)
    clear hb3 al x2 xz2 D2 X2 Z2 S2 B2
    go_upto_region 8 with fail
    obtain ⟨py, hpy⟩ : ∃ py, py = w3.heap.size := ⟨_, rfl⟩
    rw [← hpy] at Y4 ⊢
    generalize w3.alloc (.cells #[.int .i64 lo, .int .i64 hi] 35) = w4 at Y4 X4 Z4 S4 B4 ⊢
    clear hpy
    have x4 := blk_cell X4.out
    have xz4 := lt_of_block X4.out
    go_wp2_with fail
    refine (HN.out _ S4.out).mono ?_
    rintro e w5 ⟨rfl, hb5⟩
    have Y5 := Lib.hid (blk_below Y4.out hb5)
    have X5 := Lib.hid (blk_below X4.out hb5)
    have Z5 := Lib.hid (blk_below Z4.out hb5)
    have S5 := Lib.hid (S4.out.keep (B' := w5.heap.size) hb5.size fun p hp => hb5.cell hp)
    have B5 := Lib.hid (Below.then_ B4.out hb5)
    clear hb5 x4 xz4 X4 Z4 S4 B4 Y4
    go_upto_region 9 with fail
    have x5 := blk_cell X5.out
    have xz5 := lt_of_block X5.out
    have y5 := blk_cell Y5.out
    have yz5 := lt_of_block Y5.out
    have z5 := blk_cell Z5.out
    have zz5 := lt_of_block Z5.out
    clear X5 Y5 Z5
    refine wp_region_ext (by kernel_rfl) (by kernel_rfl) ?_
    repeat (go_big_quiet_step (first | (go_at_call 8; exact quiet_ext (HT.out _ (S5.out.keep (ext_below _ _).size fun p hp => (ext_below _ _).cell hp))) | (go_at_call 4; exact quiet_ext (alive18 _))))
    refine wpQuiet_nil ?_
    intro w6 hb6
    have B6 := Lib.hid (Below.then_ B5.out (below_of_ext hb6))
    clear hb6
    go_wp2_with fail
    go_ret
    exact ⟨rfl, B6.out⟩
theorem law_ReachHolds (l k K : Int) (ops : List Op3) (A : Option Addr) (cap : Nat) (a b : Int) (W : World) (hS : Sl W W.heap.size encO A ops) (hI : intsO ops) (_ : i64 l) (_ : i64 k) (_ : i64 K) (hm : ops.length ≤ maxLen) (_ : (Lit.int IntKind.i64 a).wf = true) (_ : (Lit.int IntKind.i64 b).wf = true) :
    Calls Try.prog 3 #[callsV l k K A ops.length cap, .int .i64 a, .int .i64 b] W fun e W' => e = .returned (.bool true) ∧ Below W.heap.size W W' := by
  by_cases h : ops.length ≤ 120 ∧ 1 ≤ k ∧ ¬ (K = 1 ∧ 10 < l)
  · cases hd : isDig l k K
    · exact law_ReachHolds_none l k K ops A cap a b W h hd
    · obtain ⟨n, m, rfl, rfl⟩ := isDig_nat hd
      exact law_ReachHolds_yes n m k ops A cap a b W h hd hS hI
  · exact law_ReachHolds_big l k K ops A cap a b W h hm
end Go.Proofs.Ytcjnchjmpkapmaa
