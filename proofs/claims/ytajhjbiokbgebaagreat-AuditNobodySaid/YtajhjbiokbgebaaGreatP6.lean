/-
  Texts of this proof, one behind the other: TabOf, Of, BagItems, Ref16S, Ref34O, SortO, AuditOff0, AuditOffW, AuditNobodyW.
-/
import Derived.Deep.DeepCutAuto
import Derived.Test.YtajhjbiokbgebaaGreatShelf
import Derived.Test.YtajhjbiokbgebaaGreatP2
import Derived.Test.YtajhjbiokbgebaaGreatP3
import Derived.Test.YtajhjbiokbgebaaGreatP4
import Derived.Test.YtajhjbiokbgebaaGreatP5
/- Package rank: Low, High, Both, Steps of a table; Of. -/
set_option linter.unusedSimpArgs false namespace Go.Proofs.YtajhjbiokbgebaaGreat
open Go.ChangeShapes Go.WideShapes Go.ChangeAt Go.RowKit
set_option linter.unusedVariables false
set_option maxRecDepth 100000

/-- A table in block g: n, and two tables; all of it in blocks from L on and below B. -/
def TabAt (w : World) (L B g : Nat) (n : Int) (lt ft : List Nd) : Prop :=
  L ≤ g ∧ g < B ∧ ∃ A1 c1 A2 c2 A3 c3 A4 c4, w.heap[g]? = some (.cells #[.int .i64 n, .slice A1 lt.length c1, .slice A2 lt.length c2, .slice A3 ft.length c3, .slice A4 ft.length c4] 142 (0, 0)) ∧
    (Own w L 3 encZ (.slice A1 lt.length c1) (lt.map (·.1)) ∧ Own w L 3 encZ (.slice A2 lt.length c2) (lt.map (·.2)) ∧ Own w L 3 encZ (.slice A3 ft.length c3) (ft.map (·.1)) ∧ Own w L 3 encZ (.slice A4 ft.length c4) (ft.map (·.2))) ∧
    ∀ A n c, (A, n, c) ∈ [(A1, lt.length, c1), (A2, lt.length, c2), (A3, ft.length, c3), (A4, ft.length, c4)] → ∀ k, (Value.slice A n c).ownBlock = some k → k < B
section
variable {w w' : World} {L B g : Nat} {n : Int} {lt ft : List Nd}
theorem TabAt.keep (h : TabAt w L B g n lt ft) (hk : ∀ b, L ≤ b → b < B → w'.heap[b]? = w.heap[b]?) : TabAt w' L B g n lt ft := by
  obtain ⟨h0, h0', A1, c1, A2, c2, A3, c3, A4, c4, h1, ⟨h2, h3, h4, h5⟩, h6⟩ := h
  refine ⟨h0, h0', A1, c1, A2, c2, A3, c3, A4, c4, (hk g h0 h0').trans h1, ⟨?_, ?_, ?_, ?_⟩, h6⟩
  · exact h2.of_block fun b hb => hk b (h2.lt b hb).1 (h6 _ _ _ (by simp) b hb)
  · exact h3.of_block fun b hb => hk b (h3.lt b hb).1 (h6 _ _ _ (by simp) b hb)
  · exact h4.of_block fun b hb => hk b (h4.lt b hb).1 (h6 _ _ _ (by simp) b hb)
  · exact h5.of_block fun b hb => hk b (h5.lt b hb).1 (h6 _ _ _ (by simp) b hb)
theorem TabAt.below (h : TabAt w L B g n lt ft) (hb : Below B w w') : TabAt w' L B g n lt ft := h.keep fun b _ hlt => hb.block b hlt
theorem TabAt.set (h : TabAt w L B g n lt ft) {p : Addr} (hp : p.block < L) (u : Value) : TabAt (w.setCell p u) L B g n lt ft := h.keep fun b hb _ => Below.heap_setCell _ _ _ _ (by omega)
theorem table_Low (x : Int) (h : TabAt w L B g n lt ft) (hm : lt.length ≤ 67108864) (hr : lt.Pairwise fun a b => a.1 < b.1) :
    Calls Tryz.prog 22 #[.pointer (some ⟨g, 0, none⟩), .int .i64 x] w fun e w' => e = .returned (.int .i64 (upT lt x)) ∧ Below w.heap.size w w' := by
  obtain ⟨h0, h0', A1, c1, A2, c2, A3, c3, A4, c4, h1, ⟨o2, o3, o4, o5⟩, h6⟩ := h
  have h2 := o2.sl
  have h3 := o3.sl
  have h4 := o4.sl
  have h5 := o5.sl
  have c := blk_cell h1
  have H2 := Lib.hid h2
  have H3 := Lib.hid h3
  have HR := Lib.hid hr
  clear h1 h2 h3 h4 h5 hr o2 o3 o4 o5 h6
  go_enter Tryz.func22, Tryz.ntmps22
  go_wp2_with fail
  refine (sums_upTo _ A1 A2 c1 c2 lt x H2.out H3.out hm HR.out).mono ?_
  rintro e w1 ⟨rfl, hb1⟩
  have B1 : Below w.heap.size w w1 := Below.then_ (by repeat (first | with_reducible exact Below.refl _ _ | with_reducible assumption | ((with_reducible refine Below.setCell ?_ ?_ _); rotate_left; · (first | omega | exact Nat.le_refl _ | (simp <;> omega))) | (with_reducible refine Below.allocW ?_ _) | (with_reducible refine Below.drew ?_) | (with_reducible refine Below.extW ?_ _))) hb1
  have s1 : w.heap.size ≤ w1.heap.size := B1.size
  go_wp2_with fail
  go_ret
  exact ⟨rfl, (by repeat (first | with_reducible exact Below.refl _ _ | with_reducible assumption | ((with_reducible refine Below.setCell ?_ ?_ _); rotate_left; · (first | omega | exact Nat.le_refl _ | (simp <;> omega))) | (with_reducible refine Below.allocW ?_ _) | (with_reducible refine Below.drew ?_) | (with_reducible refine Below.extW ?_ _)))⟩
theorem table_High (x : Int) (h : TabAt w L B g n lt ft) (hm : ft.length ≤ 67108864) (hr : ft.Pairwise fun a b => a.1 < b.1) :
    Calls Tryz.prog 23 #[.pointer (some ⟨g, 0, none⟩), .int .i64 x] w fun e w' => e = .returned (.int .i64 (upT ft x)) ∧ Below w.heap.size w w' := by
  obtain ⟨h0, h0', A1, c1, A2, c2, A3, c3, A4, c4, h1, ⟨o2, o3, o4, o5⟩, h6⟩ := h
  have h2 := o2.sl
  have h3 := o3.sl
  have h4 := o4.sl
  have h5 := o5.sl
  have c := blk_cell h1
  have H2 := Lib.hid h4
  have H3 := Lib.hid h5
  have HR := Lib.hid hr
  clear h1 h2 h3 h4 h5 hr o2 o3 o4 o5 h6
  go_enter Tryz.func23, Tryz.ntmps23
  go_wp2_with fail
  refine (sums_upTo _ A3 A4 c3 c4 ft x H2.out H3.out hm HR.out).mono ?_
  rintro e w1 ⟨rfl, hb1⟩
  have B1 : Below w.heap.size w w1 := Below.then_ (by repeat (first | with_reducible exact Below.refl _ _ | with_reducible assumption | ((with_reducible refine Below.setCell ?_ ?_ _); rotate_left; · (first | omega | exact Nat.le_refl _ | (simp <;> omega))) | (with_reducible refine Below.allocW ?_ _) | (with_reducible refine Below.drew ?_) | (with_reducible refine Below.extW ?_ _))) hb1
  have s1 : w.heap.size ≤ w1.heap.size := B1.size
  go_wp2_with fail
  go_ret
  exact ⟨rfl, (by repeat (first | with_reducible exact Below.refl _ _ | with_reducible assumption | ((with_reducible refine Below.setCell ?_ ?_ _); rotate_left; · (first | omega | exact Nat.le_refl _ | (simp <;> omega))) | (with_reducible refine Below.allocW ?_ _) | (with_reducible refine Below.drew ?_) | (with_reducible refine Below.extW ?_ _)))⟩
theorem table_Both (x : Int) (h : TabAt w L B g n lt ft) (hBw : B ≤ w.heap.size) (hm : lt.length ≤ 67108864) (hr : lt.Pairwise fun a b => a.1 < b.1) (hm2 : ft.length ≤ 67108864) (hr2 : ft.Pairwise fun a b => a.1 < b.1) :
    Calls Tryz.prog 24 #[.pointer (some ⟨g, 0, none⟩), .int .i64 x] w fun e w' => e = .returned (.agg #[.int .i64 (upT lt x), .int .i64 (upT ft x)]) ∧ Below w.heap.size w w' := by
  have HA := Lib.hid (h.below ((Below.refl B w).alloc hBw (.cells #[.int .i64 0, .int .i64 0] 57)))
  have HR := Lib.hid hr
  have HR2 := Lib.hid hr2
  clear h hr hr2
  go_enter Tryz.func24, Tryz.ntmps24
  go_wp2_with fail
  refine (table_Low x HA.out hm HR.out).mono ?_
  rintro e w1 ⟨rfl, hb1⟩
  have B1 : Below w.heap.size w w1 := Below.then_ (by repeat (first | with_reducible exact Below.refl _ _ | with_reducible assumption | ((with_reducible refine Below.setCell ?_ ?_ _); rotate_left; · (first | omega | exact Nat.le_refl _ | (simp <;> omega))) | (with_reducible refine Below.allocW ?_ _) | (with_reducible refine Below.drew ?_) | (with_reducible refine Below.extW ?_ _))) hb1
  have s1 : w.heap.size ≤ w1.heap.size := B1.size
  have z1_0 : w.heap.size < w1.heap.size := by have := hb1.size; (try simp at this); omega
  have y1_0 : w.heap.size ≤ w1.heap.size := Nat.le_of_lt z1_0
  have c1_0 := fun o => hb1.cell (p := ⟨w.heap.size, o, none⟩) (by first | omega | (simp <;> omega))
  have f1_0 := fun o => hb1.frozen (p := ⟨w.heap.size, o, none⟩) (by first | omega | (simp <;> omega))
  have HA1 := Lib.hid (HA.out.below (hb1.mono (by simp; omega)))
  have K := Lib.hid ((bothAt.new w 0 0).below hb1)
  go_wp2_with fail
  refine (table_High x HA1.out hm2 HR2.out).mono ?_
  rintro e w2 ⟨rfl, hb2⟩
  have B2 : Below w.heap.size w w2 := Below.then_ (by repeat (first | with_reducible exact Below.refl _ _ | with_reducible assumption | ((with_reducible refine Below.setCell ?_ ?_ _); rotate_left; · (first | omega | exact Nat.le_refl _ | (simp <;> omega))) | (with_reducible refine Below.allocW ?_ _) | (with_reducible refine Below.drew ?_) | (with_reducible refine Below.extW ?_ _))) hb2
  have s2 : w.heap.size ≤ w2.heap.size := B2.size
  have k := K.out.below hb2
  have cc := blk_cell k
  have cf := blk_frozen k
  have zz := lt_of_block k
  clear k
  go_wp2_with fail
  exact bodyPost_ret (v := .agg #[.int .i64 (upT lt x), .int .i64 (upT ft x)]) (by simp only [results, Tryz.results24]; go_simp) rfl ⟨rfl, (by repeat (first | with_reducible exact Below.refl _ _ | with_reducible assumption | ((with_reducible refine Below.setCell ?_ ?_ _); rotate_left; · (first | omega | exact Nat.le_refl _ | (simp <;> omega))) | (with_reducible refine Below.allocW ?_ _) | (with_reducible refine Below.drew ?_) | (with_reducible refine Below.extW ?_ _)))⟩
end
@[go_sem] theorem run_eqZ_nil (w : World) (A : Option Addr) (n c : Nat) : (binOp .eql 49 (.slice A n c) (.slice none 0 0)).run Tryz.prog w = .ok (.bool A.isNone) w := Lib.run_eql_slice_nil w _ _ A n c 0 0 Tryz.underlying49
theorem clone_Z (w : World) (A : Option Addr) (cap : Nat) (l : List Int) (hS : Sl w w.heap.size encZ A l) (hn : l.length ≤ 67108864) :
    Calls Tryz.prog 88 #[.slice A l.length cap] w (OwnPost 3 encZ l w) := by
  rcases A with _ | a
  · have h0 : l = [] := by
      rcases hS with h | ⟨b, off, hA, _⟩
      · exact h
      · cases hA
    subst h0
    go_enter Tryz.func88, Tryz.ntmps88
    go_wp2_with fail
    go_ret
    exact ⟨_, rfl, Own.nil _ _ _ _, (by repeat (first | with_reducible exact Below.refl _ _ | with_reducible assumption | ((with_reducible refine Below.setCell ?_ ?_ _); rotate_left; · (first | omega | exact Nat.le_refl _ | (simp <;> omega))) | (with_reducible refine Below.allocW ?_ _) | (with_reducible refine Below.drew ?_) | (with_reducible refine Below.extW ?_ _)))⟩
  · have HS := Lib.hid hS
    clear hS
    go_enter Tryz.func88, Tryz.ntmps88
    go_wp2_with ((at_builtin; refine wpList_app tyZ rfl _ _ rfl encZ w.heap.size (.slice (some ⟨w.heap.size, 0, none⟩) 0 0) [] rfl ?ho (some a) cap l w.heap.size rfl ?hs ?c1 ?c2 ?c3 ?c4))
    case ho => exact .inr ⟨w.heap.size, 0, 0, #[], rfl, Nat.le_refl _, heap_alloc_new w _, Nat.le_refl _, by simp, by simp, fun j u hj => by simp at hj⟩
    case hs => exact HS.out.keep (Nat.le_refl _) fun p hp => ((Below.refl w.heap.size w).alloc (Nat.le_refl _) _).cell hp
    case c1 => simp; omega
    case c2 => simp [maxLen]; omega
    case c3 => simp
    case c4 =>
      intro v' w1 ho1 _ _ hb1 _
      have B1 : Below w.heap.size w w1 := ((Below.refl w.heap.size w).alloc (Nat.le_refl _) _).trans hb1
      have HO1 := Lib.hid (show Own w1 w.heap.size 3 encZ v' l by simpa using ho1)
      clear ho1
      go_wp2_with fail
      go_ret
      exact ⟨_, rfl, HO1.out, B1⟩
theorem table_Steps {w : World} {L B g : Nat} {n : Int} {lt ft : List Nd} (h : TabAt w L B g n lt ft) (hm : lt.length ≤ 67108864) :
    Calls Tryz.prog 25 #[.pointer (some ⟨g, 0, none⟩)] w (OwnPost 3 encZ (lt.map (·.1)) w) := by
  obtain ⟨h0, h0', A1, c1, A2, c2, A3, c3, A4, c4, h1, ⟨o2, o3, o4, o5⟩, h6⟩ := h
  have h2 := o2.sl
  have h3 := o3.sl
  have h4 := o4.sl
  have h5 := o5.sl
  have c := blk_cell h1
  have HC := Lib.hid (clone_Z w A1 c1 (lt.map (·.1)) h2 (by simpa using hm))
  rw [List.length_map] at HC
  clear h1 h2 h3 h4 h5 o2 o3 o4 o5 h6
  go_enter Tryz.func25, Tryz.ntmps25
  go_wp2_with fail
  refine HC.out.mono ?_
  rintro e w1 ⟨v, rfl, ho, hb⟩
  have HO := Lib.hid ho
  clear ho
  go_wp2_with fail
  go_ret
  exact ⟨_, rfl, HO.out, hb⟩
end Go.Proofs.YtajhjbiokbgebaaGreat
/- Package rank: Of: a digest's table. -/
namespace Go.Proofs.YtajhjbiokbgebaaGreat
open Go.ChangeShapes Go.WideShapes Go.ChangeAt Go.RowKit
set_option linter.unusedVariables false
set_option maxRecDepth 100000

/-- Where nodes end, and begin, and what they weigh. -/
def lastL (l : Int) (r : List Nd) : List Nd := r.map fun x => ((endsOf l x.1).2.1, x.2)
def firstL (l : Int) (r : List Nd) : List Nd := r.map fun x => ((endsOf l x.1).1, x.2)
theorem low_up (l : Int) (r : List Nd) (y : Int) : wUp (lastL l r) y = lowOf l r y := by
  induction r with
  | nil => rfl
  | cons x r ih =>
    simp only [lastL, List.map_cons, wUp, lowOf, weighR, decide_eq_true_eq] at ih ⊢
    rw [ih]
theorem high_up (l : Int) (r : List Nd) (y : Int) : wUp (firstL l r) y = highOf l r y := by
  induction r with
  | nil => rfl
  | cons x r ih =>
    simp only [firstL, List.map_cons, wUp, highOf, weighR, decide_eq_true_eq] at ih ⊢
    rw [ih]
theorem sum_last (l : Int) (r : List Nd) : sumR (lastL l r) = sumR r := by
  induction r with
  | nil => rfl
  | cons x r ih => simp only [lastL, List.map_cons, sumR] at ih ⊢; rw [ih]
theorem sum_first (l : Int) (r : List Nd) : sumR (firstL l r) = sumR r := by
  induction r with
  | nil => rfl
  | cons x r ih => simp only [firstL, List.map_cons, sumR] at ih ⊢; rw [ih]
theorem tyRd2 : SliceTy Tryz.prog 29 96 2 16 (.agg #[.int .i64 0, .int .i64 0]) := ⟨Tryz.underlying29, by kernel_rfl, rfl, by decide⟩
/-- A digest's table. -/
def OfPost (l : Int) (r : List Nd) (w : World) (e : Ending) (w' : World) : Prop :=
  ∃ g lt ft, e = .returned (.pointer (some ⟨g, 0, none⟩)) ∧ TabAt w' w.heap.size w'.heap.size g (sumR r) lt ft ∧ Tab (lastL l r) lt ∧ Tab (firstL l r) ft ∧ lt.length ≤ r.length ∧ ft.length ≤ r.length ∧ Below w.heap.size w w'
/-- Two lists of readings that grow. -/
structure TwoR (W : World) (B : Nat) (U1 : Value) (L1 : List Nd) (U2 : Value) (L2 : List Nd) : Prop where
  own1 : Own W B 96 encN U1 L1
  own2 : Own W B 96 encN U2 L2
  sep : Sep U1 U2
section
variable {W W' : World} {B : Nat} {U1 U1' : Value} {L1 L1' : List Nd} {U2 U2' : Value} {L2 L2' : List Nd}
theorem TwoR.below (h : TwoR W B U1 L1 U2 L2) (hb : Below W.heap.size W W') : TwoR W' B U1 L1 U2 L2 := ⟨h.own1.below hb, h.own2.below hb, h.sep⟩
theorem TwoR.app1 (h : TwoR W B U1 L1 U2 L2) {k : Nat} (hg : W.grownBy W' U1.ownBlock) (ho : Own W' B 96 encN U1' L1') (hl : U1'.ownBlock = U1.ownBlock ∨ U1'.ownBlock = some (W.heap.size + k)) : TwoR W' B U1' L1' U2 L2 :=
  ⟨ho, h.own2.kept hg (by
    cases e : U2.ownBlock with
    | none => exact .inl rfl
    | some g => exact .inr fun he => h.sep g (by rw [← he]) e), fun g h1 h2 => by
      rcases hl with hl | hl
      · exact h.sep g (hl ▸ h1) h2
      · rw [hl] at h1; cases h1; have := (h.own2.lt _ h2).2; omega⟩
theorem TwoR.app2 (h : TwoR W B U1 L1 U2 L2) {k : Nat} (hg : W.grownBy W' U2.ownBlock) (ho : Own W' B 96 encN U2' L2') (hl : U2'.ownBlock = U2.ownBlock ∨ U2'.ownBlock = some (W.heap.size + k)) : TwoR W' B U1 L1 U2' L2' :=
  ⟨h.own1.kept hg (by
    cases e : U1.ownBlock with
    | none => exact .inl rfl
    | some g => exact .inr fun he => h.sep g e (by rw [← he])), ho, fun g h1 h2 => by
      rcases hl with hl | hl
      · exact h.sep g h1 (hl ▸ h2)
      · rw [hl] at h2; cases h2; have := (h.own1.lt _ h1).2; omega⟩
end
theorem take_last {l : Int} {r : List Nd} {q : Nat} (h : q < r.length) : lastL l (r.take (q + 1)) = lastL l (r.take q) ++ [((endsOf l r[q].1).2.1, r[q].2)] := by
  unfold lastL; rw [List.take_succ_eq_append_getElem h, List.map_append]; rfl
theorem take_first {l : Int} {r : List Nd} {q : Nat} (h : q < r.length) : firstL l (r.take (q + 1)) = firstL l (r.take q) ++ [((endsOf l r[q].1).1, r[q].2)] := by
  unfold firstL; rw [List.take_succ_eq_append_getElem h, List.map_append]; rfl
theorem rank_Of_nil (w : World) : Calls Tryz.prog 20 #[.pointer none] w fun e w' => e = .returned (.pointer none) ∧ Below w.heap.size w w' := by
  go_enter Tryz.func20, Tryz.ntmps20
  go_wp2_with fail
  go_ret
  exact ⟨rfl, (by repeat (first | with_reducible exact Below.refl _ _ | with_reducible assumption | ((with_reducible refine Below.setCell ?_ ?_ _); rotate_left; · (first | omega | exact Nat.le_refl _ | (simp <;> omega))) | (with_reducible refine Below.allocW ?_ _) | (with_reducible refine Below.drew ?_) | (with_reducible refine Below.extW ?_ _)))⟩
set_option maxHeartbeats 2000000 in
theorem rank_Of (w : World) (g K l : Nat) (k : Int) (r : List Nd) (F : Nat → Prop) (h : DigAt w g K l k r F) (hn : r.length ≤ 67108864) :
    Calls Tryz.prog 20 #[.pointer (some ⟨g, 0, none⟩)] w (OfPost l r w) := by
  have hf := h.fits
  have hll := h.l_le
  have HD := Lib.hid h
  have hnd := hf.nodes hll
  have hlast : ∀ x ∈ lastL l r, 0 ≤ x.1 ∧ x.1 ≤ 281474976710655 := fun x hx => by
    obtain ⟨y, hy, rfl⟩ := List.mem_map.1 hx
    have := ends_48 hll.2 (hnd y hy); simp only; omega
  have hfirst : ∀ x ∈ firstL l r, 0 ≤ x.1 ∧ x.1 ≤ 281474976710655 := fun x hx => by
    obtain ⟨y, hy, rfl⟩ := List.mem_map.1 hx
    have := ends_48 hll.2 (hnd y hy); simp only; omega
  have hlast1 : ∀ x ∈ lastL l r, 1 ≤ x.2 := fun x hx => by obtain ⟨y, hy, rfl⟩ := List.mem_map.1 hx; exact (hf.roll.2 y hy).2
  have hfirst1 : ∀ x ∈ firstL l r, 1 ≤ x.2 := fun x hx => by obtain ⟨y, hy, rfl⟩ := List.mem_map.1 hx; exact (hf.roll.2 y hy).2
  have ML := Lib.hid (fun W base v (ho : Own W base 96 encN v (lastL l r)) => rank_made W base v (lastL l r) ho hlast hlast1 (by rw [sum_last]; exact hf.sum) (by simpa [lastL] using hn))
  have MF := Lib.hid (fun W base v (ho : Own W base 96 encN v (firstL l r)) => rank_made W base v (firstL l r) ho hfirst hfirst1 (by rw [sum_first]; exact hf.sum) (by simpa [firstL] using hn))
  clear h hlast hfirst hlast1 hfirst1 hnd
  go_enter Tryz.func20, Tryz.ntmps20
  go_wp2_with fail
  refine (digest_Conf _ g K l k r F HD.out).mono ?_
  rintro e w1 ⟨rfl, hb1⟩
  have B1 : Below w.heap.size w w1 := Below.then_ (by repeat (first | with_reducible exact Below.refl _ _ | with_reducible assumption | ((with_reducible refine Below.setCell ?_ ?_ _); rotate_left; · (first | omega | exact Nat.le_refl _ | (simp <;> omega))) | (with_reducible refine Below.allocW ?_ _) | (with_reducible refine Below.drew ?_) | (with_reducible refine Below.extW ?_ _))) hb1
  have s1 : w.heap.size ≤ w1.heap.size := B1.size
  have HD1 := Lib.hid (HD.out.below B1)
  go_wp2_with fail
  refine (digest_Nodes _ g K l k r F HD1.out hn).mono ?_
  rintro e w2 ⟨v, rfl, ho, hb2⟩
  have B2 : Below w.heap.size w w2 := Below.then_ (by repeat (first | with_reducible exact Below.refl _ _ | with_reducible assumption | ((with_reducible refine Below.setCell ?_ ?_ _); rotate_left; · (first | omega | exact Nat.le_refl _ | (simp <;> omega))) | (with_reducible refine Below.allocW ?_ _) | (with_reducible refine Below.drew ?_) | (with_reducible refine Below.extW ?_ _))) hb2
  have s2 : w.heap.size ≤ w2.heap.size := B2.size
  have HO := Lib.hid ho
  have HB2 := Lib.hid B2
  obtain ⟨A, cap, rfl, _⟩ := ho.form
  clear ho hb1 hb2 B1 B2
  go_wp2_with fail
  go_loopw [3, 4, 19] (fun f t i wr => ∃ (q : Nat) (v1 v2 : Value), q ≤ r.length ∧ i = .int .i64 q ∧ f = v1 ∧ t = v2 ∧ TwoR wr w2.heap.size v1 (firstL l (r.take q)) v2 (lastL l (r.take q)) ∧ Own wr w1.heap.size 126 encN (.slice A r.length cap) r ∧ Below w.heap.size w wr ∧ w2.heap.size ≤ wr.heap.size) (fun _ _ i _ => r.length - (intOf i).toNat)
  case atStart => exact ⟨0, .slice none 0 0, .slice none 0 0, Nat.zero_le _, rfl, rfl, rfl, ⟨Own.nil _ _ _ _, Own.nil _ _ _ _, (fun g h => by cases h)⟩, HO.out, HB2.out, Nat.le_refl _⟩
  case round =>
    obtain ⟨q, v1, v2, hq, rfl, rfl, rfl, htwo, hown, hB, hs⟩ := hrel
    have KT := Lib.hid htwo
    have KO := Lib.hid hown
    have KB := Lib.hid hB
    clear htwo hown
    by_cases hlt : q < r.length
    · obtain ⟨c, off, rfl, hc, hcl⟩ := KO.out.sl.at_ hlt
      have d0 := hcl 0 (.int .i64 r[q].1) rfl
      have d1 := hcl 1 (.int .i64 r[q].2) rfl
      simp only [Nat.add_zero] at d0
      have hxl := hf.lt _ (List.getElem_mem hlt)
      have hp := pow_48 (n := l) hll.2
      have TL := Lib.hid (take_last (l := l) hlt)
      have TF := Lib.hid (take_first (l := l) hlt)
      obtain ⟨x, hxe⟩ : ∃ x, x = r[q] := ⟨_, rfl⟩
      rw [← hxe] at d0 d1 hxl TL TF
      have hx1 : x.1 ≤ 562949953421312 := by omega
      have HE := Lib.hid (twig_Ends · l x.1 (by omega))
      have lf : (firstL l (r.take q)).length = q := by simp [firstL]; omega
      have ll : (lastL l (r.take q)).length = q := by simp [lastL]; omega
      have LF := Lib.hid lf
      have LL := Lib.hid ll
      generalize endsOf l x.1 = t at HE TL TF
      obtain ⟨t1, t2, t3⟩ := t
      simp only at TL TF
      unfold endsV at HE
      clear hcl hxe hxl hp lf ll
      go_wp2_with fail
      refine (HE.out _).mono ?_
      rintro e w3 ⟨rfl, hb3⟩
      have c3 := fun o => hb3.cell (p := ⟨wr.heap.size, o, none⟩) (by simp)
      have z3 : wr.heap.size < w3.heap.size := by have := hb3.size; simp at this; omega
      have BW : Below wr.heap.size wr w3 := ((Below.refl wr.heap.size wr).alloc (Nat.le_refl _) _).trans (hb3.mono (by simp))
      have T3 := Lib.hid (KT.out.below BW)
      have O3 := Lib.hid (KO.out.below BW)
      have B3 := Lib.hid (KB.out.trans (BW.mono KB.out.size))
      clear BW hb3
      go_wp2_with ((at_builtin; refine wpList_push tyRd2 rfl _ _ rfl encN w3 w2.heap.size u3 _ rfl T3.out.own1 (t1, x.2) (by go_simp) rfl ?c1 ?c2 ?c3 ?c4))
      case c1 => have := LF.out; omega
      case c2 => have := LF.out; simp only [maxLen]; omega
      case c3 => omega
      case c4 =>
        intro v1' w4 ho4 hg4 hz4 hl4 hb4 _
        have T4 := Lib.hid (T3.out.app1 hg4 ho4 hl4)
        have O4 := Lib.hid (O3.out.kept hg4 (own_ne O3.out T3.out.own1 (by decide)))
        have s2w : w.heap.size ≤ w2.heap.size := HB2.out.size
        have B4 := Lib.hid (B3.out.trans (hb4.mono s2w))
        have ow1 : ∀ g, (u3 : Value).ownBlock = some g → g < wr.heap.size := fun g hg => (KT.out.own1.lt g hg).2
        have c4 := fun o => (grown_cell hg4 wr.heap.size z3 (fun h => by have := ow1 _ h; omega) o).trans (c3 o)
        have z4 : wr.heap.size < w4.heap.size := by omega
        clear ho4 hg4 hl4 hb4 ow1 c3
        go_wp2_with ((at_builtin; refine wpList_push tyRd2 rfl _ _ rfl encN w4 w2.heap.size u4 _ rfl T4.out.own2 (t2, x.2) (by go_simp) rfl ?c1 ?c2 ?c3 ?c4))
        case c1 => have := LL.out; omega
        case c2 => have := LL.out; simp only [maxLen]; omega
        case c3 => omega
        case c4 =>
          intro v2' w5 ho5 hg5 hz5 hl5 hb5 _
          have T5 := Lib.hid (T4.out.app2 hg5 ho5 hl5)
          have O5 := Lib.hid (O4.out.kept hg5 (own_ne O4.out T4.out.own2 (by decide)))
          have B5 := Lib.hid (B4.out.trans (hb5.mono s2w))
          have z5 : w2.heap.size ≤ w5.heap.size := by omega
          clear ho5 hg5 hl5 hb5
          go_wp2_with fail
          go_roundw
          case rel => exact ⟨q + 1, v1', v2', by omega, by go_num, rfl, rfl, by rw [TF.out, TL.out]; exact T5.out, O5.out, B5.out, z5⟩
          case measure => simp [intOf]; omega
    · obtain rfl : q = r.length := by omega
      rw [List.take_length] at KT
      have s2w : w.heap.size ≤ w2.heap.size := HB2.out.size
      have HDr := Lib.hid (HD.out.below KB.out)
      go_wp2_with fail
      refine (digest_N _ g K l k r F HDr.out).mono ?_
      rintro e w3 ⟨rfl, hb3⟩
      have B3 : Below w.heap.size w w3 := Below.then_ (by repeat (first | with_reducible exact Below.refl _ _ | with_reducible assumption | ((with_reducible refine Below.setCell ?_ ?_ _); rotate_left; · (first | omega | exact Nat.le_refl _ | (simp <;> omega))) | (with_reducible refine Below.allocW ?_ _) | (with_reducible refine Below.drew ?_) | (with_reducible refine Below.extW ?_ _))) hb3
      have s3 : w.heap.size ≤ w3.heap.size := B3.size
      have T3 := Lib.hid (KT.out.below hb3)
      go_wp2_with fail
      refine (ML.out w3 _ _ T3.out.own2).mono ?_
      rintro e w4 ⟨lt, A1, c1, A2, c2, rfl, htl, hll1, o1, o2, hT4⟩
      have B4 := Lib.hid (hT4.below (base := w2.heap.size) (fun b hb => (T3.out.own2.lt b hb).1) (by have := hb3.size; omega))
      have F4 := Lib.hid (hT4.own T3.out.own1 (fun b hb => T3.out.sep b hb))
      have P1 := Lib.hid o1
      have P2 := Lib.hid o2
      have HTL := Lib.hid htl
      have HLL := Lib.hid hll1
      have hs4 := hT4.size
      have hfb := Lib.hid (fun b hb => (T3.out.own1.lt b hb).2)
      clear o1 o2 htl hll1 hT4
      go_wp2_with fail
      refine (MF.out w4 _ _ F4.out).mono ?_
      rintro e w5 ⟨ft, A3, c3, A4, c4, rfl, htf, hll2, o3, o4, hT5⟩
      have B5 := Lib.hid (hT5.below (base := w2.heap.size) (fun b hb => (F4.out.lt b hb).1) (by have := hb3.size; omega))
      have Q1 := Lib.hid (hT5.own P1.out (fun b hb hf => by have := (P1.out.lt b hb).1; have := hfb.out b hf; omega))
      have Q2 := Lib.hid (hT5.own P2.out (fun b hb hf => by have := (P2.out.lt b hb).1; have := hfb.out b hf; omega))
      have Q3 := Lib.hid o3
      have Q4 := Lib.hid o4
      have HTF := Lib.hid htf
      have HLL2 := Lib.hid hll2
      clear o3 o4 htf hll2 hT5
      go_wp2_with fail
      go_ret
      have BF : Below w.heap.size w w5 := (B3.trans ((B4.out.trans B5.out).mono s2w))
      have l1 := (Q1.out.alloc (.cells #[.int .i64 (sumR r), .slice A1 lt.length c1, .slice A2 lt.length c2, .slice A3 ft.length c3, .slice A4 ft.length c4] 142)).base_le (b := w.heap.size) (by have := BF.size; have := hb3.size; omega)
      have l2 := (Q2.out.alloc (.cells #[.int .i64 (sumR r), .slice A1 lt.length c1, .slice A2 lt.length c2, .slice A3 ft.length c3, .slice A4 ft.length c4] 142)).base_le (b := w.heap.size) (by have := BF.size; have := hb3.size; omega)
      have l3 := (Q3.out.alloc (.cells #[.int .i64 (sumR r), .slice A1 lt.length c1, .slice A2 lt.length c2, .slice A3 ft.length c3, .slice A4 ft.length c4] 142)).base_le (b := w.heap.size) (by have := B4.out.size; have := hb3.size; omega)
      have l4 := (Q4.out.alloc (.cells #[.int .i64 (sumR r), .slice A1 lt.length c1, .slice A2 lt.length c2, .slice A3 ft.length c3, .slice A4 ft.length c4] 142)).base_le (b := w.heap.size) (by have := B4.out.size; have := hb3.size; omega)
      refine ⟨w5.heap.size, lt, ft, rfl, ⟨BF.size, by simp, A1, c1, A2, c2, A3, c3, A4, c4, heap_alloc_new w5 _, ⟨l1, l2, l3, l4⟩, fun A n c hm k hk => ?_⟩, HTL.out, HTF.out, by have := HLL.out; simpa [lastL] using this, by have := HLL2.out; simpa [firstL] using this, BF.alloc (by have := BF.size; omega) _⟩
      simp only [List.mem_cons, List.not_mem_nil, or_false, Prod.mk.injEq] at hm
      rcases hm with ⟨rfl, rfl, rfl⟩ | ⟨rfl, rfl, rfl⟩ | ⟨rfl, rfl, rfl⟩ | ⟨rfl, rfl, rfl⟩
      · exact (l1.lt k hk).2
      · exact (l2.lt k hk).2
      · exact (l3.lt k hk).2
      · exact (l4.lt k hk).2
end Go.Proofs.YtajhjbiokbgebaaGreat
/- Package bag: Items. -/
namespace Go.Proofs.YtajhjbiokbgebaaGreat
open Go.ChangeShapes Go.WideShapes Go.ChangeAt Go.RowKit
set_option linter.unusedVariables false
set_option linter.unusedSimpArgs false
set_option maxRecDepth 100000

@[go_sem] theorem run_eqRd_nil (w : World) (A : Option Addr) (n c : Nat) : (binOp .eql 29 (.slice A n c) (.slice none 0 0)).run Tryz.prog w = .ok (.bool A.isNone) w := Lib.run_eql_slice_nil w _ _ A n c 0 0 Tryz.underlying29
theorem clone_Rd (w : World) (A : Option Addr) (cap : Nat) (l : List Nd) (hS : Sl w w.heap.size encN A l) (hn : l.length ≤ 67108864) :
    Calls Tryz.prog 184 #[.slice A l.length cap] w (OwnPost 96 encN l w) := by
  rcases A with _ | a
  · have h0 : l = [] := by
      rcases hS with h | ⟨b, off, hA, _⟩
      · exact h
      · cases hA
    subst h0
    go_enter Tryz.func184, Tryz.ntmps184
    go_wp2_with fail
    go_ret
    exact ⟨_, rfl, Own.nil _ _ _ _, (by repeat (first | with_reducible exact Below.refl _ _ | with_reducible assumption | ((with_reducible refine Below.setCell ?_ ?_ _); rotate_left; · (first | omega | exact Nat.le_refl _ | (simp <;> omega))) | (with_reducible refine Below.allocW ?_ _) | (with_reducible refine Below.drew ?_) | (with_reducible refine Below.extW ?_ _)))⟩
  · have HS := Lib.hid hS
    clear hS
    go_enter Tryz.func184, Tryz.ntmps184
    go_wp2_with ((at_builtin; refine wpList_app tyRd2 rfl _ _ rfl encN w.heap.size (.slice (some ⟨w.heap.size, 0, none⟩) 0 0) [] rfl ?ho (some a) cap l w.heap.size rfl ?hs ?c1 ?c2 ?c3 ?c4))
    case ho => exact .inr ⟨w.heap.size, 0, 0, #[], rfl, Nat.le_refl _, heap_alloc_new w _, Nat.le_refl _, by simp, by simp, fun j u hj => by simp at hj⟩
    case hs => exact HS.out.keep (Nat.le_refl _) fun p hp => ((Below.refl w.heap.size w).alloc (Nat.le_refl _) _).cell hp
    case c1 => simp; omega
    case c2 => simp [maxLen]; omega
    case c3 => simp
    case c4 =>
      intro v' w1 ho1 _ _ hb1 _
      have B1 : Below w.heap.size w w1 := ((Below.refl w.heap.size w).alloc (Nat.le_refl _) _).trans hb1
      have HO1 := Lib.hid (show Own w1 w.heap.size 96 encN v' l by simpa using ho1)
      clear ho1
      go_wp2_with fail
      go_ret
      exact ⟨_, rfl, HO1.out, B1⟩
theorem bag_Items (w : World) (base g : Nat) (l : Int) (m : List Nd) (h : BagAt w base g l m) (hm : m.length ≤ 67108864) :
    Calls Tryz.prog 108 #[.pointer (some ⟨g, 0, none⟩)] w (OwnPost 96 encN m w) := by
  obtain ⟨v, hh, hg, ho⟩ := h
  obtain ⟨A, cap, rfl, _⟩ := ho.form
  have HC := Lib.hid (clone_Rd w A cap m ho.sl hm)
  have c := blk_cell hh
  have z := lt_of_block hh
  clear hh ho hg
  go_enter Tryz.func108, Tryz.ntmps108
  go_wp2_with fail
  refine HC.out.mono ?_
  rintro e w1 ⟨v, rfl, ho, hb⟩
  have HO := Lib.hid ho
  clear ho
  go_wp2_with fail
  go_ret
  exact ⟨_, rfl, HO.out, hb⟩
end Go.Proofs.YtajhjbiokbgebaaGreat
/- Reference 16: Steps. -/
namespace Go.Proofs.YtajhjbiokbgebaaGreat
open Go.ChangeShapes Go.WideShapes Go.ChangeAt Go.RowKit
set_option linter.unusedVariables false
set_option linter.unusedSimpArgs false
set_option maxRecDepth 100000

/-- The last values of nodes, each once, by rising values. -/
structure StepsIs (l : Int) (r : List Nd) (S : List Int) : Prop where
  up : S.Pairwise (· < ·)
  mem : ∀ z, z ∈ S ↔ ∃ x ∈ r, (endsOf l x.1).2.1 = z
theorem up_ext {S T : List Int} (hS : S.Pairwise (· < ·)) (hT : T.Pairwise (· < ·)) (h : ∀ z, z ∈ S ↔ z ∈ T) : S = T := by
  induction S generalizing T with
  | nil =>
    cases T with
    | nil => rfl
    | cons y T => have := (h y).2 (by simp); simp at this
  | cons x S ih =>
    cases T with
    | nil => have := (h x).1 (by simp); simp at this
    | cons y T =>
      obtain ⟨s1, s2⟩ := List.pairwise_cons.1 hS
      obtain ⟨t1, t2⟩ := List.pairwise_cons.1 hT
      have e : x = y := by
        rcases List.mem_cons.1 ((h x).1 (by simp)) with e | hx
        · exact e
        · rcases List.mem_cons.1 ((h y).2 (by simp)) with e | hy
          · exact e.symm
          · have := s1 y hy; have := t1 x hx; omega
      subst e
      congr 1
      refine ih s2 t2 fun z => ?_
      constructor
      · intro hz
        have := s1 z hz
        rcases List.mem_cons.1 ((h z).1 (List.mem_cons_of_mem _ hz)) with e | hz'
        · omega
        · exact hz'
      · intro hz
        have := t1 z hz
        rcases List.mem_cons.1 ((h z).2 (List.mem_cons_of_mem _ hz)) with e | hz'
        · omega
        · exact hz'
theorem StepsIs.unique {l : Int} {r : List Nd} {S T : List Int} (h : StepsIs l r S) (k : StepsIs l r T) : S = T := up_ext h.up k.up fun z => (h.mem z).trans (k.mem z).symm
theorem StepsIs.nil (l : Int) : StepsIs l [] [] := ⟨.nil, by simp⟩
theorem steps_take {l : Int} {r : List Nd} {q : Nat} (hq : q < r.length) (z : Int) : (∃ x ∈ r.take (q + 1), (endsOf l x.1).2.1 = z) ↔ (∃ x ∈ r.take q, (endsOf l x.1).2.1 = z) ∨ (endsOf l r[q].1).2.1 = z := by
  rw [List.take_succ_eq_append_getElem hq]
  constructor
  · rintro ⟨x, hx, e⟩
    rcases List.mem_append.1 hx with hx | hx
    · exact .inl ⟨x, hx, e⟩
    · rw [List.mem_singleton.1 hx] at e; exact .inr e
  · rintro (⟨x, hx, e⟩ | e)
    · exact ⟨x, List.mem_append_left _ hx, e⟩
    · exact ⟨r[q], List.mem_append_right _ (by simp), e⟩
theorem StepsIs.same {l : Int} {r : List Nd} {q : Nat} {S : List Int} (h : StepsIs l (r.take q) S) (hq : q < r.length) {a : Nat} (ha : a < S.length) (he : S[a] = (endsOf l r[q].1).2.1) : StepsIs l (r.take (q + 1)) S := by
  refine ⟨h.up, fun z => ?_⟩
  rw [steps_take hq, ← h.mem]
  constructor
  · exact .inl
  · rintro (h1 | h1)
    · exact h1
    · rw [← h1, ← he]; exact List.getElem_mem ha
theorem StepsIs.more {l : Int} {r : List Nd} {q : Nat} {S : List Int} (h : StepsIs l (r.take q) S) (hq : q < r.length) {a : Nat} (hx : ∀ z ∈ S.take a, z < (endsOf l r[q].1).2.1) (hy : ∀ (ha : a < S.length), (endsOf l r[q].1).2.1 < S[a]) : StepsIs l (r.take (q + 1)) (S.take a ++ [(endsOf l r[q].1).2.1] ++ S.drop a) := by
  obtain ⟨x, hxe⟩ : ∃ x, x = (endsOf l r[q].1).2.1 := ⟨_, rfl⟩
  rw [← hxe] at hx hy ⊢
  have hy2 : ∀ z ∈ S.drop a, x < z := by
    intro z hz
    by_cases ha : a < S.length
    · rw [List.drop_eq_getElem_cons ha] at hz
      have hp : (S.drop a).Pairwise (· < ·) := h.up.drop
      rw [List.drop_eq_getElem_cons ha] at hp
      rcases List.mem_cons.1 hz with rfl | hz
      · exact hy ha
      · have := (List.pairwise_cons.1 hp).1 z hz
        have := hy ha
        omega
    · rw [List.drop_eq_nil_of_le (by omega)] at hz; simp at hz
  refine ⟨?_, fun z => ?_⟩
  · rw [List.append_assoc, List.pairwise_append]
    refine ⟨h.up.take, ?_, ?_⟩
    · rw [List.singleton_append, List.pairwise_cons]
      exact ⟨hy2, h.up.drop⟩
    · intro u hu v hv
      have h1 := hx u hu
      rw [List.singleton_append] at hv
      rcases List.mem_cons.1 hv with rfl | hv
      · exact h1
      · have := hy2 v hv; omega
  · rw [steps_take hq, ← h.mem]
    have : z ∈ S ↔ z ∈ S.take a ∨ z ∈ S.drop a := by
      conv => lhs; rw [← List.take_append_drop a S]
      exact List.mem_append
    rw [this, ← hxe]
    simp only [List.mem_append, List.mem_singleton]
    constructor
    · rintro ((h | h) | h)
      · exact .inl (.inl h)
      · exact .inr h.symm
      · exact .inl (.inr h)
    · rintro ((h | h) | h)
      · exact .inl (.inl h)
      · exact .inr h
      · exact .inl (.inr h.symm)
def pickB (c : Prop) [Decidable c] (x y : Option Addr) : Option Addr := if c then x else y
theorem slice_pickB (c : Prop) [Decidable c] (x y : Option Addr) (n m : Nat) : Value.slice (if c then x else y) n m = Value.slice (pickB c x y) n m := rfl
theorem sl_pickB {w : World} {B : Nat} {c : Prop} [Decidable c] {x y : Option Addr} {l : List Int} (h : c → l = []) (h2 : Sl w B encZ y l) : Sl w B encZ (pickB c x y) l := by
  unfold pickB
  by_cases hc : c
  · rw [if_pos hc]; exact .inl (h hc)
  · rw [if_neg hc]; exact h2
section
attribute [local go_sem] slice_pickB
set_option maxHeartbeats 8000000 in
theorem ref16_Steps (w : World) (l : Int) (A : Option Addr) (cap : Nat) (r : List Nd) (hS : Sl w w.heap.size encN A r) (hI : ints r) (hlen : r.length ≤ 65536) :
    Calls Tryz.prog 30 #[.int .i64 l, .slice A r.length cap] w fun e w' => ∃ (A' : Option Addr) (cap' : Nat) (S : List Int), e = .returned (.slice A' S.length cap') ∧ Own w' w.heap.size 3 encZ (.slice A' S.length cap') S ∧ StepsIs l r S ∧ S.length ≤ r.length ∧ Below w.heap.size w w' := by
  have HS := Lib.hid hS
  have HI := Lib.hid hI
  clear hS hI
  go_enter Tryz.func30, Tryz.ntmps30
  go_wp2_with fail
  go_loopw [5, 6] (fun o j wr => ∃ (q : Nat) (S : List Int), q ≤ r.length ∧ j = .int .i64 q ∧ Own wr w.heap.size 3 encZ o S ∧ (S = [] → o = .slice none 0 0) ∧ StepsIs l (r.take q) S ∧ S.length ≤ q ∧ Below w.heap.size w wr) (fun _ j _ => r.length - (intOf j).toNat)
  case atStart => exact ⟨0, [], Nat.zero_le _, rfl, .nil _ _ _ _, fun _ => rfl, .nil l, by simp, Below.refl _ _⟩
  case round =>
    obtain ⟨q, S, hq, rfl, ho, hn, hSt, hSl, hB⟩ := hrel
    have HO := Lib.hid ho
    have HN := Lib.hid hn
    have HSt := Lib.hid hSt
    have HB := Lib.hid hB
    by_cases hlt : q < r.length
    · obtain ⟨b, off, rfl, hb, hc⟩ := HS.out.at_ hlt
      have d0 := (hB.cell (p := ⟨b, off + q * 2, none⟩) hb).trans (by have := hc 0 (.int .i64 r[q].1) rfl; simpa using this)
      have lb : b < wr.heap.size := Nat.lt_of_lt_of_le hb hB.size
      have HE := Lib.hid (fun W => ref2_Ends W l r[q].1 ((HI.out _ (List.getElem_mem hlt)).1.2))
      have hqi : (q : Int) < (r.length : Int) := by omega
      have HSame := Lib.hid (fun (a : Nat) (ha : a < S.length) he => HSt.out.same hlt ha he)
      have HMore := Lib.hid (fun (a : Nat) hx hy => HSt.out.more (a := a) hlt hx hy)
      obtain ⟨e1, e2, e3, he⟩ : ∃ a b c, endsOf l r[q].1 = (a, b, c) := ⟨_, _, _, rfl⟩
      rw [he] at HE HSame HMore
      unfold endsV at HE
      simp only at HE HSame HMore
      obtain ⟨x, hx⟩ : ∃ x, x = r[q].1 := ⟨_, rfl⟩
      rw [← hx] at d0 HE
      clear hc hx he ho hn hSt hB
      obtain ⟨Ao, co, rfl, _⟩ := HO.out.form
      go_wp2_with fail
      refine (HE.out _).mono ?_
      rintro e w2 ⟨rfl, hb2⟩
      have HB2 := Lib.hid (Below.then_ HB.out hb2)
      have HO2 := Lib.hid (HO.out.below hb2)
      clear hb2 d0 lb hb HO HB
      go_wp2_with fail
      go_loopw [10] (fun at_ W => ∃ a : Nat, at_ = .int .i64 a ∧ a ≤ S.length ∧ (∀ z ∈ S.take a, z < e2) ∧ w2 = W) (fun at_ _ => S.length - (intOf at_).toNat)
      case atStart => exact ⟨0, rfl, Nat.zero_le _, by simp, rfl⟩
      case round =>
        obtain ⟨a, rfl, ha, hX, rfl⟩ := hrel
        have HX2 := Lib.hid hX
        clear hX
        rcases Nat.eq_or_lt_of_le ha with hae | hal
        · have HY2 : Hid (∀ (h : a < S.length), e2 < S[a]) := Lib.hid (fun h => by omega)
          by_cases hS0 : S = []
          · subst hS0
            have hv := HN.out rfl
            injection hv with hv1 hv2 hv3
            subst hv1 hv3
            simp only [List.length_nil] at hae
            subst hae
            have HTl : Hid (([] : List Int).length = 0) := Lib.hid rfl
            have TP : Hid (Sl w2 w2.heap.size encZ none ([] : List Int)) := Lib.hid .nil
            have s2 := HB2.out.size
            (
              have O3 : Hid (Own w2 w2.heap.size 3 encZ (.slice none 0 0) ([] : List Int)) := Lib.hid (.nil _ _ _ _)
              have B3 := Lib.hid (Below.refl w2.heap.size w2)
              have s3 := Nat.le_refl w2.heap.size
              go_wp2_with ((at_builtin; refine wpList_push tyZ rfl _ _ rfl encZ w2 w2.heap.size (.slice none 0 0) ([] : List Int) rfl O3.out e2 rfl rfl ?dx1 ?dx2 ?dx3 ?dx4))
              try case dx1 => have := HTl.out; omega
              try case dx2 => have := HTl.out; simp only [maxLen]; omega
              try case dx3 => exact s3
              case dx4 =>
                intro v4 w4 ho4 hg4 _ _ hb4 _
                have O4 := Lib.hid ho4
                have B4 := Lib.hid (B3.out.trans hb4)
                have s4 := B4.out.size
                clear ho4 hg4 hb4
                have TDx : Hid (Sl w4 w4.heap.size encZ none ([] : List Int)) := Lib.hid .nil
                have H4l : Hid ((([] : List Int) ++ [e2]).length = 0 + 1) := Lib.hid rfl
                have HDl : Hid (([] : List Int).length = 0 - 0) := Lib.hid rfl
                go_wp2_with ((at_builtin; refine wpList_app tyZ rfl _ _ rfl encZ w2.heap.size v4 _ rfl O4.out none 0 [] w4.heap.size rfl TDx.out ?ex1 ?ex2 ?ex3 ?ex4))
                case ex1 => simp
                case ex2 => simp [maxLen]
                try case ex3 => exact s4
                case ex4 =>
                  intro v5 w5 ho5 hg5 _ hb5
                  have O5 := Lib.hid ho5
                  have B5 := Lib.hid (HB2.out.trans ((B4.out.trans hb5).mono HB2.out.size))
                  clear ho5 hg5 hb5
                  go_wp2_with fail
                  go_roundw
                  case rel => exact ⟨q + 1, ([] : List Int) ++ [e2] ++ ([] : List Int), by omega, by go_num, by have h := O5.out.base_le s2; simpa using h, fun h => by simp at h, by have := HMore.out 0 (by simp) (by simp); simpa using this, by simp, B5.out⟩
                  case measure => simp [intOf]; omega
            )
          · obtain ⟨bo, oo, co', hv, hcap'⟩ := own_at0 HO2.out (List.length_pos_iff.2 hS0)
            injection hv with hv1 hv2 hv3
            subst hv1 hv3
            have hd1 : decide (a < S.length) = false := by simp; omega
            have hd2 : decide ((a : Int) < (S.length : Int)) = false := by simp; omega
            clear hae
            have HTl : Hid ((S.take a).length = a) := Lib.hid (by rw [List.length_take]; omega)
            have HDl : Hid ((S.drop a).length = S.length - a) := Lib.hid (by rw [List.length_drop])
            have TP := Lib.hid ((HO2.out.sl).take a)
            have hac : a ≤ co := by have := HO2.out.len_le.2.1; omega
            have hco := HO2.out.len_le.2.1
            have s2 := HB2.out.size
            go_upto_region 11 with fail
            go_wp2_with ((at_builtin; refine wpList_app tyZ rfl _ _ rfl encZ w2.heap.size (.slice none 0 0) [] rfl (Own.nil _ _ _ _) (some ⟨bo, oo, none⟩) co (S.take a) w2.heap.size (by rw [HTl.out]; rfl) TP.out ?cy1 ?cy2 ?cy3 ?cy4))
            case cy1 => have := HTl.out; (try simp only [List.length_nil]); omega
            case cy2 => have := HTl.out; simp only [maxLen]; (try simp only [List.length_nil]); omega
            try case cy3 => exact Nat.le_refl _
            case cy4 =>
              intro v3 w3 ho3 hg3 _ hb3 _
              try rw [List.nil_append] at ho3
              have O3 := Lib.hid ho3
              have B3 := Lib.hid hb3
              have s3 := hb3.size
              clear ho3 hg3 hb3
              go_wp2_with ((at_builtin; refine wpList_push tyZ rfl _ _ rfl encZ w3 w2.heap.size v3 (S.take a) rfl O3.out e2 rfl rfl ?dy1 ?dy2 ?dy3 ?dy4))
              try case dy1 => have := HTl.out; omega
              try case dy2 => have := HTl.out; simp only [maxLen]; omega
              try case dy3 => exact s3
              case dy4 =>
                intro v4 w4 ho4 hg4 _ _ hb4 _
                have O4 := Lib.hid ho4
                have B4 := Lib.hid (B3.out.trans hb4)
                have s4 := B4.out.size
                clear ho4 hg4 hb4
                have TD := Lib.hid ((HO2.out.below B4.out).sl.drop a)
                simp only [Nat.mul_one] at TD
                have TDx := Lib.hid (sl_pickB (c := co = a) (x := some ⟨bo, oo, none⟩) (fun h => List.drop_eq_nil_of_le (by omega)) TD.out)
                have h4l : (S.take a ++ [e2]).length = a + 1 := by rw [List.length_append, HTl.out]; rfl
                have H4l := Lib.hid h4l
                clear h4l
                go_wp2_with ((at_builtin; refine wpList_app tyZ rfl _ _ rfl encZ w2.heap.size v4 _ rfl O4.out (pickB (co = a) (some ⟨bo, oo, none⟩) (some ⟨bo, oo + a, none⟩)) (co - a) (S.drop a) w4.heap.size (by rw [HDl.out]; rfl) TDx.out ?ey1 ?ey2 ?ey3 ?ey4))
                try case ey1 => have := H4l.out; have := HDl.out; omega
                try case ey2 => have := H4l.out; have := HDl.out; simp only [maxLen]; omega
                try case ey3 => exact s4
                case ey4 =>
                  intro v5 w5 ho5 hg5 _ hb5 _
                  have O5 := Lib.hid ho5
                  have B5 := Lib.hid (HB2.out.trans ((B4.out.trans hb5).mono HB2.out.size))
                  clear ho5 hg5 hb5
                  go_wp2_with fail
                  go_roundw
                  case rel => exact ⟨q + 1, (S.take a) ++ [e2] ++ (S.drop a), by omega, by go_num, by have h := O5.out.base_le s2; simpa using h, fun h => by simp at h, HMore.out a HX2.out HY2.out, by rw [List.length_append, H4l.out, HDl.out]; omega, B5.out⟩
                  case measure => simp [intOf]; omega
        · obtain ⟨bo, oo, co', hv, hcap'⟩ := own_at0 HO2.out (by omega)
          injection hv with hv1 hv2 hv3
          subst hv1 hv3
          have d1 := HO2.out.slT.cell_at hal 0 (.int .i64 S[a]) rfl
          simp only [Nat.mul_one, Nat.add_zero] at d1
          have zb1 := (HO2.out.lt bo rfl).2
          have hai : (a : Int) < (S.length : Int) := by omega
          obtain ⟨y, hy⟩ : ∃ y, y = S[a] := ⟨_, rfl⟩
          rw [← hy] at d1
          have HYs := Lib.hid hy
          clear hy
          by_cases hlt2 : y < e2
          · go_wp2_with fail
            go_roundw
            case rel => exact ⟨a + 1, by go_num, by omega, fun z hz => by
              rw [List.take_succ_eq_append_getElem hal] at hz
              rcases List.mem_append.1 hz with hz | hz
              · exact HX2.out z hz
              · rw [List.mem_singleton.1 hz, ← HYs.out]; exact hlt2, by first | rfl | trivial⟩
            case measure => simp [intOf]; omega
          · have hd3 : decide (y < e2) = false := by simpa using hlt2
            by_cases he : y = e2
            · have hye : (y == e2) = true := by simpa using he
              clear hlt2
              go_wp2_with fail
              go_roundw
              case rel => exact ⟨q + 1, S, by omega, by go_num, HO2.out, HN.out, HSame.out a hal (by rw [← HYs.out]; exact he), by omega, HB2.out⟩
              case measure => simp [intOf]; omega
            · have hye : (y == e2) = false := by simpa using he
              have HY2 : Hid (∀ (h : a < S.length), e2 < S[a]) := Lib.hid (fun h => by rw [← HYs.out]; omega)
              clear hlt2
              have HTl : Hid ((S.take a).length = a) := Lib.hid (by rw [List.length_take]; omega)
              have HDl : Hid ((S.drop a).length = S.length - a) := Lib.hid (by rw [List.length_drop])
              have TP := Lib.hid ((HO2.out.sl).take a)
              have hac : a ≤ co := by have := HO2.out.len_le.2.1; omega
              have hco := HO2.out.len_le.2.1
              have s2 := HB2.out.size
              go_upto_region 11 with fail
              go_wp2_with ((at_builtin; refine wpList_app tyZ rfl _ _ rfl encZ w2.heap.size (.slice none 0 0) [] rfl (Own.nil _ _ _ _) (some ⟨bo, oo, none⟩) co (S.take a) w2.heap.size (by rw [HTl.out]; rfl) TP.out ?cz1 ?cz2 ?cz3 ?cz4))
              case cz1 => have := HTl.out; (try simp only [List.length_nil]); omega
              case cz2 => have := HTl.out; simp only [maxLen]; (try simp only [List.length_nil]); omega
              try case cz3 => exact Nat.le_refl _
              case cz4 =>
                intro v3 w3 ho3 hg3 _ hb3 _
                try rw [List.nil_append] at ho3
                have O3 := Lib.hid ho3
                have B3 := Lib.hid hb3
                have s3 := hb3.size
                clear ho3 hg3 hb3
                go_wp2_with ((at_builtin; refine wpList_push tyZ rfl _ _ rfl encZ w3 w2.heap.size v3 (S.take a) rfl O3.out e2 rfl rfl ?dz1 ?dz2 ?dz3 ?dz4))
                try case dz1 => have := HTl.out; omega
                try case dz2 => have := HTl.out; simp only [maxLen]; omega
                try case dz3 => exact s3
                case dz4 =>
                  intro v4 w4 ho4 hg4 _ _ hb4 _
                  have O4 := Lib.hid ho4
                  have B4 := Lib.hid (B3.out.trans hb4)
                  have s4 := B4.out.size
                  clear ho4 hg4 hb4
                  have TD := Lib.hid ((HO2.out.below B4.out).sl.drop a)
                  simp only [Nat.mul_one] at TD
                  have TDx := Lib.hid (sl_pickB (c := co = a) (x := some ⟨bo, oo, none⟩) (fun h => List.drop_eq_nil_of_le (by omega)) TD.out)
                  have h4l : (S.take a ++ [e2]).length = a + 1 := by rw [List.length_append, HTl.out]; rfl
                  have H4l := Lib.hid h4l
                  clear h4l
                  go_wp2_with ((at_builtin; refine wpList_app tyZ rfl _ _ rfl encZ w2.heap.size v4 _ rfl O4.out (some ⟨bo, oo + a, none⟩) (co - a) (S.drop a) w4.heap.size (by rw [HDl.out]; rfl) TD.out ?ez1 ?ez2 ?ez3 ?ez4))
                  try case ez1 => have := H4l.out; have := HDl.out; omega
                  try case ez2 => have := H4l.out; have := HDl.out; simp only [maxLen]; omega
                  try case ez3 => exact s4
                  case ez4 =>
                    intro v5 w5 ho5 hg5 _ hb5 _
                    have O5 := Lib.hid ho5
                    have B5 := Lib.hid (HB2.out.trans ((B4.out.trans hb5).mono HB2.out.size))
                    clear ho5 hg5 hb5
                    go_wp2_with fail
                    go_roundw
                    case rel => exact ⟨q + 1, (S.take a) ++ [e2] ++ (S.drop a), by omega, by go_num, by have h := O5.out.base_le s2; simpa using h, fun h => by simp at h, HMore.out a HX2.out HY2.out, by rw [List.length_append, H4l.out, HDl.out]; omega, B5.out⟩
                    case measure => simp [intOf]; omega
    · obtain rfl : q = r.length := by omega
      have hqi : decide ((r.length : Int) < (r.length : Int)) = false := by simp
      rw [List.take_length] at HSt
      obtain ⟨Ao, co, rfl, _⟩ := HO.out.form
      go_wp2_with fail
      go_ret
      exact ⟨Ao, co, S, rfl, HO.out, HSt.out, hSl, HB.out⟩
end
end Go.Proofs.YtajhjbiokbgebaaGreat
/- Reference 34: far. -/
namespace Go.Proofs.YtajhjbiokbgebaaGreat
open Go.ChangeShapes Go.WideShapes Go.ChangeAt Go.RowKit
set_option linter.unusedVariables false
set_option linter.unusedSimpArgs false
set_option maxRecDepth 100000

theorem own_atZ {w : World} {base : Nat} {A : Option Addr} {n cap : Nat} {l : List Int} (h : Own w base 3 encZ (.slice A n cap) l) {k : Nat} (hk : k < l.length) : ∃ b off, A = some ⟨b, off, none⟩ ∧ b < w.heap.size ∧ w.cell? ⟨b, off + k, none⟩ = some (.int .i64 l[k]) := by
  obtain ⟨b, off, hA, hb, hc⟩ := h.sl.at_ hk
  refine ⟨b, off, hA, hb, ?_⟩
  have := hc 0 (.int .i64 l[k]) rfl
  simpa using this
/-- How far ranks are apart at a value. -/
def farN (l : Int) (r m : List Nd) (x : Int) : Int := max (lowOf l r x - betwB m 0 x) (-(lowOf l r x - betwB m 0 x))
theorem farN_abs (l : Int) (r m : List Nd) (x : Int) : farN l r m x = if lowOf l r x - betwB m 0 x < 0 then 0 - (lowOf l r x - betwB m 0 x) else lowOf l r x - betwB m 0 x := by
  unfold farN
  split <;> omega
theorem farN_nonneg (l : Int) (r m : List Nd) (x : Int) : 0 ≤ farN l r m x := by unfold farN; omega
theorem ref34_far (w : World) (k l : Int) (A B : Option Addr) (ca cb : Nat) (r m : List Nd) (x : Int) (hS : Sl w w.heap.size encN A r) (hSb : Sl w w.heap.size encN B m) (hI : ints r) (hroll : Roll r) (hm : ∀ x ∈ m, 1 ≤ x.2) (h1 : sumR r ≤ 72057594037927935) (h2 : sumR m ≤ 72057594037927935) (hlen : r.length ≤ 67108864) (hm0 : ∀ z ∈ m, 0 ≤ z.1)
    (hlow : 0 ≤ lowOf l r x ∧ lowOf l r x ≤ 72057594037927935) :
    Calls Tryz.prog 110 #[.agg #[.int .i64 k, .int .i64 l, .slice A r.length ca], bagV l B m.length cb, .int .i64 x] w fun e w' => e = .returned (.int .i64 (farN l r m x)) ∧ Below w.heap.size w w' := by
  have HLo := Lib.hid (fun W h => ref16_Low W l A ca r x h hI hlen hroll h1)
  have HRk := Lib.hid (fun W h => ref10_Rank W l B cb m x h hm h2)
  have hcase : (lowOf l r x - betwB m 0 x < 0 ∧ farN l r m x = 0 - (lowOf l r x - betwB m 0 x)) ∨ (decide (lowOf l r x - betwB m 0 x < 0) = false ∧ farN l r m x = lowOf l r x - betwB m 0 x) := by
    by_cases hn : lowOf l r x - betwB m 0 x < 0
    · exact .inl ⟨hn, by rw [farN_abs, if_pos hn]⟩
    · exact .inr ⟨by simpa using hn, by rw [farN_abs, if_neg hn]⟩
  generalize farN l r m x = v at hcase ⊢
  have hb := betwB_le hm 0 x
  have hb0 := hb.1
  have hb1 : betwB m 0 x ≤ 72057594037927935 := by omega
  have hl0 := hlow.1
  have hl1 := hlow.2
  have X0 : Hid (((w.alloc (.cells #[.int .i64 k, .int .i64 l, .slice A r.length ca] 63)).alloc (.cells #[.int .i64 l, .slice B m.length cb] 31)).heap[w.heap.size]? = some (.cells #[.int .i64 k, .int .i64 l, .slice A r.length ca] 63 (0, 0))) := Lib.hid ((heap_new_lt _ _ _ (by simp)).trans (heap_alloc_new w _))
  have X1 : Hid (((w.alloc (.cells #[.int .i64 k, .int .i64 l, .slice A r.length ca] 63)).alloc (.cells #[.int .i64 l, .slice B m.length cb] 31)).heap[w.heap.size + 1]? = some (.cells #[.int .i64 l, .slice B m.length cb] 31 (0, 0))) := Lib.hid (heap_new_at (w.alloc _) _ _ (by simp))
  have BW0 : Hid (Below w.heap.size w ((w.alloc (.cells #[.int .i64 k, .int .i64 l, .slice A r.length ca] 63)).alloc (.cells #[.int .i64 l, .slice B m.length cb] 31))) := Lib.hid (by repeat (first | with_reducible exact Below.refl _ _ | with_reducible assumption | ((with_reducible refine Below.setCell ?_ ?_ _); rotate_left; · (first | omega | exact Nat.le_refl _ | (simp <;> omega))) | (with_reducible refine Below.allocW ?_ _) | (with_reducible refine Below.drew ?_) | (with_reducible refine Below.extW ?_ _)))
  have HS := Lib.hid (And.intro hS hSb)
  unfold bagV at HRk ⊢
  generalize lowOf l r x = n1 at HLo hl0 hl1 hcase
  generalize betwB m 0 x = n2 at HRk hb0 hb1 hcase
  clear hS hSb hI hroll hm h1 h2 hb hlow hm0
  go_enter Tryz.func110, Tryz.ntmps110
  go_upto_region 1 with fail
  generalize (w.alloc (.cells #[.int .i64 k, .int .i64 l, .slice A r.length ca] 63)).alloc (.cells #[.int .i64 l, .slice B m.length cb] 31) = W0 at X0 X1 BW0 ⊢
  have c0 := blk_cell X0.out
  have z0 := lt_of_block X0.out
  have c1 := blk_cell X1.out
  have z1 := lt_of_block X1.out
  have S1 := Lib.hid (HS.out.1.keep (B' := W0.heap.size) BW0.out.size fun p hp => BW0.out.cell hp)
  have S2 := Lib.hid (HS.out.2.keep (B' := W0.heap.size) BW0.out.size fun p hp => BW0.out.cell hp)
  refine wp_region_ext (by kernel_rfl) (by kernel_rfl) ?_
  repeat (go_big_quiet_step (first
    | (go_at_call 31; exact quiet_ext (HLo.out _ (S1.out.keep (ext_below _ _).size fun p hp => (ext_below _ _).cell hp)))
    | (go_at_call 58; exact quiet_ext (HRk.out _ (S2.out.keep (ext_below _ _).size fun p hp => (ext_below _ _).cell hp)))))
  refine wpQuiet_nil ?_
  intro w2 h2
  have B2 := Lib.hid (Below.then_ BW0.out (below_of_ext h2))
  clear h2 c0 z0 c1 z1
  rcases hcase with ⟨hn, hv⟩ | ⟨hn, hv⟩
  · go_wp2_with fail
    go_ret
    exact ⟨ret_int (by omega), B2.out⟩
  · go_wp2_with fail
    go_ret
    exact ⟨ret_int (by omega), B2.out⟩
/-- The values at which ranks are held against one another. -/
def offL (S : List Int) (m : List Nd) : List Int := S ++ m.map (·.1)
theorem offL_take {S : List Int} {m : List Nd} {q : Nat} (h : q < m.length) : S ++ (m.take (q + 1)).map (·.1) = (S ++ (m.take q).map (·.1)) ++ [m[q].1] := by
  rw [List.take_succ_eq_append_getElem h, List.map_append, List.append_assoc]; rfl
theorem low_bounds {l : Int} {r : List Nd} (hr : Roll r) (hs : sumR r ≤ 72057594037927935) (x : Int) : 0 ≤ lowOf l r x ∧ lowOf l r x ≤ 72057594037927935 := by
  have h0 : ∀ y ∈ r, 0 ≤ y.2 := fun y hy => by have := (hr.2 y hy).2; omega
  unfold lowOf
  rw [weighR_ids]
  exact ⟨wIds_0 h0, Int.le_trans (wIds_sum h0) hs⟩
set_option maxHeartbeats 8000000 in
theorem ref34_Off (w : World) (k l : Int) (A B : Option Addr) (ca cb : Nat) (r m : List Nd) (hS : Sl w w.heap.size encN A r) (hSb : Sl w w.heap.size encN B m) (hI : ints r) (hroll : Roll r) (hm : ∀ x ∈ m, 1 ≤ x.2) (h1 : sumR r ≤ 72057594037927935) (h2 : sumR m ≤ 72057594037927935) (hlen : r.length ≤ 65536) (hlm : m.length ≤ 65536) (hm0 : ∀ z ∈ m, 0 ≤ z.1) :
    Calls Tryz.prog 43 #[.agg #[.int .i64 k, .int .i64 l, .slice A r.length ca], bagV l B m.length cb] w fun e w' => ∃ (S : List Int) (a : Int × Int), e = .returned (.tuple #[.int .i64 a.1, .int .i64 a.2]) ∧ StepsIs l r S ∧ a = offFoldR (farN l r m) (offL S m) ∧ Below w.heap.size w w' := by
  have HF := Lib.hid (fun W x h h' => ref34_far W k l A B ca cb r m x h h' hI hroll hm h1 h2 (by omega) hm0 (low_bounds hroll h1 x))
  have HSt := Lib.hid (fun W h => ref16_Steps W l A ca r h hI hlen)
  have X0 : Hid (((w.alloc (.cells #[.int .i64 k, .int .i64 l, .slice A r.length ca] 63)).alloc (.cells #[.int .i64 l, .slice B m.length cb] 31)).heap[w.heap.size]? = some (.cells #[.int .i64 k, .int .i64 l, .slice A r.length ca] 63 (0, 0))) := Lib.hid ((heap_new_lt _ _ _ (by simp)).trans (heap_alloc_new w _))
  have X1 : Hid (((w.alloc (.cells #[.int .i64 k, .int .i64 l, .slice A r.length ca] 63)).alloc (.cells #[.int .i64 l, .slice B m.length cb] 31)).heap[w.heap.size + 1]? = some (.cells #[.int .i64 l, .slice B m.length cb] 31 (0, 0))) := Lib.hid (heap_new_at (w.alloc _) _ _ (by simp))
  have BW0 : Hid (Below w.heap.size w ((w.alloc (.cells #[.int .i64 k, .int .i64 l, .slice A r.length ca] 63)).alloc (.cells #[.int .i64 l, .slice B m.length cb] 31))) := Lib.hid (by repeat (first | with_reducible exact Below.refl _ _ | with_reducible assumption | ((with_reducible refine Below.setCell ?_ ?_ _); rotate_left; · (first | omega | exact Nat.le_refl _ | (simp <;> omega))) | (with_reducible refine Below.allocW ?_ _) | (with_reducible refine Below.drew ?_) | (with_reducible refine Below.extW ?_ _)))
  have HS := Lib.hid (And.intro hS hSb)
  unfold bagV at HF ⊢
  clear hS hSb hI hroll hm h1 h2 hm0
  go_enter Tryz.func43, Tryz.ntmps43
  go_upto_region 1 with fail
  generalize (w.alloc (.cells #[.int .i64 k, .int .i64 l, .slice A r.length ca] 63)).alloc (.cells #[.int .i64 l, .slice B m.length cb] 31) = W0 at X0 X1 BW0 ⊢
  obtain ⟨p0, hp0⟩ : ∃ p, p = w.heap.size := ⟨_, rfl⟩
  have c0 := blk_cell X0.out
  have z0 := lt_of_block X0.out
  have S1 := Lib.hid (HS.out.1.keep (B' := W0.heap.size) BW0.out.size fun p hp => BW0.out.cell hp)
  have S2 := Lib.hid (HS.out.2.keep (B' := W0.heap.size) BW0.out.size fun p hp => BW0.out.cell hp)
  go_wp2_with fail
  refine (HSt.out _ S1.out).mono ?_
  rintro e w1 ⟨A1, c1, S, rfl, ho1, hst, hSl, hb1⟩
  have HSI := Lib.hid hst
  have O1 := Lib.hid ho1
  have B1 := Lib.hid hb1
  have hSl2 : S.length ≤ 65536 := by omega
  clear c0 z0 ho1 hst hb1 HSt
  go_wp2_with fail
  go_loopw [6, 7] (fun o j wr => ∃ q : Nat, q ≤ m.length ∧ j = .int .i64 q ∧ Own wr W0.heap.size 3 encZ o (S ++ (m.take q).map (·.1)) ∧ Below W0.heap.size W0 wr) (fun _ j _ => m.length - (intOf j).toNat)
  case atStart => exact ⟨0, Nat.zero_le _, rfl, by simpa using O1.out, B1.out⟩
  case round =>
    obtain ⟨q, hq, rfl, ho, hB⟩ := hrel
    obtain ⟨Ao, co, rfl, _⟩ := ho.form
    have HO := Lib.hid ho
    have HB := Lib.hid hB
    have Y0 := Lib.hid ((hB.block _ (lt_of_block X0.out)).trans X0.out)
    have Y1 := Lib.hid ((hB.block _ (lt_of_block X1.out)).trans X1.out)
    have c0 := blk_cell Y0.out
    have z0 := lt_of_block Y0.out
    have c1 := blk_cell Y1.out
    have z1 := lt_of_block Y1.out
    clear ho
    by_cases hlt : q < m.length
    · obtain ⟨b, off, rfl, hb, hc⟩ := S2.out.at_ hlt
      have d0 := (hB.cell (p := ⟨b, off + q * 2, none⟩) hb).trans (by have := hc 0 (.int .i64 m[q].1) rfl; simpa using this)
      have lb : b < wr.heap.size := Nat.lt_of_lt_of_le hb hB.size
      have HTk := Lib.hid (offL_take (S := S) hlt)
      have hlq : (S ++ (m.take q).map (·.1)).length ≤ 131072 := by rw [List.length_append, List.length_map, List.length_take]; omega
      have HLq := Lib.hid hlq
      have sB := hB.size
      obtain ⟨x, hx⟩ : ∃ x, x = m[q].1 := ⟨_, rfl⟩
      rw [← hx] at d0 HTk
      clear hc hx hlq hB
      generalize S ++ (m.take q).map (·.1) = L at HO HTk HLq ⊢
      go_wp2_with ((at_builtin; refine wpList_push tyZ rfl _ _ rfl encZ wr W0.heap.size (.slice Ao L.length co) L rfl HO.out x rfl rfl ?a1 ?a2 ?a3 ?a4))
      case a1 => have := HLq.out; omega
      case a2 => have := HLq.out; simp only [maxLen]; omega
      case a3 => exact sB
      case a4 =>
        intro v5 w5 ho5 _ _ _ hb5 _
        have H5 := Lib.hid (And.intro ho5 (HB.out.trans hb5))
        clear ho5 hb5
        go_wp2_with fail
        go_roundw
        case rel => exact ⟨q + 1, by omega, by go_num, by rw [HTk.out]; exact H5.out.1, H5.out.2⟩
        case measure => simp [intOf]; omega
    · obtain rfl : q = m.length := by omega
      rw [List.take_length] at HO ⊢
      have hL : (S ++ m.map (·.1)).length ≤ 131072 := by rw [List.length_append, List.length_map]; omega
      have HLL := Lib.hid hL
      have hqi : decide ((m.length : Int) < (m.length : Int)) = false := by simp
      have T1 := Lib.hid (S1.out.keep (B' := wr.heap.size) hB.size fun p hp => hB.cell hp)
      have T2 := Lib.hid (S2.out.keep (B' := wr.heap.size) hB.size fun p hp => hB.cell hp)
      have HFa : Hid (∀ L, offFoldR (farN l r m) L = L.foldl (offStepR (farN l r m)) (0, farN l r m 0)) := Lib.hid fun L => rfl
      have hfd : offL S m = S ++ m.map (·.1) := rfl
      have HFd := Lib.hid hfd
      clear hL hB hfd
      generalize hLe : S ++ m.map (·.1) = L at HO HLL HFd ⊢
      have hLL := HLL.out
      clear hLe
      go_wp2_with fail
      refine (HF.out _ 0 T1.out T2.out).mono ?_
      rintro e w6 ⟨rfl, hb6⟩
      have O6 := Lib.hid (HO.out.below hb6)
      have B6 := Lib.hid (HB.out.trans (hb6.mono HB.out.size))
      clear hb6 c0 z0 c1 z1 Y0 Y1 T1 T2 HO HB
      go_wp2_with fail
      go_loopw [8, 9, 10] (fun at_ o j W => ∃ q : Nat, q ≤ L.length ∧ j = .int .i64 q ∧ at_ = .int .i64 ((L.take q).foldl (offStepR (farN l r m)) (0, farN l r m 0)).1 ∧ o = .int .i64 ((L.take q).foldl (offStepR (farN l r m)) (0, farN l r m 0)).2 ∧ Below w6.heap.size w6 W) (fun _ _ j _ => L.length - (intOf j).toNat)
      case atStart => exact ⟨0, Nat.zero_le _, rfl, rfl, rfl, Below.refl _ _⟩
      case round =>
        obtain ⟨q, hq, rfl, rfl, rfl, hB⟩ := hrel
        have HB := Lib.hid (B6.out.trans (hB.mono B6.out.size))
        have HBl := Lib.hid hB
        have Y0 := Lib.hid ((HB.out.block _ (lt_of_block X0.out)).trans X0.out)
        have Y1 := Lib.hid ((HB.out.block _ (lt_of_block X1.out)).trans X1.out)
        have c0 := blk_cell Y0.out
        have z0 := lt_of_block Y0.out
        have c1 := blk_cell Y1.out
        have z1 := lt_of_block Y1.out
        have O7 := Lib.hid (O6.out.below hB)
        have T1 := Lib.hid (S1.out.keep (B' := wr.heap.size) HB.out.size fun p hp => HB.out.cell hp)
        have T2 := Lib.hid (S2.out.keep (B' := wr.heap.size) HB.out.size fun p hp => HB.out.cell hp)
        clear hB
        by_cases hlt : q < L.length
        · have hqi : (q : Int) < (L.length : Int) := by omega
          have HStep : Hid ((L.take (q + 1)).foldl (offStepR (farN l r m)) (0, farN l r m 0) = offStepR (farN l r m) ((L.take q).foldl (offStepR (farN l r m)) (0, farN l r m 0)) L[q]) := Lib.hid (by rw [List.take_succ_eq_append_getElem hlt, List.foldl_append]; rfl)
          obtain ⟨b, off, rfl, hb, d0⟩ := own_atZ O7.out hlt
          obtain ⟨x, hx⟩ : ∃ x, x = L[q] := ⟨_, rfl⟩
          rw [← hx] at d0 HStep
          have HFx := Lib.hid (fun W h h' => HF.out W x h h')
          have HDd : Hid (wr.cell? ⟨b, off + q, none⟩ = some (.int .i64 x)) := Lib.hid d0
          generalize (L.take q).foldl (offStepR (farN l r m)) (0, farN l r m 0) = a at HStep ⊢
          obtain ⟨a1, a2⟩ := a
          have HStep : Hid ((L.take (q + 1)).foldl (offStepR (farN l r m)) (0, farN l r m 0) = if a2 < farN l r m x ∨ (farN l r m x = a2 ∧ x < a1) then (x, farN l r m x) else (a1, a2)) := Lib.hid HStep.out
          generalize hLq : (L.take (q + 1)).foldl (offStepR (farN l r m)) (0, farN l r m 0) = aq at HStep
          have HLq2 := Lib.hid hLq
          clear hLq
          (try simp only)
          generalize farN l r m x = n at HFx HStep
          clear hx
          go_upto_region 10 with fail
          refine wp_region_ext (by kernel_rfl) (by kernel_rfl) ?_
          repeat (go_big_quiet_step ((go_at_call 110; exact quiet_ext (HFx.out _ (T1.out.keep (ext_below _ _).size fun p hp => (ext_below _ _).cell hp) (T2.out.keep (ext_below _ _).size fun p hp => (ext_below _ _).cell hp)))))
          refine wpQuiet_nil ?_
          intro w8 h8
          have hb8 := below_of_ext h8
          have HB8 := Lib.hid (HBl.out.trans (hb8.mono HBl.out.size))
          have d8 := (hb8.cell (p := ⟨b, off + q, none⟩) hb).trans HDd.out
          have zb8 : b < w8.heap.size := Nat.lt_of_lt_of_le hb hb8.size
          clear h8 hb8 c0 z0 c1 z1 d0
          by_cases k1 : a2 < n
          · rw [if_pos (.inl k1)] at HStep
            go_wp2_with fail
            go_roundw
            case rel => exact ⟨q + 1, by omega, by go_num, by rw [HLq2.out, HStep.out], by rw [HLq2.out, HStep.out], HB8.out⟩
            case measure => simp [intOf]; omega
          · have k1' : decide (a2 < n) = false := by simpa using k1
            by_cases k2 : n = a2
            · have k2' : (n == a2) = true := by simpa using k2
              by_cases k3 : x < a1
              · rw [if_pos (.inr ⟨k2, k3⟩)] at HStep
                clear k1
                go_wp2_with fail
                go_roundw
                case rel => exact ⟨q + 1, by omega, by go_num, by rw [HLq2.out, HStep.out], by rw [HLq2.out, HStep.out], HB8.out⟩
                case measure => simp [intOf]; omega
              · rw [if_neg (by rintro (h | ⟨_, h⟩); exact k1 h; exact k3 h)] at HStep
                have k3' : decide (x < a1) = false := by simpa using k3
                clear k1 k3
                go_wp2_with fail
                go_roundw
                case rel => exact ⟨q + 1, by omega, by go_num, by rw [HLq2.out, HStep.out], by rw [HLq2.out, HStep.out], HB8.out⟩
                case measure => simp [intOf]; omega
            · rw [if_neg (by rintro (h | ⟨h, _⟩); exact k1 h; exact k2 h)] at HStep
              have k2' : (n == a2) = false := by simpa using k2
              clear k1 k2
              go_wp2_with fail
              go_roundw
              case rel => exact ⟨q + 1, by omega, by go_num, by rw [HLq2.out, HStep.out], by rw [HLq2.out, HStep.out], HB8.out⟩
              case measure => simp [intOf]; omega
        · obtain rfl : q = L.length := by omega
          have hqi : decide ((L.length : Int) < (L.length : Int)) = false := by simp
          have hfin : (L.take L.length).foldl (offStepR (farN l r m)) (0, farN l r m 0) = offFoldR (farN l r m) (offL S m) := by rw [List.take_length, HFd.out, HFa.out]
          rw [hfin]
          clear hfin
          go_wp2_with fail
          go_ret2
          exact ⟨S, _, rfl, HSI.out, rfl, BW0.out.trans (HB.out.mono BW0.out.size)⟩
end Go.Proofs.YtajhjbiokbgebaaGreat
/- slices.Sort on a list of ints that the call owns. -/
namespace Go.Proofs.YtajhjbiokbgebaaGreat
open Go.ChangeShapes Go.WideShapes Go.ChangeAt Go.RowKit
set_option linter.unusedVariables false

theorem flatZ (l : List Int) : l.flatMap encZ.enc = l.map (Value.int .i64) := by
  induction l with
  | nil => rfl
  | cons x l ih => rw [List.flatMap_cons, ih]; rfl
theorem Own.holdsZ {w : World} {base g off cap : Nat} {l : List Int} (h : Own w base 3 encZ (.slice (some ⟨g, off, none⟩) l.length cap) l) : Go.Sort.Holds (Value.int .i64) w g off l.toArray := by
  intro j hj
  have hj : j < l.length := by simpa using hj
  rcases h with ⟨h, _⟩ | ⟨g', off', cap', cur, hv, hb, hh, h1, h2, h3, hc⟩
  · cases h
  · injection hv with hv _ _
    injection hv with hv
    injection hv with e1 e2
    subst e1 e2
    rw [blk_cell hh, blk_frozen hh]
    refine ⟨hc j _ ?_, rfl⟩
    rw [flatZ, List.getElem?_map, List.getElem?_eq_getElem hj]
    simp [hj]
theorem Own.putZ {w : World} {base g off cap : Nat} {l : List Int} (h : Own w base 3 encZ (.slice (some ⟨g, off, none⟩) l.length cap) l) (d l' : List Int) (hd : d.length = l.length) (rest : List Int) (hr : d = l' ++ rest) (n : Nat) (os : Array Obj) :
    Own (Go.Sort.grow (Go.Sort.putRow (Value.int .i64) (Go.Sort.ahead w n) g off d.toArray) os) base 3 encZ (.slice (some ⟨g, off, none⟩) l'.length cap) l' ∧ Turn (fun b => b = g) w (Go.Sort.grow (Go.Sort.putRow (Value.int .i64) (Go.Sort.ahead w n) g off d.toArray) os) ∧ base ≤ g := by
  have hl : l'.length ≤ l.length := by rw [← hd, hr, List.length_append]; omega
  rcases h with ⟨h, _⟩ | ⟨g', off', cap', cur, hv, hb, hh, h1, h2, h3, hc⟩
  · cases h
  · injection hv with hv _ hcap
    injection hv with hv
    injection hv with e1 e2
    subst e1 e2 hcap
    have hlt : g < w.heap.size := lt_of_block hh
    have hg : (Go.Sort.grow (Go.Sort.putRow (Value.int .i64) (Go.Sort.ahead w n) g off d.toArray) os).heap[g]? = some (.cells (Go.Sort.putCells (Value.int .i64) off d.toArray cur) 3 (0, 0)) := by
      rw [Go.Sort.heap_grow_old _ _ (by simp [Go.Sort.putRow, Go.Sort.mapBlock, Go.Sort.ahead]; exact hlt)]
      simp [Go.Sort.putRow, Go.Sort.mapBlock, Go.Sort.ahead, Array.getElem?_modify, Go.Sort.onCells, hh]
    refine ⟨.inr ⟨g, off, cap, _, rfl, hb, hg, by omega, h2, by simpa [Go.Sort.putCells] using h3, fun j u hj => ?_⟩, ⟨rfl, rfl, rfl, ?_, fun b hlb hn => ?_⟩, hb⟩
    · rw [flatZ, List.getElem?_map] at hj
      obtain ⟨x, hx, rfl⟩ := Option.map_eq_some_iff.1 hj
      have hjl : j < l'.length := (List.getElem?_eq_some_iff.1 hx).1
      have hcur : cur[off + j]? = some cur[off + j] := Array.getElem?_eq_getElem (by omega)
      simp only [Go.Sort.putCells, Array.getElem?_mapIdx, hcur, Option.map_some]
      rw [if_pos ⟨by omega, by simp [hd]; omega⟩]
      have hdj : d[j]? = some x := by rw [hr, List.getElem?_append_left hjl]; exact hx
      have e : d.toArray[off + j - off]! = x := by
        rw [Nat.add_sub_cancel_left, getElem!_pos _ _ (by simpa using (List.getElem?_eq_some_iff.1 hdj).1)]
        simpa using (List.getElem?_eq_some_iff.1 hdj).2
      rw [e]
    · simp [Go.Sort.grow, Go.Sort.putRow, Go.Sort.mapBlock, Go.Sort.ahead]
    · rw [Go.Sort.heap_grow_old _ _ (by simp [Go.Sort.putRow, Go.Sort.mapBlock, Go.Sort.ahead]; exact hlb)]
      simp only [Go.Sort.putRow, Go.Sort.mapBlock, Go.Sort.ahead, Array.getElem?_modify]
      rw [if_neg (by intro h; exact hn h.symm)]
/-- slices.Sort. -/
theorem sort_own (w : World) (base g off cap : Nat) (l : List Int) (h : Own w base 3 encZ (.slice (some ⟨g, off, none⟩) l.length cap) l) (hb : base ≤ w.heap.size) (hm : l.length ≤ 1000000000000) :
    Calls Tryz.prog 109 #[.slice (some ⟨g, off, none⟩) l.length cap] w fun e w' => e = .returned (.tuple #[]) ∧ Own w' base 3 encZ (.slice (some ⟨g, off, none⟩) l.length cap) (l.mergeSort fun x y => decide (x ≤ y)) ∧ Turn (fun b => b = g) w w' ∧ base ≤ g := by
  refine (Go.Proofs.Tryz.slices_Sort_int g off cap l w h.holdsZ ((h.lt g rfl).2) (by omega)).mono ?_
  rintro e w' ⟨rfl, n, os, rfl⟩
  have hl : (l.mergeSort fun x y => decide (x ≤ y)).length = l.length := List.length_mergeSort _
  obtain ⟨h1, h2, h3⟩ := h.putZ (l.mergeSort fun x y => decide (x ≤ y)) (l.mergeSort fun x y => decide (x ≤ y)) hl [] (by simp) n os
  rw [hl] at h1
  exact ⟨rfl, h1, h2, h3⟩
end Go.Proofs.YtajhjbiokbgebaaGreat
/- Package audit: Off. -/
namespace Go.Proofs.YtajhjbiokbgebaaGreat
open Go.ChangeShapes Go.WideShapes Go.ChangeAt Go.RowKit
set_option linter.unusedVariables false
set_option linter.unusedSimpArgs false
set_option maxRecDepth 100000

theorem tab_steps {l : Int} {r lt : List Nd} (h : Tab (lastL l r) lt) : StepsIs l r (lt.map (·.1)) := by
  refine ⟨?_, fun z => ?_⟩
  · rw [List.pairwise_map]; exact h.rise
  · rw [List.mem_map]
    constructor
    · rintro ⟨y, hy, rfl⟩
      obtain ⟨u, hu, e⟩ := h.of y hy
      unfold lastL at hu
      obtain ⟨x, hx, rfl⟩ := List.mem_map.1 hu
      exact ⟨x, hx, e⟩
    · rintro ⟨x, hx, rfl⟩
      obtain ⟨y, hy, e⟩ := h.all ((endsOf l x.1).2.1, x.2) (List.mem_map.2 ⟨x, hx, rfl⟩)
      exact ⟨y, hy, e⟩
/-- The numbers at which ranks are held against one another: 0, the bag's values, and where Low grows. -/
def allL (S : List Int) (m : List Nd) : List Int := (S ++ [0]) ++ m.map (·.1)
theorem allL_nil (S : List Int) : allL S [] = S ++ [0] := by simp [allL]
theorem allL_take {S : List Int} {m : List Nd} {q : Nat} (h : q < m.length) : allL S (m.take (q + 1)) = allL S (m.take q) ++ [m[q].1] := offL_take h
theorem allL_len (S : List Int) (m : List Nd) : (allL S m).length = S.length + 1 + m.length := by simp [allL]; omega
def sortL (L : List Int) : List Int := L.mergeSort fun x y => decide (x ≤ y)
theorem sortL_len (L : List Int) : (sortL L).length = L.length := List.length_mergeSort _
theorem sortL_up (L : List Int) : (sortL L).Pairwise (· ≤ ·) := by
  have := List.pairwise_mergeSort (le := fun x y : Int => decide (x ≤ y)) (fun a b c h1 h2 => by simp only [decide_eq_true_eq] at *; omega) (fun a b => by simp only [Bool.or_eq_true, decide_eq_true_eq]; omega) L
  exact this.imp fun h => by simpa using h
theorem sortL_mem (L : List Int) (z : Int) : z ∈ sortL L ↔ z ∈ L := (List.mergeSort_perm L _).mem_iff
/-- The program's answer is the document's. -/
theorem off_same {l : Nat} (hl : l ≤ 48) {r m : List Nd} (hr : ∀ x ∈ r, isNode l x.1 = true) (hm : ∀ x ∈ m, 0 ≤ x.1) {S T : List Int} (hS : StepsIs l r S) (hT : StepsIs l r T) :
    offFold (farN l r m) (sortL (allL S m)) = offFoldR (farN l r m) (offL T m) := by
  obtain rfl := hS.unique hT
  have h1 := offFold_is (f := farN l r m) (farN_nonneg l r m) (L := sortL (allL S m)) (sortL_up _) ((sortL_mem _ _).2 (by simp [allL])) (fun x hx => by
    have hx := (sortL_mem _ _).1 hx
    unfold allL at hx
    rcases List.mem_append.1 hx with hx | hx
    · rcases List.mem_append.1 hx with hx | hx
      · obtain ⟨y, hy, rfl⟩ := (hS.mem x).1 hx
        have := ends_48 hl (hr y hy)
        omega
      · rw [List.mem_singleton.1 hx]; omega
    · obtain ⟨y, hy, rfl⟩ := List.mem_map.1 hx
      exact hm y hy)
  have h2 := offFoldR_is (farN l r m) (offL S m)
  refine offIs_unique (fun x => ?_) h1 h2
  rw [sortL_mem]
  unfold offL
  simp only [allL, List.mem_append, List.mem_cons, List.mem_singleton, List.not_mem_nil, or_false]
  constructor
  · rintro ((h | h) | h)
    · exact .inr (.inl h)
    · exact .inl h
    · exact .inr (.inr h)
  · rintro (h | (h | h))
    · exact .inl (.inr h)
    · exact .inl (.inl h)
    · exact .inr h
theorem audit_Off_err (w : World) (dv bv : Value) (c : Int) (hc : c ≠ 0) (h : Calls Tryz.prog 96 #[dv, bv] w fun e w' => e = .returned (.int .i64 c) ∧ Below w.heap.size w w') :
    Calls Tryz.prog 42 #[dv, bv] w fun e w' => e = .returned (.tuple #[.int .i64 0, .int .i64 0, .int .i64 c]) ∧ Below w.heap.size w w' := by
  have H := Lib.hid h
  have hc' : (c == 0) = false := by simpa using hc
  clear h hc
  go_enter Tryz.func42, Tryz.ntmps42
  go_wp2_with fail
  refine H.out.mono ?_
  rintro e w1 ⟨rfl, hb1⟩
  go_wp2_with fail
  go_ret3
  exact ⟨rfl, hb1⟩
set_option maxHeartbeats 8000000 in
theorem audit_Off (w : World) (g K l : Nat) (k : Int) (r : List Nd) (F : Nat → Prop) (base gb : Nat) (m : List Nd) (h : DigAt w g K l k r F) (hb : BagAt w base gb l m) (hm : BagL l m) (hlen : r.length ≤ 65536) (hlm : m.length ≤ 65536) :
    Calls Tryz.prog 42 #[.pointer (some ⟨g, 0, none⟩), .pointer (some ⟨gb, 0, none⟩)] w fun e w' => ∃ (S : List Int) (a : Int × Int), e = .returned (.tuple #[.int .i64 a.1, .int .i64 a.2, .int .i64 0]) ∧ StepsIs l r S ∧ a = offFold (farN l r m) (sortL (allL S m)) ∧ Below w.heap.size w w' := by
  have HW := Lib.hid (fun W h hb => audit_wrong W g K l k r F base gb l m h hb)
  simp only [if_true] at HW
  have hfr := h.fits
  have HOf := Lib.hid (fun W h => rank_Of W g K l k r F h (by omega))
  have HIt := Lib.hid (fun W h => bag_Items W base gb l m h (by omega))
  have HRk := Lib.hid (fun W x h => bag_Rank W base gb l m x h hm)
  have HB := Lib.hid hb
  have HD := Lib.hid h
  have HLw := Lib.hid (fun x => low_bounds (l := l) hfr.roll hfr.sum x)
  have HBw := Lib.hid (fun x => betwB_le (fun y hy => (hm.val y hy).2.2) 0 x)
  have hms := hm.sum
  clear h hb hm hfr
  go_enter Tryz.func42, Tryz.ntmps42
  go_wp2_with fail
  refine (HW.out _ HD.out HB.out).mono ?_
  rintro e w1 ⟨rfl, hb1⟩
  have B1 := Lib.hid hb1
  go_wp2_with fail
  refine (HOf.out _ (HD.out.below hb1)).mono ?_
  rintro e w2 ⟨gt, lt, ft, rfl, hT, hlt, _, hltl, _, hb2⟩
  have HT2 := Lib.hid hT
  have HTb := Lib.hid hlt
  have B2 := Lib.hid (Below.then_ B1.out hb2)
  have HB2 := Lib.hid (HB.out.below B2.out)
  have hltl2 : lt.length ≤ 65536 := by omega
  clear hb1 hb2 hT hlt HOf HD HW
  go_wp2_with fail
  refine (table_Steps HT2.out (by omega)).mono ?_
  rintro e w3 ⟨v3, rfl, ho3, hb3⟩
  have O3 := Lib.hid ho3
  have B3 := Lib.hid hb3
  have s3 := hb3.size
  have hSL : (lt.map (·.1)).length ≤ 65536 := by rw [List.length_map]; omega
  have HSt := Lib.hid (tab_steps HTb.out)
  generalize hSe : lt.map (·.1) = S at O3 hSL HSt
  clear ho3 hb3 hSe
  go_wp2_with ((at_builtin; refine wpList_push tyZ rfl _ _ rfl encZ w3 w2.heap.size v3 S rfl O3.out 0 rfl rfl ?a1 ?a2 ?a3 ?a4))
  case a1 => omega
  case a2 => simp only [maxLen]; omega
  case a3 => exact s3
  case a4 =>
    intro v4 w4 ho4 _ _ _ hb4 _
    have O4 := Lib.hid ho4
    have B4 := Lib.hid (B3.out.trans hb4)
    clear ho4 hb4
    have HB4 := Lib.hid (HB2.out.below B4.out)
    go_wp2_with fail
    refine (HIt.out _ HB4.out).mono ?_
    rintro e w5 ⟨v5, rfl, ho5, hb5⟩
    obtain ⟨A5, c5, rfl, _⟩ := ho5.form
    have I5 := Lib.hid (ho5.base_le (Nat.zero_le _))
    have O5 := Lib.hid (O4.out.below hb5)
    have B5 := Lib.hid (B4.out.trans (hb5.mono B4.out.size))
    clear ho5 hb5
    go_wp2_with fail
    go_loopw [9, 30] (fun v j wr => ∃ q : Nat, q ≤ m.length ∧ j = .int .i64 q ∧ Own wr w2.heap.size 3 encZ v (allL S (m.take q)) ∧ Below w2.heap.size w2 wr ∧ Own wr 0 96 encN (.slice A5 m.length c5) m) (fun _ j _ => m.length - (intOf j).toNat)
    case atStart => exact ⟨0, Nat.zero_le _, rfl, by rw [List.take_zero, allL_nil]; exact O5.out, B5.out, I5.out⟩
    case round =>
      obtain ⟨q, hq, rfl, ho, hB, hI⟩ := hrel
      obtain ⟨Ao, co, rfl, _⟩ := ho.form
      have HO := Lib.hid ho
      have HBB := Lib.hid hB
      have HI := Lib.hid hI
      clear ho hI
      have sB := hB.size
      by_cases hlt : q < m.length
      · have hqi : (q : Int) < (m.length : Int) := by omega
        obtain ⟨b, off, rfl, hb, hc⟩ := HI.out.sl.at_ hlt
        have d1 := hc 1 (.int .i64 m[q].2) rfl
        have d0 := hc 0 (.int .i64 m[q].1) rfl
        simp only [Nat.add_zero] at d0
        have HTk := Lib.hid (allL_take (S := S) hlt)
        have hlq : (allL S (m.take q)).length ≤ 131073 := by rw [allL_len, List.length_take]; omega
        have HLq := Lib.hid hlq
        obtain ⟨x, hx⟩ : ∃ x, x = m[q].1 := ⟨_, rfl⟩
        obtain ⟨c, hcc⟩ : ∃ c, c = m[q].2 := ⟨_, rfl⟩
        rw [← hx] at d0 HTk
        rw [← hcc] at d1
        clear hc hx hcc hlq
        generalize allL S (m.take q) = L at HO HTk HLq ⊢
        have HX := heap_alloc_new wr (.cells #[.int .i64 x, .int .i64 c] 96)
        have OA := Lib.hid (HO.out.alloc (.cells #[.int .i64 x, .int .i64 c] 96))
        have IA := Lib.hid (HI.out.alloc (.cells #[.int .i64 x, .int .i64 c] 96))
        have BA := Lib.hid (hB.alloc sB (.cells #[.int .i64 x, .int .i64 c] 96))
        obtain ⟨xb, hxb⟩ : ∃ xb, xb = wr.heap.size := ⟨_, rfl⟩
        have hxz : w2.heap.size ≤ xb := by omega
        go_upto_region 9 with fail
        rw [← hxb] at HX ⊢
        generalize wr.alloc (.cells #[.int .i64 x, .int .i64 c] 96) = W1 at HX OA IA BA ⊢
        have nx := blk_cell HX
        have nz := lt_of_block HX
        have s1 := BA.out.size
        clear hB d0 d1 hb HX hxb
        go_wp2_with ((at_builtin; refine wpList_push tyZ rfl _ _ rfl encZ W1 w2.heap.size (.slice Ao L.length co) L rfl OA.out x rfl rfl ?b1 ?b2 ?b3 ?b4))
        case b1 => have := HLq.out; omega
        case b2 => have := HLq.out; simp only [maxLen]; omega
        case b3 => exact s1
        case b4 =>
          intro v6 w6 ho6 hg6 _ _ hb6 _
          have O6 := Lib.hid ho6
          have B6 := Lib.hid (BA.out.trans hb6)
          have I6 := Lib.hid (IA.out.kept hg6 (own_ne IA.out OA.out (by decide)))
          clear ho6 hg6 hb6
          go_wp2_with fail
          go_roundw
          case rel => exact ⟨q + 1, by omega, by go_num, by rw [HTk.out]; exact O6.out, B6.out, I6.out⟩
          case measure => simp [intOf]; omega
      · obtain rfl : q = m.length := by omega
        rw [List.take_length] at HO ⊢
        have hqi : decide ((m.length : Int) < (m.length : Int)) = false := by simp
        have hL : (allL S m).length ≤ 131073 := by rw [allL_len]; omega
        have hL0 : 0 < (allL S m).length := by rw [allL_len]; omega
        generalize hLe : allL S m = L at HO hL hL0 ⊢
        have HLe := Lib.hid hLe
        clear hLe HI
        obtain ⟨gl, ol, cl, hv, hcl⟩ := own_at0 HO.out hL0
        injection hv with hv1 hv2 hv3
        subst hv1 hv3
        go_wp2_with fail
        refine (sort_own wr w2.heap.size gl ol co L HO.out sB (by omega)).mono ?_
        rintro e w7 ⟨rfl, ho7, ht7, hbg⟩
        have B7 := Lib.hid (HBB.out.trans (ht7.below (base := w2.heap.size) (fun b hb => by rw [hb]; exact hbg) sB))
        have O7 := Lib.hid ho7
        have hsl : (L.mergeSort fun x y => decide (x ≤ y)) = sortL L := rfl
        rw [hsl] at O7
        have hsl2 := sortL_len L
        have HT7 := Lib.hid (HT2.out.below B7.out)
        have HB7 := Lib.hid (HB2.out.below B7.out)
        clear ho7 ht7 hB HO HBB hsl
        have hsl3 : (sortL L).length ≤ 131073 := by omega
        rw [← hsl2] at O7 ⊢
        generalize hT : sortL L = T at O7 hsl3 ⊢
        have HTe := Lib.hid hT
        clear hsl2 hT hL hL0
        go_wp2_with fail
        go_loopw [4, 5, 44] (fun at_ o j W => ∃ q : Nat, q ≤ T.length ∧ j = .int .i64 q ∧ at_ = .int .i64 (offFold (farN l r m) (T.take q)).1 ∧ o = .int .i64 (offFold (farN l r m) (T.take q)).2 ∧ Below w7.heap.size w7 W) (fun _ _ j _ => T.length - (intOf j).toNat)
        case atStart => exact ⟨0, Nat.zero_le _, rfl, rfl, rfl, Below.refl _ _⟩
        case round =>
          obtain ⟨q, hq, rfl, rfl, rfl, hB⟩ := hrel
          have HBl := Lib.hid hB
          have O8 := Lib.hid (O7.out.below hB)
          have HT8 := Lib.hid (HT7.out.below (hB.mono B7.out.size))
          have HB8 := Lib.hid (HB7.out.below hB)
          clear hB
          by_cases hlt : q < T.length
          · have hqi : (q : Int) < (T.length : Int) := by omega
            have HStep := Lib.hid (show offFold (farN l r m) (T.take (q + 1)) = offStep (farN l r m) (offFold (farN l r m) (T.take q)) T[q] by rw [List.take_succ_eq_append_getElem hlt, offFold_snoc])
            obtain ⟨b, off, hv, hb, d0⟩ := own_atZ O8.out hlt
            injection hv with hv
            injection hv with hv1 hv2 _
            subst hv1 hv2
            obtain ⟨x, hx⟩ : ∃ x, x = T[q] := ⟨_, rfl⟩
            rw [← hx] at d0 HStep
            have HLx := Lib.hid (fun W (h : TabAt W w1.heap.size w2.heap.size gt (sumR r) lt ft) => table_Low x h (by omega) HTb.out.rise)
            rw [HTb.out.upT x, low_up] at HLx
            have HRx := Lib.hid (fun W h => HRk.out W x h)
            have hlw := HLw.out x
            have hbw := HBw.out x
            have hfd : farN l r m x = max (lowOf l r x - betwB m 0 x) (-(lowOf l r x - betwB m 0 x)) := rfl
            have HFd := Lib.hid hfd
            generalize lowOf l r x = n1 at HLx hlw HFd
            generalize betwB m 0 x = n2 at HRx hbw HFd
            have hl0 := hlw.1
            have hl1 := hlw.2
            have hb0 := hbw.1
            have hb1 : n2 ≤ 72057594037927935 := by omega
            generalize offFold (farN l r m) (T.take q) = a at HStep ⊢
            obtain ⟨a1, a2⟩ := a
            have HStep : Hid (offFold (farN l r m) (T.take (q + 1)) = if a2 < farN l r m x then (x, farN l r m x) else (a1, a2)) := Lib.hid HStep.out
            rw [HFd.out] at HStep
            generalize hLq : offFold (farN l r m) (T.take (q + 1)) = aq at HStep
            have HLq2 := Lib.hid hLq
            clear hLq hx hlw hbw hfd
            (try simp only)
            go_wp2_with fail
            refine (HLx.out _ HT8.out).mono ?_
            rintro e w8 ⟨rfl, hb8⟩
            have B8 := Lib.hid (HBl.out.trans (hb8.mono HBl.out.size))
            go_wp2_with fail
            refine (HRx.out _ (HB8.out.below hb8)).mono ?_
            rintro e w9 ⟨rfl, hb9⟩
            have B9 := Lib.hid (B8.out.trans (hb9.mono B8.out.size))
            clear hb8 hb9 d0 hb
            go_upto_region 17 with fail
            by_cases k1 : a2 < max (n1 - n2) (-(n1 - n2))
            · rw [if_pos k1] at HStep
              go_wp2_with fail
              go_roundw
              case rel => exact ⟨q + 1, by omega, by go_num, by rw [HLq2.out, HStep.out], by rw [HLq2.out, HStep.out], B9.out⟩
              case measure => simp [intOf]; omega
            · rw [if_neg k1] at HStep
              have k1' : decide (a2 < max (n1 - n2) (-(n1 - n2))) = false := by simpa using k1
              clear k1
              go_wp2_with fail
              go_roundw
              case rel => exact ⟨q + 1, by omega, by go_num, by rw [HLq2.out, HStep.out], by rw [HLq2.out, HStep.out], B9.out⟩
              case measure => simp [intOf]; omega
          · obtain rfl : q = T.length := by omega
            have hqi : decide ((T.length : Int) < (T.length : Int)) = false := by simp
            have hfin : offFold (farN l r m) (T.take T.length) = offFold (farN l r m) (sortL (allL S m)) := by rw [List.take_length, ← HTe.out, HLe.out]
            have HFin := Lib.hid hfin
            clear hfin
            generalize offFold (farN l r m) (T.take T.length) = a at HFin ⊢
            go_wp2_with fail
            go_ret3
            exact ⟨S, a, rfl, HSt.out, HFin.out, B2.out.trans ((B7.out.trans (HBl.out.mono B7.out.size)).mono B2.out.size)⟩
end Go.Proofs.YtajhjbiokbgebaaGreat
/- Chapter 34: how far ranks are from a bag's: the law. -/
namespace Go.Proofs.YtajhjbiokbgebaaGreat
open Go.ChangeShapes Go.WideShapes Go.ChangeAt Go.RowKit
set_option linter.unusedVariables false
set_option linter.unusedSimpArgs false
set_option maxRecDepth 100000

set_option maxHeartbeats 8000000 in
theorem law_AuditOff_no (l k K lb : Int) (r : List Nd) (A : Option Addr) (cap : Nat) (q : List Nd) (B : Option Addr) (cb : Nat) (w : World) (h : ¬ (goodL l k K r ∧ (1 ≤ lb ∧ lb ≤ 48) ∧ r.length ≤ 60 ∧ q.length ≤ 60)) (hS : Sl w w.heap.size encN A r) (hI : ints r) (hSb : Sl w w.heap.size encN B q) (hIb : ints q) :
    Calls Tryz.prog 8 #[loadedV l k K A r.length cap, .int .i64 lb, .slice B q.length cb] w fun e w' => e = .returned (.bool true) ∧ Below w.heap.size w w' := by
  have HC := Lib.hid (fun W hS hSb => law34_two_no W l k K lb r A cap q B cb h hS hI hSb hIb)
  have HS := Lib.hid (And.intro hS hSb)
  have BW0 : Hid (Below w.heap.size w (w.alloc (.cells #[.int .i64 l, .int .i64 k, .int .i64 K, .slice A r.length cap] 48))) := Lib.hid (by repeat (first | with_reducible exact Below.refl _ _ | with_reducible assumption | ((with_reducible refine Below.setCell ?_ ?_ _); rotate_left; · (first | omega | exact Nat.le_refl _ | (simp <;> omega))) | (with_reducible refine Below.allocW ?_ _) | (with_reducible refine Below.drew ?_) | (with_reducible refine Below.extW ?_ _)))
  have X0 : Hid ((w.alloc (.cells #[.int .i64 l, .int .i64 k, .int .i64 K, .slice A r.length cap] 48)).heap[w.heap.size]? = some (.cells #[.int .i64 l, .int .i64 k, .int .i64 K, .slice A r.length cap] 48 (0, 0))) := Lib.hid (heap_alloc_new w _)
  unfold loadedV at HC ⊢
  clear h hS hSb
  go_enter Tryz.func8, Tryz.ntmps8
  go_upto_region 1 with fail
  generalize w.alloc (.cells #[.int .i64 l, .int .i64 k, .int .i64 K, .slice A r.length cap] 48) = W0 at X0 BW0 ⊢
  have cx := blk_cell X0.out
  have zx := lt_of_block X0.out
  have S0 := Lib.hid (HS.out.1.keep (B' := W0.heap.size) BW0.out.size fun p hp => BW0.out.cell hp)
  have S1 := Lib.hid (HS.out.2.keep (B' := W0.heap.size) BW0.out.size fun p hp => BW0.out.cell hp)
  go_wp2_with fail
  refine (HC.out _ S0.out S1.out).mono ?_
  rintro e w1 ⟨⟨d, b, a1, a2, A1, n1, c1, b1, A2, n2, c2, rfl⟩, hb1⟩
  have B1 := Lib.hid (Below.then_ BW0.out hb1)
  clear cx zx S0 S1 X0 BW0 HC
  go_wp2_with fail
  refine (alive34 _).mono ?_
  rintro e w2 ⟨rfl, hb2⟩
  have B2 := Lib.hid (Below.then_ ((B1.out.alloc B1.out.size (.cells #[.int .i64 a1, .int .i64 a2, .slice A1 n1 c1] 63)).alloc (by have := B1.out.size; simp; omega) (.cells #[.int .i64 b1, .slice A2 n2 c2] 31)) hb2)
  go_wp2_with fail
  go_ret
  exact ⟨rfl, B2.out⟩
set_option maxHeartbeats 8000000 in
theorem law_AuditOff_ne (l K lb : Nat) (k : Int) (r : List Nd) (A : Option Addr) (cap : Nat) (q : List Nd) (B : Option Addr) (cb : Nat) (w : World) (hg : goodL l k K r) (hlb : 1 ≤ lb ∧ lb ≤ 48) (h1 : r.length ≤ 60) (h2 : q.length ≤ 60) (hne : l ≠ lb) (hS : Sl w w.heap.size encN A r) (hI : ints r) (hSb : Sl w w.heap.size encN B q) (hIb : ints q) :
    Calls Tryz.prog 8 #[loadedV l k K A r.length cap, .int .i64 lb, .slice B q.length cb] w fun e w' => e = .returned (.bool true) ∧ Below w.heap.size w w' := by
  have HC := Lib.hid (fun W hS hSb => law34_two W l K lb k r A cap q B cb hg hS hI hSb hIb hlb h1 h2)
  have HW := Lib.hid (fun W g F gb m (h : DigAt W g K l k r F) (hb : BagAt W w.heap.size gb lb m) => audit_wrong W g K l k r F w.heap.size gb lb m h hb)
  rw [if_neg hne] at HW
  have HS := Lib.hid (And.intro hS hSb)
  have BW0 : Hid (Below w.heap.size w (w.alloc (.cells #[.int .i64 l, .int .i64 k, .int .i64 K, .slice A r.length cap] 48))) := Lib.hid (by repeat (first | with_reducible exact Below.refl _ _ | with_reducible assumption | ((with_reducible refine Below.setCell ?_ ?_ _); rotate_left; · (first | omega | exact Nat.le_refl _ | (simp <;> omega))) | (with_reducible refine Below.allocW ?_ _) | (with_reducible refine Below.drew ?_) | (with_reducible refine Below.extW ?_ _)))
  have X0 : Hid ((w.alloc (.cells #[.int .i64 l, .int .i64 k, .int .i64 K, .slice A r.length cap] 48)).heap[w.heap.size]? = some (.cells #[.int .i64 l, .int .i64 k, .int .i64 K, .slice A r.length cap] 48 (0, 0))) := Lib.hid (heap_alloc_new w _)
  have hne' : ((l : Int) == (lb : Int)) = false := by simp; omega
  unfold loadedV bagV at HC
  unfold loadedV
  clear hS hSb hg hI hIb
  go_enter Tryz.func8, Tryz.ntmps8
  go_upto_region 1 with fail
  generalize w.alloc (.cells #[.int .i64 l, .int .i64 k, .int .i64 K, .slice A r.length cap] 48) = W0 at X0 BW0 ⊢
  have cx := blk_cell X0.out
  have zx := lt_of_block X0.out
  have S0 := Lib.hid (HS.out.1.keep (B' := W0.heap.size) BW0.out.size fun p hp => BW0.out.cell hp)
  have S1 := Lib.hid (HS.out.2.keep (B' := W0.heap.size) BW0.out.size fun p hp => BW0.out.cell hp)
  go_wp2_with fail
  refine (HC.out _ S0.out S1.out).mono ?_
  rintro e w1 ⟨g, F, gb, A2, c2, rfl, hD, hB, hT, hb1⟩
  have R1 : Hid (AudW w g K l k r F gb lb (madeB lb q) A cap A2 w1) := Lib.hid ⟨hD, hB.mono BW0.out.size, blk_below X0.out hb1, S0.out.keep hb1.size (fun p hp => hb1.cell hp), hT.sl, Below.then_ BW0.out hb1⟩
  clear cx zx S0 S1 X0 BW0 HC hD hB hT hb1
  have R2 := Lib.hid ((R1.out.alloc (.cells #[.int .i64 k, .int .i64 l, .slice A r.length cap] 63)).alloc (.cells #[.int .i64 lb, .slice A2 (madeB lb q).length c2] 31))
  go_upto_region 2 with fail
  generalize (w1.alloc (.cells #[.int .i64 k, .int .i64 l, .slice A r.length cap] 63)).alloc (.cells #[.int .i64 lb, .slice A2 (madeB lb q).length c2] 31) = w2 at R2 ⊢
  clear R1
  go_wp2_with fail
  refine (audit_Off_err w2 (.pointer (some ⟨g, 0, none⟩)) (.pointer (some ⟨gb, 0, none⟩)) 6 (by decide) (HW.out w2 g F gb _ R2.out.d R2.out.b)).mono ?_
  rintro e w4 ⟨rfl, hb4⟩
  have R4 := Lib.hid (R2.out.below hb4)
  clear hb4 R2
  have cx := blk_cell R4.out.x
  have zx := lt_of_block R4.out.x
  go_wp2_with fail
  refine (alive34 _).mono ?_
  rintro e w5 ⟨rfl, hb5⟩
  have R5 := Lib.hid (R4.out.below hb5)
  go_wp2_with fail
  go_ret
  exact ⟨rfl, R5.out.blw⟩
set_option maxHeartbeats 8000000 in
theorem law_AuditOff_yes (l K : Nat) (k : Int) (r : List Nd) (A : Option Addr) (cap : Nat) (q : List Nd) (B : Option Addr) (cb : Nat) (w : World) (hg : goodL l k K r) (hlb : 1 ≤ l ∧ l ≤ 48) (h1 : r.length ≤ 60) (h2 : q.length ≤ 60) (hS : Sl w w.heap.size encN A r) (hI : ints r) (hSb : Sl w w.heap.size encN B q) (hIb : ints q) :
    Calls Tryz.prog 8 #[loadedV l k K A r.length cap, .int .i64 l, .slice B q.length cb] w fun e w' => e = .returned (.bool true) ∧ Below w.heap.size w w' := by
  have hR := (goodL_parts hg.2.2).1
  have hf := right_fits hR
  have hr2 : ∀ x ∈ r, 1 ≤ x.2 := fun x hx => (hf.1.roll.2 x hx).2
  have hr1 : ∀ x ∈ r, 1 ≤ x.1 := fun x hx => (hf.1.roll.2 x hx).1
  have HC := Lib.hid (fun W hS hSb => law34_two W l K l k r A cap q B cb hg hS hI hSb hIb hlb h1 h2)
  have hbag := madeB_bag l q
  have hbl := madeB_len (l := l) q
  generalize madeB l q = m at HC hbag hbl
  have hrn := hf.1.nodes hlb
  have hm0 : ∀ z ∈ m, 0 ≤ z.1 := fun z hz => (hbag.val z hz).1
  have HOf := Lib.hid (fun W g F gb (h : DigAt W g K l k r F) (hb : BagAt W w.heap.size gb l m) => audit_Off W g K l k r F w.heap.size gb m h hb hbag (by omega) (by omega))
  have HRO := Lib.hid (fun (W : World) (A2 : Option Addr) (c2 : Nat) hS hSb => ref34_Off W k l A A2 cap c2 r m hS hSb hI hf.1.roll (fun x hx => (hbag.val x hx).2.2) hf.1.sum hbag.sum (by omega) (by omega) hm0)
  have HEq := Lib.hid (fun (S T : List Int) (hS : StepsIs l r S) (hT : StepsIs l r T) => off_same hlb.2 hrn hm0 hS hT)
  have HS := Lib.hid (And.intro hS hSb)
  have BW0 : Hid (Below w.heap.size w (w.alloc (.cells #[.int .i64 l, .int .i64 k, .int .i64 K, .slice A r.length cap] 48))) := Lib.hid (by repeat (first | with_reducible exact Below.refl _ _ | with_reducible assumption | ((with_reducible refine Below.setCell ?_ ?_ _); rotate_left; · (first | omega | exact Nat.le_refl _ | (simp <;> omega))) | (with_reducible refine Below.allocW ?_ _) | (with_reducible refine Below.drew ?_) | (with_reducible refine Below.extW ?_ _)))
  have X0 : Hid ((w.alloc (.cells #[.int .i64 l, .int .i64 k, .int .i64 K, .slice A r.length cap] 48)).heap[w.heap.size]? = some (.cells #[.int .i64 l, .int .i64 k, .int .i64 K, .slice A r.length cap] 48 (0, 0))) := Lib.hid (heap_alloc_new w _)
  unfold loadedV bagV at HC
  unfold bagV at HRO
  unfold loadedV
  clear hS hSb hg hI hIb hR hf hr2 hr1 hbag hrn hm0
  go_enter Tryz.func8, Tryz.ntmps8
  go_upto_region 1 with fail
  generalize w.alloc (.cells #[.int .i64 l, .int .i64 k, .int .i64 K, .slice A r.length cap] 48) = W0 at X0 BW0 ⊢
  have cx := blk_cell X0.out
  have zx := lt_of_block X0.out
  have S0 := Lib.hid (HS.out.1.keep (B' := W0.heap.size) BW0.out.size fun p hp => BW0.out.cell hp)
  have S1 := Lib.hid (HS.out.2.keep (B' := W0.heap.size) BW0.out.size fun p hp => BW0.out.cell hp)
  go_wp2_with fail
  refine (HC.out _ S0.out S1.out).mono ?_
  rintro e w1 ⟨g, F, gb, A2, c2, rfl, hD, hB, hT, hb1⟩
  have R1 : Hid (AudW w g K l k r F gb l m A cap A2 w1) := Lib.hid ⟨hD, hB.mono BW0.out.size, blk_below X0.out hb1, S0.out.keep hb1.size (fun p hp => hb1.cell hp), hT.sl, Below.then_ BW0.out hb1⟩
  clear cx zx S0 S1 X0 BW0 HC hD hB hT hb1
  have R2 := Lib.hid (AudV.new (c2 := c2) R1.out)
  go_upto_region 2 with fail
  generalize (w1.alloc (.cells #[.int .i64 k, .int .i64 l, .slice A r.length cap] 63)).alloc (.cells #[.int .i64 l, .slice A2 m.length c2] 31) = w2 at R2 ⊢
  obtain ⟨pv, hpv⟩ : ∃ pv, pv = w1.heap.size := ⟨_, rfl⟩
  rw [← hpv] at R2 ⊢
  clear R1 hpv
  go_wp2_with fail
  refine (HOf.out w2 g F gb R2.out.a.d R2.out.a.b).mono ?_
  rintro e w3 ⟨S, a, rfl, hSs, ha, hb3⟩
  have R3 := Lib.hid (R2.out.below hb3)
  have HSs := Lib.hid hSs
  have HA := Lib.hid ha
  clear hb3 R2 hSs ha
  have cx := blk_cell R3.out.a.x
  have zx := lt_of_block R3.out.a.x
  have cv := blk_cell R3.out.v
  have zv := lt_of_block R3.out.v
  have cu := blk_cell R3.out.u
  have zu := lt_of_block R3.out.u
  go_wp2_with fail
  refine (HRO.out w3 A2 c2 R3.out.a.s R3.out.a.t).mono ?_
  rintro e w5 ⟨T, a5, rfl, hTs, ha5, hb5⟩
  obtain rfl : a = a5 := by rw [HA.out, ha5]; exact HEq.out S T HSs.out hTs
  have R5 := Lib.hid (R3.out.below hb5)
  clear hb5 R3 hTs ha5 cx zx cv zv cu zu
  obtain ⟨a1, a2⟩ := a
  (try simp only)
  go_wp2_with fail
  refine (alive34 _).mono ?_
  rintro e w7 ⟨rfl, hb7⟩
  have R7 := Lib.hid (R5.out.below hb7)
  go_wp2_with fail
  go_ret
  exact ⟨rfl, R7.out.a.blw⟩
theorem law_AuditOff (l k K : Int) (r : List Nd) (A : Option Addr) (cap : Nat) (lb : Int) (q : List Nd) (B : Option Addr) (cb : Nat) (W : World) (hS : Sl W W.heap.size encN A r) (hI : ints r) (_ : i64 l) (_ : i64 k) (_ : i64 K) (hm : r.length ≤ maxLen) (_ : (Lit.int IntKind.i64 lb).wf = true) (hSb : Sl W W.heap.size encN B q) (hIb : ints q) (hmb : q.length ≤ maxLen) :
    Calls Tryz.prog 8 #[loadedV l k K A r.length cap, .int .i64 lb, .slice B q.length cb] W fun e W' => e = .returned (.bool true) ∧ Below W.heap.size W W' := by
  by_cases h : goodL l k K r ∧ (1 ≤ lb ∧ lb ≤ 48) ∧ r.length ≤ 60 ∧ q.length ≤ 60
  · obtain ⟨hg, hl, h1, h2⟩ := h
    obtain ⟨n, m, rfl, rfl⟩ := goodL_nat hg.2.2
    obtain ⟨p, rfl⟩ : ∃ p : Nat, lb = p := ⟨lb.toNat, by omega⟩
    by_cases hne : n = p
    · subst hne
      exact law_AuditOff_yes n m k r A cap q B cb W hg (by omega) h1 h2 hS hI hSb hIb
    · exact law_AuditOff_ne n m p k r A cap q B cb W hg (by omega) h1 h2 hne hS hI hSb hIb
  · exact law_AuditOff_no l k K lb r A cap q B cb W h hS hI hSb hIb
end Go.Proofs.YtajhjbiokbgebaaGreat
/- Chapter 34: nil is held against nothing: the law. -/
namespace Go.Proofs.YtajhjbiokbgebaaGreat
open Go.ChangeShapes Go.WideShapes Go.ChangeAt Go.RowKit
set_option linter.unusedVariables false
set_option linter.unusedSimpArgs false
set_option maxRecDepth 100000

def verdict0 : Value := .agg #[.bool false, .bool false, .bool false, .bool false, .bool false, .int .i64 0, .int .i64 0, .int .i64 0]
theorem audit_Check_err (w : World) (dv bv : Value) (c : Int) (hc : c ≠ 0) (h : Calls Tryz.prog 96 #[dv, bv] w fun e w' => e = .returned (.int .i64 c) ∧ Below w.heap.size w w') (hA : ∀ o, Calls Tryz.prog 96 #[dv, bv] (w.alloc o) fun e w' => e = .returned (.int .i64 c) ∧ Below (w.alloc o).heap.size (w.alloc o) w') :
    Calls Tryz.prog 45 #[dv, bv] w fun e w' => e = .returned (.tuple #[verdict0, .int .i64 c]) ∧ Below w.heap.size w w' := by
  have H := Lib.hid (fun o => audit_Off_err (w.alloc o) dv bv c hc (hA o))
  have hc' : (c == 0) = false := by simpa using hc
  unfold verdict0
  clear h hc hA
  have X0 : Hid ((w.alloc (.cells #[.bool false, .bool false, .bool false, .bool false, .bool false, .int .i64 0, .int .i64 0, .int .i64 0] 87)).heap[w.heap.size]? = some (.cells #[.bool false, .bool false, .bool false, .bool false, .bool false, .int .i64 0, .int .i64 0, .int .i64 0] 87 (0, 0))) := Lib.hid (heap_alloc_new w _)
  go_enter Tryz.func45, Tryz.ntmps45
  go_wp2_with fail
  refine (H.out _).mono ?_
  rintro e w1 ⟨rfl, hb1⟩
  have Y0 := Lib.hid (blk_below X0.out hb1)
  have c0 := blk_cell Y0.out
  have f0 := blk_frozen Y0.out
  have z0 := lt_of_block Y0.out
  have B1 := Lib.hid (Below.then_ (show Below w.heap.size w (w.alloc (.cells #[.bool false, .bool false, .bool false, .bool false, .bool false, .int .i64 0, .int .i64 0, .int .i64 0] 87)) from (by repeat (first | with_reducible exact Below.refl _ _ | with_reducible assumption | ((with_reducible refine Below.setCell ?_ ?_ _); rotate_left; · (first | omega | exact Nat.le_refl _ | (simp <;> omega))) | (with_reducible refine Below.allocW ?_ _) | (with_reducible refine Below.drew ?_) | (with_reducible refine Below.extW ?_ _)))) hb1)
  clear hb1
  have B2 := Lib.hid ((((((((B1.out.setCell (p := ⟨w.heap.size, 0, none⟩) (by simp) (.bool false)).setCell (p := ⟨w.heap.size, 1, none⟩) (by simp) (.bool false)).setCell (p := ⟨w.heap.size, 2, none⟩) (by simp) (.bool false)).setCell (p := ⟨w.heap.size, 3, none⟩) (by simp) (.bool false)).setCell (p := ⟨w.heap.size, 4, none⟩) (by simp) (.bool false)).setCell (p := ⟨w.heap.size, 5, none⟩) (by simp) (.int .i64 0)).setCell (p := ⟨w.heap.size, 6, none⟩) (by simp) (.int .i64 0)).setCell (p := ⟨w.heap.size, 7, none⟩) (by simp) (.int .i64 0))
  go_wp2_with fail
  exact bodyPost_ret (v := .tuple #[.agg #[.bool false, .bool false, .bool false, .bool false, .bool false, .int .i64 0, .int .i64 0, .int .i64 0], .int .i64 c]) (by simp only [results, Tryz.results45]; go_simp) rfl ⟨rfl, B2.out⟩
@[go_sem] theorem eq_verdict0 (w : World) : (Op.equalIn 10000 87 (.agg #[.bool false, .bool false, .bool false, .bool false, .bool false, .int .i64 0, .int .i64 0, .int .i64 0]) (.agg #[.bool false, .bool false, .bool false, .bool false, .bool false, .int .i64 0, .int .i64 0, .int .i64 0])).run Tryz.prog w = .ok true w := by kernel_rfl
theorem wrong_d (b : Option Addr) : ∀ w : World, Calls Tryz.prog 96 #[.pointer none, .pointer b] w fun e w' => e = .returned (.int .i64 1) ∧ Below w.heap.size w w' := fun w => audit_wrong_d w b
theorem wrong_b (p : Option Nat) : ∀ w : World, Calls Tryz.prog 96 #[.pointer (p.map fun g => ⟨g, 0, none⟩), .pointer none] w fun e w' => e = .returned (.int .i64 1) ∧ Below w.heap.size w w' := fun w => by
  cases p with
  | none => exact audit_wrong_d w none
  | some g => exact audit_wrong_b w g
set_option maxHeartbeats 4000000 in
theorem law_AuditNobody_at (w : World) (l k K : Int) (A : Option Addr) (n cap : Nat)
    (h : ∀ W : World, Below w.heap.size w W → Calls Tryz.prog 26 #[loadedV l k K A n cap] W fun e w' => (∃ (p : Option Nat) (dl dk : Int) (dA : Option Addr) (dn dcap : Nat), e = .returned (.tuple #[.pointer (p.map fun g => ⟨g, 0, none⟩), .agg #[.int .i64 dk, .int .i64 dl, .slice dA dn dcap]])) ∧ Below W.heap.size W w') :
    Calls Tryz.prog 9 #[loadedV l k K A n cap] w fun e w' => e = .returned (.bool true) ∧ Below w.heap.size w w' := by
  have HL := Lib.hid h
  have HM := Lib.hid (fun W => law10_Made W 4 none 0 [] (by decide) .nil (by intro x hx; simp at hx) (by simp))
  rw [show madeB 4 [] = [] from rfl] at HM
  unfold bagV at HM
  have X0 : Hid ((w.alloc (.cells #[.int .i64 l, .int .i64 k, .int .i64 K, .slice A n cap] 48)).heap[w.heap.size]? = some (.cells #[.int .i64 l, .int .i64 k, .int .i64 K, .slice A n cap] 48 (0, 0))) := Lib.hid (heap_alloc_new w _)
  have BW0 : Hid (Below w.heap.size w (w.alloc (.cells #[.int .i64 l, .int .i64 k, .int .i64 K, .slice A n cap] 48))) := Lib.hid (by repeat (first | with_reducible exact Below.refl _ _ | with_reducible assumption | ((with_reducible refine Below.setCell ?_ ?_ _); rotate_left; · (first | omega | exact Nat.le_refl _ | (simp <;> omega))) | (with_reducible refine Below.allocW ?_ _) | (with_reducible refine Below.drew ?_) | (with_reducible refine Below.extW ?_ _)))
  unfold loadedV at HL ⊢
  clear h
  go_enter Tryz.func9, Tryz.ntmps9
  go_upto_region 1 with fail
  generalize w.alloc (.cells #[.int .i64 l, .int .i64 k, .int .i64 K, .slice A n cap] 48) = W0 at X0 BW0 ⊢
  have cx := blk_cell X0.out
  have zx := lt_of_block X0.out
  go_wp2_with fail
  refine (HL.out W0 BW0.out).mono ?_
  rintro e w1 ⟨⟨p, dl, dk, dA, dn, dcap, rfl⟩, hb1⟩
  have B1 := Lib.hid ((Below.then_ BW0.out hb1).alloc (Below.then_ BW0.out hb1).size (.cells #[.int .i64 dk, .int .i64 dl, .slice dA dn dcap] 63))
  generalize hp : (p.map fun g => (⟨g, 0, none⟩ : Addr)) = q
  have HP : Hid (∀ w : World, Calls Tryz.prog 96 #[.pointer q, .pointer none] w fun e w' => e = .returned (.int .i64 1) ∧ Below w.heap.size w w') := Lib.hid (hp ▸ wrong_b p)
  clear hb1 hp cx zx X0 BW0 HL
  go_upto_region 2 with fail
  generalize w1.alloc (.cells #[.int .i64 dk, .int .i64 dl, .slice dA dn dcap] 63) = w2 at B1 ⊢
  go_wp2_with fail
  refine (HM.out w2).mono ?_
  rintro e w3 ⟨g, A', cap', rfl, _, _, hb3⟩
  have B3 := Lib.hid ((Below.then_ B1.out hb3).alloc (Below.then_ B1.out hb3).size (.cells #[.int .i64 4, .slice A' ([] : List Nd).length cap'] 31))
  clear hb3 HM
  go_upto_region 3 with fail
  generalize w3.alloc (.cells #[.int .i64 4, .slice A' ([] : List Nd).length cap'] 31) = w4 at B3 ⊢
  go_wp2_with fail
  refine (audit_Stands_err w4 (.pointer none) (.pointer (some ⟨g, 0, none⟩)) 1 (by decide) (wrong_d _ w4)).mono ?_
  rintro e w5 ⟨rfl, hb5⟩
  have B5 := Lib.hid (Below.then_ B3.out hb5)
  clear hb5
  go_wp2_with fail
  refine (audit_Culprit_err w5 (.pointer q) (.pointer none) 1 (by decide) (HP.out w5)).mono ?_
  rintro e w6 ⟨rfl, hb6⟩
  have B6 := Lib.hid (Below.then_ B5.out hb6)
  clear hb6
  go_wp2_with fail
  refine (audit_Off_err w6 (.pointer none) (.pointer none) 1 (by decide) (wrong_d _ w6)).mono ?_
  rintro e w7 ⟨rfl, hb7⟩
  have B7 := Lib.hid (Below.then_ B6.out hb7)
  clear hb7
  go_wp2_with fail
  refine (audit_Check_err w7 (.pointer q) (.pointer none) 1 (by decide) (HP.out w7) (fun o => HP.out _)).mono ?_
  rintro e w8 ⟨rfl, hb8⟩
  have B8 := Lib.hid (Below.then_ B7.out hb8)
  unfold verdict0
  have X8 := Lib.hid (heap_alloc_new w8 (.cells #[.bool false, .bool false, .bool false, .bool false, .bool false, .int .i64 0, .int .i64 0, .int .i64 0] 87))
  have B9 := Lib.hid (B8.out.alloc B8.out.size (.cells #[.bool false, .bool false, .bool false, .bool false, .bool false, .int .i64 0, .int .i64 0, .int .i64 0] 87))
  clear hb8
  go_upto_region 7 with fail
  obtain ⟨xb, hxb⟩ : ∃ xb, xb = w8.heap.size := ⟨_, rfl⟩
  rw [← hxb] at X8 ⊢
  generalize w8.alloc (.cells #[.bool false, .bool false, .bool false, .bool false, .bool false, .int .i64 0, .int .i64 0, .int .i64 0] 87) = w9 at X8 B9 ⊢
  have c9 := blk_cell X8.out
  have z9 := lt_of_block X8.out
  clear hxb
  go_wp2_with fail
  refine (alive34 _).mono ?_
  rintro e wA ⟨rfl, hbA⟩
  have BA := Lib.hid (Below.then_ B9.out hbA)
  go_wp2_with fail
  go_ret
  exact ⟨rfl, BA.out⟩
theorem law_AuditNobody (l k K : Int) (r : List Nd) (A : Option Addr) (cap : Nat) (W : World) (hS : Sl W W.heap.size encN A r) (hI : ints r) (_ : i64 l) (_ : i64 k) (_ : i64 K) (hm : r.length ≤ maxLen) :
    Calls Tryz.prog 9 #[loadedV l k K A r.length cap] W fun e W' => e = .returned (.bool true) ∧ Below W.heap.size W W' := by
  refine law_AuditNobody_at W l k K A r.length cap fun w hb => ?_
  have hS' := hS.keep (B' := w.heap.size) hb.size fun p hp => hb.cell hp
  by_cases h : goodL l k K r
  · obtain ⟨n, m, rfl, rfl⟩ := goodL_nat h.2.2
    refine (law16_Load w n m k A cap r h hS' hI).mono ?_
    rintro e w' ⟨g, F, rfl, _, _, hb'⟩
    exact ⟨⟨some g, _, _, _, _, _, rfl⟩, hb'⟩
  · refine (law16_Load_no w l k K A cap r h hS' hI hm).mono ?_
    rintro e w' ⟨rfl, hb'⟩
    exact ⟨⟨none, _, _, _, _, _, rfl⟩, hb'⟩
end Go.Proofs.YtajhjbiokbgebaaGreat
