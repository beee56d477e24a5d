/-
  Texts of this proof, one behind the other: Leaf, BagMake, Ref10, RefBelow, Ref34, Ref34C, Ref34S, AuditHas, Ref10Put, Ref10Of, BagMade, Made10, AuditWrong, AuditCulprit, AuditKeys, AuditStands0, Alive34, Two34, Two34N, Two34B, Two34D, Two34E, Two34A, OpenReads, AuditStandsW, AuditPlain, Alive16, RankRisesW, Tells, RankTellsW, AuditBoundsW.
-/
import Derived.Laws.BitsLemmas
import Derived.Maps.OwnOps
import Derived.Maps.Views
import Derived.Carry
import Derived.Deep.RegionWith
import Derived.Test.YtajhjbiokbgebaaGreatLaidI
import Derived.Test.YtajhjbiokbgebaaGreatShelf
import Derived.Shelf.SlIterI.Nil
import Derived.Maps.OwnSet
import Derived.Test.YtajhjbiokbgebaaGreatP1
import Derived.Test.YtajhjbiokbgebaaGreatP2
import Derived.Test.YtajhjbiokbgebaaGreatP3
import Derived.Test.YtajhjbiokbgebaaGreatP4
/- Leaves: package twig, and the reference of layer 2. -/
set_option linter.unusedSimpArgs false namespace Go.Proofs.YtajhjbiokbgebaaGreat
open Go.ChangeShapes Go.WideShapes Go.ChangeAt Go.RowKit
set_option linter.unusedVariables false
set_option maxRecDepth 100000

/-- Is a number a value of a universe? -/
def isVal (l : Nat) (x : Int) : Bool := decide (0 ≤ x) && decide (x < 2 ^ l)
def leafV (l : Nat) (x : Int) : Value := .tuple #[.int .i64 (if isVal l x = true then 2 ^ l + x else 0), .bool (isVal l x)]
theorem leafV_yes {l : Nat} {x : Int} (h : isVal l x = true) : leafV l x = .tuple #[.int .i64 (2 ^ l + x), .bool true] := by unfold leafV; rw [h]; rfl
theorem leafV_no {l : Nat} {x : Int} (h : isVal l x = false) : leafV l x = .tuple #[.int .i64 0, .bool false] := by unfold leafV; rw [h]; rfl
theorem or_leaf {l : Nat} (h : l ≤ 48) {x : Int} (h0 : 0 ≤ x) (h1 : x < 2 ^ l) : bits .or .i64 (2 ^ l) x = 2 ^ l + x := by
  have p1 := pow_48 h
  have p2 := pow_pos' l
  exact bits_join .i64 63 (by decide) (fun n h0 h1 => by rw [IntKind.wrap_i64]; omega) l (2 ^ l) x (by omega) (Int.emod_self) (by omega) h0 h1 (by omega)
theorem twig_Leaf (w : World) (l : Nat) (x : Int) (h1 : 1 ≤ l) (h2 : l ≤ 48) : Calls Tryz.prog 126 #[.int .i64 l, .int .i64 x] w fun e w' => e = .returned (leafV l x) ∧ Below w.heap.size w w' := by
  have p1 := pow_48 h2
  have p2 := pow_pos' l
  have HU := Lib.hid (show decide (1 ≤ (l : Int) ∧ (l : Int) ≤ 48) = true by simp; omega)
  have l1 : (1 : Int) ≤ (l : Int) := by omega
  have l2 : (l : Int) ≤ 48 := by omega
  by_cases hx0 : x < 0
  · rw [leafV_no (by unfold isVal; simp; omega)]
    go_enter Tryz.func126, Tryz.ntmps126
    go_wp2_with fail
    refine (universe_ _ _).mono ?_
    rintro e w1 ⟨rfl, hb1⟩
    have B1 : Below w.heap.size w w1 := Below.then_ (by repeat (first | with_reducible exact Below.refl _ _ | with_reducible assumption | ((with_reducible refine Below.setCell ?_ ?_ _); rotate_left; · (first | omega | exact Nat.le_refl _ | (simp <;> omega))) | (with_reducible refine Below.allocW ?_ _) | (with_reducible refine Below.drew ?_) | (with_reducible refine Below.extW ?_ _))) hb1
    have s1 : w.heap.size ≤ w1.heap.size := B1.size
    rw [HU.out]
    go_wp2_with fail
    go_ret2
    exact ⟨rfl, B1⟩
  · have k0 : decide (x < 0) = false := by simpa using hx0
    by_cases hx1 : x < 2 ^ l
    · rw [leafV_yes (by unfold isVal; simp; omega)]
      have HO := Lib.hid (or_leaf h2 (show 0 ≤ x by omega) hx1)
      have k1 : decide ((2 : Int) ^ l ≤ x) = false := by simp; omega
      go_enter Tryz.func126, Tryz.ntmps126
      go_wp2_with fail
      refine (universe_ _ _).mono ?_
      rintro e w1 ⟨rfl, hb1⟩
      have B1 : Below w.heap.size w w1 := Below.then_ (by repeat (first | with_reducible exact Below.refl _ _ | with_reducible assumption | ((with_reducible refine Below.setCell ?_ ?_ _); rotate_left; · (first | omega | exact Nat.le_refl _ | (simp <;> omega))) | (with_reducible refine Below.allocW ?_ _) | (with_reducible refine Below.drew ?_) | (with_reducible refine Below.extW ?_ _))) hb1
      have s1 : w.heap.size ≤ w1.heap.size := B1.size
      rw [HU.out]
      go_wp2_with fail
      go_ret2
      exact ⟨by simp [HO.out], B1⟩
    · rw [leafV_no (by unfold isVal; simp; omega)]
      have k1 : decide ((2 : Int) ^ l ≤ x) = true := by simp; omega
      go_enter Tryz.func126, Tryz.ntmps126
      go_wp2_with fail
      refine (universe_ _ _).mono ?_
      rintro e w1 ⟨rfl, hb1⟩
      have B1 : Below w.heap.size w w1 := Below.then_ (by repeat (first | with_reducible exact Below.refl _ _ | with_reducible assumption | ((with_reducible refine Below.setCell ?_ ?_ _); rotate_left; · (first | omega | exact Nat.le_refl _ | (simp <;> omega))) | (with_reducible refine Below.allocW ?_ _) | (with_reducible refine Below.drew ?_) | (with_reducible refine Below.extW ?_ _))) hb1
      have s1 : w.heap.size ≤ w1.heap.size := B1.size
      rw [HU.out]
      go_wp2_with fail
      go_ret2
      exact ⟨rfl, B1⟩
theorem ref2_Leaf (w : World) (l : Nat) (x : Int) (h1 : 1 ≤ l) (h2 : l ≤ 48) : Calls Tryz.prog 139 #[.int .i64 l, .int .i64 x] w fun e w' => e = .returned (leafV l x) ∧ Below w.heap.size w w' := by
  have p1 := pow_48 h2
  have p2 := pow_pos' l
  have HU := Lib.hid (show decide (1 ≤ (l : Int) ∧ (l : Int) ≤ 48) = true by simp; omega)
  have HP := Lib.hid (ref2_Power · l (by omega))
  by_cases hx0 : x < 0
  · rw [leafV_no (by unfold isVal; simp; omega)]
    go_enter Tryz.func139, Tryz.ntmps139
    go_wp2_with fail
    refine (ref2_Is _ _).mono ?_
    rintro e w1 ⟨rfl, hb1⟩
    have B1 : Below w.heap.size w w1 := Below.then_ (by repeat (first | with_reducible exact Below.refl _ _ | with_reducible assumption | ((with_reducible refine Below.setCell ?_ ?_ _); rotate_left; · (first | omega | exact Nat.le_refl _ | (simp <;> omega))) | (with_reducible refine Below.allocW ?_ _) | (with_reducible refine Below.drew ?_) | (with_reducible refine Below.extW ?_ _))) hb1
    have s1 : w.heap.size ≤ w1.heap.size := B1.size
    rw [HU.out]
    go_wp2_with fail
    go_ret2
    exact ⟨rfl, B1⟩
  · have k0 : decide (x < 0) = false := by simpa using hx0
    by_cases hx1 : x < 2 ^ l
    · rw [leafV_yes (by unfold isVal; simp; omega)]
      have k1 : decide ((2 : Int) ^ l ≤ x) = false := by simp; omega
      go_enter Tryz.func139, Tryz.ntmps139
      go_wp2_with fail
      refine (ref2_Is _ _).mono ?_
      rintro e w1 ⟨rfl, hb1⟩
      have B1 : Below w.heap.size w w1 := Below.then_ (by repeat (first | with_reducible exact Below.refl _ _ | with_reducible assumption | ((with_reducible refine Below.setCell ?_ ?_ _); rotate_left; · (first | omega | exact Nat.le_refl _ | (simp <;> omega))) | (with_reducible refine Below.allocW ?_ _) | (with_reducible refine Below.drew ?_) | (with_reducible refine Below.extW ?_ _))) hb1
      have s1 : w.heap.size ≤ w1.heap.size := B1.size
      rw [HU.out]
      go_wp2_with fail
      refine (HP.out _).mono ?_
      rintro e w2 ⟨rfl, hb2⟩
      have B2 : Below w.heap.size w w2 := Below.then_ (by repeat (first | with_reducible exact Below.refl _ _ | with_reducible assumption | ((with_reducible refine Below.setCell ?_ ?_ _); rotate_left; · (first | omega | exact Nat.le_refl _ | (simp <;> omega))) | (with_reducible refine Below.allocW ?_ _) | (with_reducible refine Below.drew ?_) | (with_reducible refine Below.extW ?_ _))) hb2
      have s2 : w.heap.size ≤ w2.heap.size := B2.size
      go_wp2_with fail
      refine (HP.out _).mono ?_
      rintro e w3 ⟨rfl, hb3⟩
      have B3 : Below w.heap.size w w3 := Below.then_ (by repeat (first | with_reducible exact Below.refl _ _ | with_reducible assumption | ((with_reducible refine Below.setCell ?_ ?_ _); rotate_left; · (first | omega | exact Nat.le_refl _ | (simp <;> omega))) | (with_reducible refine Below.allocW ?_ _) | (with_reducible refine Below.drew ?_) | (with_reducible refine Below.extW ?_ _))) hb3
      have s3 : w.heap.size ≤ w3.heap.size := B3.size
      go_wp2_with fail
      go_ret2
      exact ⟨rfl, B3⟩
    · rw [leafV_no (by unfold isVal; simp; omega)]
      have k1 : decide ((2 : Int) ^ l ≤ x) = true := by simp; omega
      go_enter Tryz.func139, Tryz.ntmps139
      go_wp2_with fail
      refine (ref2_Is _ _).mono ?_
      rintro e w1 ⟨rfl, hb1⟩
      have B1 : Below w.heap.size w w1 := Below.then_ (by repeat (first | with_reducible exact Below.refl _ _ | with_reducible assumption | ((with_reducible refine Below.setCell ?_ ?_ _); rotate_left; · (first | omega | exact Nat.le_refl _ | (simp <;> omega))) | (with_reducible refine Below.allocW ?_ _) | (with_reducible refine Below.drew ?_) | (with_reducible refine Below.extW ?_ _))) hb1
      have s1 : w.heap.size ≤ w1.heap.size := B1.size
      rw [HU.out]
      go_wp2_with fail
      refine (HP.out _).mono ?_
      rintro e w2 ⟨rfl, hb2⟩
      have B2 : Below w.heap.size w w2 := Below.then_ (by repeat (first | with_reducible exact Below.refl _ _ | with_reducible assumption | ((with_reducible refine Below.setCell ?_ ?_ _); rotate_left; · (first | omega | exact Nat.le_refl _ | (simp <;> omega))) | (with_reducible refine Below.allocW ?_ _) | (with_reducible refine Below.drew ?_) | (with_reducible refine Below.extW ?_ _))) hb2
      have s2 : w.heap.size ≤ w2.heap.size := B2.size
      go_wp2_with fail
      go_ret2
      exact ⟨rfl, B2⟩
end Go.Proofs.YtajhjbiokbgebaaGreat
/- Package bag: Add. -/
namespace Go.Proofs.YtajhjbiokbgebaaGreat
open Go.ChangeShapes Go.WideShapes Go.ChangeAt Go.RowKit
set_option linter.unusedVariables false
set_option linter.unusedSimpArgs false
set_option maxRecDepth 100000

/-- What Add leaves, and tells. -/
def addB (l : Nat) (m : List Nd) (x c : Int) : List Nd × Int :=
  if isVal l x = false then (m, 3) else if c < 1 then (m, 4) else if 72057594037927935 < sumR m + c then (m, 5) else (addR m x c, 0)
theorem BagL.addB {l : Nat} {m : List Nd} (h : BagL l m) (x c : Int) : BagL l (addB l m x c).1 := by
  unfold Go.Proofs.YtajhjbiokbgebaaGreat.addB
  split
  · exact h
  · rename_i hv
    split
    · exact h
    · split
      · exact h
      · have hv' : 0 ≤ x ∧ x < 2 ^ l := by simpa [isVal] using hv
        exact h.add hv'.1 hv'.2 (by omega) (by omega)
theorem addR_len (m : List Nd) (x c : Int) : (addR m x c).length ≤ m.length + 1 := by
  induction m with
  | nil => simp [addR]
  | cons z m ih => simp only [addR]; split <;> (try split) <;> simp <;> omega
theorem addB_len (l : Nat) (m : List Nd) (x c : Int) : (addB l m x c).1.length ≤ m.length + 1 := by
  unfold addB
  have := addR_len m x c
  split
  · simp
  · split
    · simp
    · split <;> simp <;> omega
theorem bag_room (w : World) (base g : Nat) (l : Int) (m : List Nd) (c : Int) (h : BagAt w base g l m) (h0 : 0 ≤ sumR m) (h1 : sumR m ≤ 72057594037927935) (hc : 1 ≤ c) (hc2 : c ≤ 9223372036854775807) :
    Calls Tryz.prog 127 #[.pointer (some ⟨g, 0, none⟩), .int .i64 c] w fun e w' => e = .returned (.bool (decide (sumR m + c ≤ 72057594037927935))) ∧ Below w.heap.size w w' := by
  obtain ⟨v, hh, _⟩ := h
  have c0 := blk_cell hh
  have z := lt_of_block hh
  clear hh
  obtain ⟨n, hn⟩ : ∃ n, n = sumR m := ⟨_, rfl⟩
  rw [← hn] at h0 h1 c0 ⊢
  clear hn
  have HA := Lib.hid (fun W => reckon_Add W n c (by omega) hc2)
  by_cases ho : n + c ≤ 9223372036854775807
  · have e1 : addOf n c = (n + c, true) := by unfold addOf; rw [if_pos (by omega)]
    rw [e1] at HA
    unfold okV at HA
    go_enter Tryz.func127, Tryz.ntmps127
    go_wp2_with fail
    refine (HA.out _).mono ?_
    rintro e w1 ⟨rfl, hb1⟩
    go_wp2_with fail
    go_ret
    exact ⟨rfl, hb1⟩
  · have e1 : addOf n c = (0, false) := by unfold addOf; rw [if_neg (by omega)]
    rw [e1] at HA
    unfold okV at HA
    rw [decide_eq_false (by omega : ¬ n + c ≤ 72057594037927935)]
    clear ho e1 hc hc2 h0 h1
    go_enter Tryz.func127, Tryz.ntmps127
    go_wp2_with fail
    refine (HA.out _).mono ?_
    rintro e w1 ⟨rfl, hb1⟩
    go_wp2_with fail
    go_ret
    exact ⟨rfl, hb1⟩
theorem bag_Add (w : World) (base g l : Nat) (m : List Nd) (x c : Int) (hl : 1 ≤ l ∧ l ≤ 48) (h : BagAt w base g l m) (hm : BagL l m) (hc2 : c ≤ 9223372036854775807) (hlen : m.length ≤ 65536) (hb : base ≤ w.heap.size) :
    Calls Tryz.prog 53 #[.pointer (some ⟨g, 0, none⟩), .int .i64 x, .int .i64 c] w fun e w' => e = .returned (.int .i64 (addB l m x c).2) ∧ BagAt w' base g l (addB l m x c).1 ∧ Below base w w' := by
  have H := Lib.hid h
  have HM := Lib.hid hm
  have HR := Lib.hid (fun W h h3 => bag_room W base g l m c h hm.sum0 hm.sum h3 hc2)
  have HL := Lib.hid (fun W => twig_Leaf W l x hl.1 hl.2)
  obtain ⟨v, hh, _⟩ := h
  have c0 := blk_cell hh
  have z := lt_of_block hh
  clear hh hm
  cases hv : isVal l x
  · have e1 : addB l m x c = (m, 3) := by unfold addB; rw [if_pos hv]
    rw [leafV_no hv] at HL
    rw [e1]
    clear e1
    go_enter Tryz.func53, Tryz.ntmps53
    go_wp2_with fail
    refine (HL.out _).mono ?_
    rintro e w1 ⟨rfl, hb1⟩
    go_wp2_with fail
    go_ret
    exact ⟨rfl, H.out.below hb1, hb1.mono hb⟩
  · rw [leafV_yes hv] at HL
    by_cases hc : c < 1
    · have e1 : addB l m x c = (m, 4) := by unfold addB; rw [if_neg (by simp [hv]), if_pos hc]
      rw [e1]
      clear e1
      go_enter Tryz.func53, Tryz.ntmps53
      go_wp2_with fail
      refine (HL.out _).mono ?_
      rintro e w1 ⟨rfl, hb1⟩
      go_wp2_with fail
      go_ret
      exact ⟨rfl, H.out.below hb1, hb1.mono hb⟩
    · have hcd : decide (c < 1) = false := by simpa using hc
      by_cases hs : 72057594037927935 < sumR m + c
      · have e1 : addB l m x c = (m, 5) := by unfold addB; rw [if_neg (by simp [hv]), if_neg hc, if_pos hs]
        rw [e1]
        rw [decide_eq_false (by omega : ¬ sumR m + c ≤ 72057594037927935)] at HR
        clear e1
        go_enter Tryz.func53, Tryz.ntmps53
        go_wp2_with fail
        refine (HL.out _).mono ?_
        rintro e w1 ⟨rfl, hb1⟩
        go_wp2_with fail
        refine (HR.out _ (H.out.below hb1) (by omega)).mono ?_
        rintro e w2 ⟨rfl, hb2⟩
        go_wp2_with fail
        go_ret
        exact ⟨rfl, (H.out.below hb1).below hb2, (hb1.mono hb).trans (hb2.mono (Nat.le_trans hb hb1.size))⟩
      · have e1 : addB l m x c = (addR m x c, 0) := by unfold addB; rw [if_neg (by simp [hv]), if_neg hc, if_neg hs]
        rw [e1]
        rw [decide_eq_true (by omega : sumR m + c ≤ 72057594037927935)] at HR
        clear e1
        go_enter Tryz.func53, Tryz.ntmps53
        go_wp2_with fail
        refine (HL.out _).mono ?_
        rintro e w1 ⟨rfl, hb1⟩
        go_wp2_with fail
        refine (HR.out _ (H.out.below hb1) (by omega)).mono ?_
        rintro e w2 ⟨rfl, hb2⟩
        have sz2 : base ≤ w2.heap.size := Nat.le_trans (Nat.le_trans hb hb1.size) hb2.size
        go_wp2_with fail
        refine (bag_put _ base g l m x c ((H.out.below hb1).below hb2) HM.out (by omega) (by omega) hlen sz2).mono ?_
        rintro e w3 ⟨rfl, hB3, hb3⟩
        go_wp2_with fail
        go_ret
        exact ⟨rfl, hB3, ((hb1.mono hb).trans (hb2.mono (Nat.le_trans hb hb1.size))).trans hb3⟩
end Go.Proofs.YtajhjbiokbgebaaGreat
/- Reference 10: bags. -/
namespace Go.Proofs.YtajhjbiokbgebaaGreat
open Go.ChangeShapes Go.WideShapes Go.ChangeAt Go.RowKit
set_option linter.unusedVariables false
set_option linter.unusedSimpArgs false
set_option maxRecDepth 100000

/-- The document's bag. -/
def bagV (l : Int) (A : Option Addr) (n cap : Nat) : Value := .agg #[.int .i64 l, .slice A n cap]
theorem sumV_take {m : List Nd} {q : Nat} (h : q < m.length) : sumR (m.take (q + 1)) = sumR (m.take q) + m[q].2 := by
  rw [List.take_succ_eq_append_getElem h, sumR_append]; simp [sumR]
theorem sumV_take_le {m : List Nd} (h : ∀ x ∈ m, 1 ≤ x.2) (q : Nat) : 0 ≤ sumR (m.take q) ∧ sumR (m.take q) ≤ sumR m := by
  have e1 : sumR m = sumR (m.take q) + sumR (m.drop q) := by rw [← sumR_append, List.take_append_drop]
  have e3 := (sumR_pos (m := m.drop q) fun y hy => h y (List.mem_of_mem_drop hy)).1
  have e4 := (sumR_pos (m := m.take q) fun y hy => h y (List.mem_of_mem_take hy)).1
  omega
theorem ref10_Total (w : World) (l : Int) (A : Option Addr) (cap : Nat) (m : List Nd) (hS : Sl w w.heap.size encN A m) (hv : ∀ x ∈ m, 1 ≤ x.2) (hs : sumR m ≤ 72057594037927935) :
    Calls Tryz.prog 48 #[bagV l A m.length cap] w fun e w' => e = .returned (.int .i64 (sumR m)) ∧ Below w.heap.size w w' := by
  have hml : (m.length : Int) ≤ 72057594037927935 := by have := (sumR_pos hv).2; omega
  have HS := Lib.hid hS
  have HV := Lib.hid hv
  clear hS hv
  unfold bagV
  have X0 : Hid ((w.alloc (.cells #[.int .i64 l, .slice A m.length cap] 31)).heap[w.heap.size]? = some (.cells #[.int .i64 l, .slice A m.length cap] 31 (0, 0))) := Lib.hid (heap_alloc_new w _)
  go_enter Tryz.func48, Tryz.ntmps48
  go_wp2_with fail
  go_loopw [3, 4] (fun n j wr => ∃ q : Nat, q ≤ m.length ∧ j = .int .i64 q ∧ n = .int .i64 (sumR (m.take q)) ∧ wr.heap[w.heap.size]? = some (.cells #[.int .i64 l, .slice A m.length cap] 31 (0, 0)) ∧ Below w.heap.size w wr) (fun _ j _ => m.length - (intOf j).toNat)
  case atStart => exact ⟨0, Nat.zero_le _, rfl, rfl, X0.out, (by repeat (first | with_reducible exact Below.refl _ _ | with_reducible assumption | ((with_reducible refine Below.setCell ?_ ?_ _); rotate_left; · (first | omega | exact Nat.le_refl _ | (simp <;> omega))) | (with_reducible refine Below.allocW ?_ _) | (with_reducible refine Below.drew ?_) | (with_reducible refine Below.extW ?_ _)))⟩
  case round =>
    obtain ⟨q, hq, rfl, rfl, hX, hB⟩ := hrel
    have c0 : wr.cell? ⟨w.heap.size, 1, none⟩ = some (.slice A m.length cap) := by rw [blk_cell hX]; rfl
    have z0 := lt_of_block hX
    have HX := Lib.hid hX
    clear hX
    by_cases hlt : q < m.length
    · have hE := Lib.hid (sumV_take hlt)
      obtain ⟨b, off, rfl, hb, hc⟩ := HS.out.at_ hlt
      have d0 := (hB.cell (p := ⟨b, off + q * 2 + 1, none⟩) hb).trans (hc 1 (.int .i64 m[q].2) rfl)
      have lb : b < wr.heap.size := Nat.lt_of_lt_of_le hb hB.size
      have v1 := HV.out _ (List.getElem_mem hlt)
      have s0 := (sumV_take_le HV.out q).1
      have s1 := (sumV_take_le HV.out (q + 1)).2
      rw [hE.out] at s1
      obtain ⟨c, hc1⟩ : ∃ c, c = m[q].2 := ⟨_, rfl⟩
      rw [← hc1] at d0 v1 s1 hE
      obtain ⟨n, hn⟩ : ∃ n, n = sumR (m.take q) := ⟨_, rfl⟩
      rw [← hn] at s0 s1 hE ⊢
      have hsum : n + c ≤ 72057594037927935 := by omega
      clear hc s1 hn
      go_wp2_with fail
      go_roundw
      case rel => exact ⟨q + 1, by omega, by go_num, by (rw [hE.out]; try go_num), HX.out, hB⟩
      case measure => simp [intOf]; omega
    · obtain rfl : q = m.length := by omega
      rw [List.take_length]
      go_wp2_with fail
      go_ret
      exact ⟨rfl, hB⟩
theorem betwB_take {m : List Nd} {q : Nat} (h : q < m.length) (x y : Int) : betwB (m.take (q + 1)) x y = betwB (m.take q) x y + if x ≤ m[q].1 ∧ m[q].1 ≤ y then m[q].2 else 0 := by
  rw [List.take_succ_eq_append_getElem h, betwB_append, betwB_one]
theorem ref10_Between (w : World) (l : Int) (A : Option Addr) (cap : Nat) (m : List Nd) (x y : Int) (hS : Sl w w.heap.size encN A m) (hv : ∀ x ∈ m, 1 ≤ x.2) (hs : sumR m ≤ 72057594037927935) :
    Calls Tryz.prog 65 #[bagV l A m.length cap, .int .i64 x, .int .i64 y] w fun e w' => e = .returned (.int .i64 (betwB m x y)) ∧ Below w.heap.size w w' := by
  have hml : (m.length : Int) ≤ 72057594037927935 := by have := (sumR_pos hv).2; omega
  have HS := Lib.hid hS
  have HV := Lib.hid hv
  clear hS hv
  unfold bagV
  have X0 : Hid ((w.alloc (.cells #[.int .i64 l, .slice A m.length cap] 31)).heap[w.heap.size]? = some (.cells #[.int .i64 l, .slice A m.length cap] 31 (0, 0))) := Lib.hid (heap_alloc_new w _)
  go_enter Tryz.func65, Tryz.ntmps65
  go_wp2_with fail
  go_loopw [7, 8] (fun n j wr => ∃ q : Nat, q ≤ m.length ∧ j = .int .i64 q ∧ n = .int .i64 (betwB (m.take q) x y) ∧ wr.heap[w.heap.size]? = some (.cells #[.int .i64 l, .slice A m.length cap] 31 (0, 0)) ∧ Below w.heap.size w wr) (fun _ j _ => m.length - (intOf j).toNat)
  case atStart => exact ⟨0, Nat.zero_le _, rfl, rfl, X0.out, (by repeat (first | with_reducible exact Below.refl _ _ | with_reducible assumption | ((with_reducible refine Below.setCell ?_ ?_ _); rotate_left; · (first | omega | exact Nat.le_refl _ | (simp <;> omega))) | (with_reducible refine Below.allocW ?_ _) | (with_reducible refine Below.drew ?_) | (with_reducible refine Below.extW ?_ _)))⟩
  case round =>
    obtain ⟨q, hq, rfl, rfl, hX, hB⟩ := hrel
    have c0 : wr.cell? ⟨w.heap.size, 1, none⟩ = some (.slice A m.length cap) := by rw [blk_cell hX]; rfl
    have z0 := lt_of_block hX
    have HX := Lib.hid hX
    clear hX
    by_cases hlt : q < m.length
    · have hE := Lib.hid (betwB_take hlt x y)
      obtain ⟨b, off, rfl, hb, hc⟩ := HS.out.at_ hlt
      have d0 := (hB.cell (p := ⟨b, off + q * 2 + 1, none⟩) hb).trans (hc 1 (.int .i64 m[q].2) rfl)
      have d1 := (hB.cell (p := ⟨b, off + q * 2, none⟩) hb).trans (by have := hc 0 (.int .i64 m[q].1) rfl; simpa using this)
      have lb : b < wr.heap.size := Nat.lt_of_lt_of_le hb hB.size
      have v1 := HV.out _ (List.getElem_mem hlt)
      have s0 := (betwB_le (m := m.take q) (fun u hu => HV.out u (List.mem_of_mem_take hu)) x y)
      have s1 := (sumV_take_le HV.out (q + 1)).2
      rw [sumV_take hlt] at s1
      obtain ⟨c, hc1⟩ : ∃ c, c = m[q].2 := ⟨_, rfl⟩
      obtain ⟨v, hv1⟩ : ∃ v, v = m[q].1 := ⟨_, rfl⟩
      rw [← hc1] at d0 v1 s1 hE
      rw [← hv1] at d1 hE
      obtain ⟨n, hn⟩ : ∃ n, n = betwB (m.take q) x y := ⟨_, rfl⟩
      rw [← hn] at s0 hE ⊢
      have n0 := s0.1
      have hsum : n + c ≤ 72057594037927935 := by have := s0.2; omega
      clear hc s0 s1 hn hc1 hv1
      by_cases k1 : x ≤ v
      · by_cases k2 : v ≤ y
        · rw [if_pos ⟨k1, k2⟩] at hE
          go_wp2_with fail
          go_roundw
          case rel => exact ⟨q + 1, by omega, by go_num, by (rw [hE.out]; try go_num), HX.out, hB⟩
          case measure => simp [intOf]; omega
        · rw [if_neg (by omega)] at hE
          have k2' : decide (v ≤ y) = false := by simpa using k2
          go_wp2_with fail
          go_roundw
          case rel => exact ⟨q + 1, by omega, by go_num, by rw [hE.out, Int.add_zero], HX.out, hB⟩
          case measure => simp [intOf]; omega
      · rw [if_neg (by omega)] at hE
        have k1' : decide (x ≤ v) = false := by simpa using k1
        go_wp2_with fail
        go_roundw
        case rel => exact ⟨q + 1, by omega, by go_num, by rw [hE.out, Int.add_zero], HX.out, hB⟩
        case measure => simp [intOf]; omega
    · obtain rfl : q = m.length := by omega
      rw [List.take_length]
      go_wp2_with fail
      go_ret
      exact ⟨rfl, hB⟩
theorem ref10_Rank (w : World) (l : Int) (A : Option Addr) (cap : Nat) (m : List Nd) (y : Int) (hS : Sl w w.heap.size encN A m) (hv : ∀ x ∈ m, 1 ≤ x.2) (hs : sumR m ≤ 72057594037927935) :
    Calls Tryz.prog 58 #[bagV l A m.length cap, .int .i64 y] w fun e w' => e = .returned (.int .i64 (betwB m 0 y)) ∧ Below w.heap.size w w' := by
  have HC := Lib.hid (fun W h => ref10_Between W l A cap m 0 y h hv hs)
  have BA : Below w.heap.size w (w.alloc (.cells #[.int .i64 l, .slice A m.length cap] 31)) := (by repeat (first | with_reducible exact Below.refl _ _ | with_reducible assumption | ((with_reducible refine Below.setCell ?_ ?_ _); rotate_left; · (first | omega | exact Nat.le_refl _ | (simp <;> omega))) | (with_reducible refine Below.allocW ?_ _) | (with_reducible refine Below.drew ?_) | (with_reducible refine Below.extW ?_ _)))
  have S1 := Lib.hid (hS.keep (B' := (w.alloc (.cells #[.int .i64 l, .slice A m.length cap] 31)).heap.size) BA.size fun p hp => BA.cell hp)
  clear hS hv hs BA
  unfold bagV at HC ⊢
  go_enter Tryz.func58, Tryz.ntmps58
  go_wp2_with fail
  refine (HC.out _ S1.out).mono ?_
  rintro e w1 ⟨rfl, hb1⟩
  have B1 : Below w.heap.size w w1 := Below.then_ (by repeat (first | with_reducible exact Below.refl _ _ | with_reducible assumption | ((with_reducible refine Below.setCell ?_ ?_ _); rotate_left; · (first | omega | exact Nat.le_refl _ | (simp <;> omega))) | (with_reducible refine Below.allocW ?_ _) | (with_reducible refine Below.drew ?_) | (with_reducible refine Below.extW ?_ _))) hb1
  have s1 : w.heap.size ≤ w1.heap.size := B1.size
  have z1_0 : w.heap.size < w1.heap.size := by have := hb1.size; (try simp at this); omega
  have y1_0 : w.heap.size ≤ w1.heap.size := Nat.le_of_lt z1_0
  have c1_0 := fun o => hb1.cell (p := ⟨w.heap.size, o, none⟩) (by first | omega | (simp <;> omega))
  have f1_0 := fun o => hb1.frozen (p := ⟨w.heap.size, o, none⟩) (by first | omega | (simp <;> omega))
  go_wp2_with fail
  go_ret
  exact ⟨rfl, (by repeat (first | with_reducible exact Below.refl _ _ | with_reducible assumption | ((with_reducible refine Below.setCell ?_ ?_ _); rotate_left; · (first | omega | exact Nat.le_refl _ | (simp <;> omega))) | (with_reducible refine Below.allocW ?_ _) | (with_reducible refine Below.drew ?_) | (with_reducible refine Below.extW ?_ _)))⟩
end Go.Proofs.YtajhjbiokbgebaaGreat
/- References 2, 12: Above, Below. -/
namespace Go.Proofs.YtajhjbiokbgebaaGreat
open Go.ChangeShapes Go.WideShapes Go.ChangeAt Go.RowKit
set_option linter.unusedVariables false
set_option linter.unusedSimpArgs false
set_option maxRecDepth 100000

theorem abv_le {p q : Int} (h : abv p q = true) : p ≤ q := by
  simp only [abv, decide_eq_true_eq] at h
  obtain ⟨h1, h2, h3, h4⟩ := h
  have := Nat.div_le_self q.toNat (2 ^ (q.toNat.log2 - p.toNat.log2))
  omega
theorem abv_self {p : Int} (h : 1 ≤ p) : abv p p = true := by simp [abv, h]
theorem abv_pos {p q : Int} (h : abv p q = true) : 1 ≤ p ∧ 1 ≤ q := by
  simp only [abv, decide_eq_true_eq] at h
  exact ⟨h.1, h.2.1⟩
theorem ref2_Above (w : World) (a b : Int) (hb : b ≤ 9223372036854775807) :
    Calls Tryz.prog 240 #[.int .i64 a, .int .i64 b] w fun e w' => e = .returned (.bool (abv a b)) ∧ Below w.heap.size w w' := by
  by_cases ha : a < 1
  · have e1 : abv a b = false := by
      cases h : abv a b
      · rfl
      · have := (abv_pos h).1; omega
    rw [e1]
    clear e1
    go_enter Tryz.func240, Tryz.ntmps240
    go_wp2_with fail
    go_ret
    exact ⟨rfl, Below.refl _ _⟩
  · have ha' : decide (a < 1) = false := by simpa using ha
    obtain ⟨v, hv⟩ : ∃ v, v = abv a b := ⟨_, rfl⟩
    rw [← hv]
    have HV := Lib.hid hv.symm
    clear hv
    go_enter Tryz.func240, Tryz.ntmps240
    go_wp2_with fail
    go_loopw [1] (fun j wr => ∃ q : Int, q ≤ 9223372036854775807 ∧ j = .int .i64 q ∧ abv a q = v ∧ Below w.heap.size w wr) (fun j _ => (intOf j).toNat)
    case atStart => exact ⟨b, hb, rfl, HV.out, Below.refl _ _⟩
    case round =>
      obtain ⟨q, hq, rfl, hE, hB⟩ := hrel
      by_cases hlt : a < q
      · have q1 : 2 ≤ q := by omega
        have hE2 : abv a (q / 2) = v := by
          rw [← hE, Bool.eq_iff_iff, abv_half (by omega : 1 ≤ q)]
          exact ⟨fun h => .inr ⟨q1, h⟩, fun h => h.elim (fun h => by omega) fun h => h.2⟩
        have HE := Lib.hid hE2
        have td : Int.tdiv q 2 = q / 2 := Int.tdiv_eq_ediv_of_nonneg (by omega)
        clear hE hE2
        go_wp2_with fail
        go_roundw
        case rel => exact ⟨q / 2, by omega, by first | rfl | rw [td] | (simp [td]), HE.out, hB⟩
        case measure => simp [intOf, td]; omega
      · have hnl : decide (a < q) = false := by simpa using hlt
        have e1 : (a == q) = v := by
          rw [← hE, Bool.eq_iff_iff, beq_iff_eq]
          exact ⟨fun h => h ▸ abv_self (by omega), fun h => by have := abv_le h; omega⟩
        clear hE
        go_wp2_with fail
        go_ret
        exact ⟨rfl, hB⟩
theorem wIds_take {p : Int → Bool} {m : List Nd} {q : Nat} (h : q < m.length) : wIds p (m.take (q + 1)) = wIds p (m.take q) + if p m[q].1 = true then m[q].2 else 0 := by
  rw [List.take_succ_eq_append_getElem h]
  generalize m.take q = L
  generalize m[q] = z
  induction L with
  | nil => simp [wIds]
  | cons y L ih => simp only [List.cons_append, wIds, ih]; omega
theorem wIds_sum {p : Int → Bool} {r : List Nd} (h : ∀ x ∈ r, 0 ≤ x.2) : wIds p r ≤ sumR r := by
  induction r with
  | nil => simp [wIds, sumR]
  | cons x r ih =>
    have := ih fun y hy => h y (by simp [hy])
    have := h x (by simp)
    simp only [wIds, sumR]
    split <;> omega
theorem ref12_Below (w : World) (l : Int) (A : Option Addr) (cap : Nat) (m : List Nd) (id : Int) (hS : Sl w w.heap.size encN A m) (hI : ints m) (hv : ∀ x ∈ m, 1 ≤ x.2) (hs : sumR m ≤ 72057594037927935) :
    Calls Tryz.prog 182 #[.agg #[.int .i64 l, .slice A m.length cap], .int .i64 id] w fun e w' => e = .returned (.int .i64 (ownN m id)) ∧ Below w.heap.size w w' := by
  have hml : (m.length : Int) ≤ 72057594037927935 := by have := (sumR_pos hv).2; omega
  have HS := Lib.hid hS
  have HV := Lib.hid hv
  have HI := Lib.hid hI
  clear hS hv hI
  have X0 : Hid ((w.alloc (.cells #[.int .i64 l, .slice A m.length cap] 61)).heap[w.heap.size]? = some (.cells #[.int .i64 l, .slice A m.length cap] 61 (0, 0))) := Lib.hid (heap_alloc_new w _)
  unfold ownN
  go_enter Tryz.func182, Tryz.ntmps182
  go_wp2_with fail
  go_loopw [5, 6] (fun n j wr => ∃ q : Nat, q ≤ m.length ∧ j = .int .i64 q ∧ n = .int .i64 (wIds (fun x => abv id x) (m.take q)) ∧ wr.heap[w.heap.size]? = some (.cells #[.int .i64 l, .slice A m.length cap] 61 (0, 0)) ∧ Below w.heap.size w wr) (fun _ j _ => m.length - (intOf j).toNat)
  case atStart => exact ⟨0, Nat.zero_le _, rfl, rfl, X0.out, (by repeat (first | with_reducible exact Below.refl _ _ | with_reducible assumption | ((with_reducible refine Below.setCell ?_ ?_ _); rotate_left; · (first | omega | exact Nat.le_refl _ | (simp <;> omega))) | (with_reducible refine Below.allocW ?_ _) | (with_reducible refine Below.drew ?_) | (with_reducible refine Below.extW ?_ _)))⟩
  case round =>
    obtain ⟨q, hq, rfl, rfl, hX, hB⟩ := hrel
    have c0 : wr.cell? ⟨w.heap.size, 1, none⟩ = some (.slice A m.length cap) := by rw [blk_cell hX]; rfl
    have z0 := lt_of_block hX
    have HX := Lib.hid hX
    clear hX
    by_cases hlt : q < m.length
    · have hE := Lib.hid (wIds_take (p := fun x => abv id x) hlt)
      obtain ⟨b, off, rfl, hb, hc⟩ := HS.out.at_ hlt
      have d0 := (hB.cell (p := ⟨b, off + q * 2 + 1, none⟩) hb).trans (hc 1 (.int .i64 m[q].2) rfl)
      have d1 := (hB.cell (p := ⟨b, off + q * 2, none⟩) hb).trans (by have := hc 0 (.int .i64 m[q].1) rfl; simpa using this)
      have lb : b < wr.heap.size := Nat.lt_of_lt_of_le hb hB.size
      have v1 := HV.out _ (List.getElem_mem hlt)
      have hi := HI.out _ (List.getElem_mem hlt)
      have s0 := wIds_0 (p := fun x => abv id x) (r := m.take q) fun u hu => by have := HV.out u (List.mem_of_mem_take hu); omega
      have s2 := wIds_sum (p := fun x => abv id x) (r := m.take q) fun u hu => by have := HV.out u (List.mem_of_mem_take hu); omega
      have s1 := (sumV_take_le HV.out (q + 1)).2
      rw [sumV_take hlt] at s1
      obtain ⟨c, hc1⟩ : ∃ c, c = m[q].2 := ⟨_, rfl⟩
      obtain ⟨v, hv1⟩ : ∃ v, v = m[q].1 := ⟨_, rfl⟩
      rw [← hc1] at d0 v1 s1
      rw [← hv1] at d1 hi
      have hE2 := hE.out
      rw [← hc1, ← hv1] at hE2
      obtain ⟨n, hn⟩ : ∃ n, n = wIds (fun x => abv id x) (m.take q) := ⟨_, rfl⟩
      rw [← hn] at s0 s2 hE2 ⊢
      have hsum : n + c ≤ 72057594037927935 := by omega
      have HA := Lib.hid (fun W => ref2_Above W id v hi.1.2)
      clear hc s1 s2 hn hc1 hv1 hE hi
      cases k1 : abv id v
      · rw [k1] at HA
        rw [if_neg (by simp [k1]), Int.add_zero] at hE2
        have HE := Lib.hid hE2
        clear hE2
        go_wp2_with fail
        refine (HA.out _).mono ?_
        rintro e w2 ⟨rfl, hb2⟩
        have HX2 := Lib.hid (blk_below HX.out hb2)
        have B2 := Lib.hid (Below.then_ hB hb2)
        clear hb2
        go_wp2_with fail
        go_roundw
        case rel => exact ⟨q + 1, by omega, by go_num, by rw [HE.out], HX2.out, B2.out⟩
        case measure => simp [intOf]; omega
      · rw [k1] at HA
        rw [if_pos k1] at hE2
        have HE := Lib.hid hE2
        clear hE2
        go_wp2_with fail
        refine (HA.out _).mono ?_
        rintro e w2 ⟨rfl, hb2⟩
        have HX2 := Lib.hid (blk_below HX.out hb2)
        have B2 := Lib.hid (Below.then_ hB hb2)
        have c02 : w2.cell? ⟨w.heap.size, 1, none⟩ = some (.slice (some ⟨b, off, none⟩) m.length cap) := by rw [blk_cell HX2.out]; rfl
        have z02 := lt_of_block HX2.out
        have d02 := (hb2.cell (p := ⟨b, off + q * 2 + 1, none⟩) lb).trans d0
        have lb2 : b < w2.heap.size := Nat.lt_of_lt_of_le lb hb2.size
        clear hb2
        go_wp2_with fail
        go_roundw
        case rel => exact ⟨q + 1, by omega, by go_num, by (rw [HE.out]; try go_num), HX2.out, B2.out⟩
        case measure => simp [intOf]; omega
    · obtain rfl : q = m.length := by omega
      rw [List.take_length]
      go_wp2_with fail
      go_ret
      exact ⟨rfl, hB⟩
end Go.Proofs.YtajhjbiokbgebaaGreat
/- Reference 34: culprits. -/
namespace Go.Proofs.YtajhjbiokbgebaaGreat
open Go.ChangeShapes Go.WideShapes Go.ChangeAt Go.RowKit
set_option linter.unusedVariables false
set_option linter.unusedSimpArgs false
set_option maxRecDepth 100000

/-- How much more a node has than it holds. -/
def mrN (l : Int) (r m : List Nd) (id : Int) : Int := ownN r id - betwB m (endsOf l id).1 (endsOf l id).2.1
theorem mrN_bound {l : Int} {r m : List Nd} (hr : ∀ x ∈ r, 1 ≤ x.2) (hm : ∀ x ∈ m, 1 ≤ x.2) (h1 : sumR r ≤ 72057594037927935) (h2 : sumR m ≤ 72057594037927935) (id : Int) : (0 ≤ ownN r id ∧ ownN r id ≤ 72057594037927935) ∧ ∀ a b, 0 ≤ betwB m a b ∧ betwB m a b ≤ 72057594037927935 := by
  refine ⟨⟨wIds_0 fun x hx => by have := hr x hx; omega, ?_⟩, fun a b => ?_⟩
  · have := wIds_sum (p := fun x => abv id x) (r := r) fun x hx => by have := hr x hx; omega
    unfold ownN; omega
  · have := betwB_le hm a b; omega
set_option maxHeartbeats 4000000 in
theorem ref34_more (w : World) (k l : Int) (A B : Option Addr) (ca cb : Nat) (r m : List Nd) (id : Int) (hS : Sl w w.heap.size encN A r) (hSb : Sl w w.heap.size encN B m) (hI : ints r) (hr : ∀ x ∈ r, 1 ≤ x.2) (hm : ∀ x ∈ m, 1 ≤ x.2) (h1 : sumR r ≤ 72057594037927935) (h2 : sumR m ≤ 72057594037927935) (hid : id ≤ 9223372036854775807) :
    Calls Tryz.prog 102 #[.agg #[.int .i64 k, .int .i64 l, .slice A r.length ca], bagV l B m.length cb, .int .i64 id] w fun e w' => e = .returned (.int .i64 (mrN l r m id)) ∧ Below w.heap.size w w' := by
  have HE := Lib.hid (fun W => ref2_Ends W l id hid)
  have HBl := Lib.hid (fun W h => ref12_Below W l A ca r id h hI hr h1)
  have HBt := Lib.hid (fun W a b h => ref10_Between W l B cb m a b h hm h2)
  have HBd := Lib.hid (mrN_bound (l := l) hr hm h1 h2 id)
  have X0 : Hid (((w.alloc (.cells #[.int .i64 k, .int .i64 l, .slice A r.length ca] 63)).alloc (.cells #[.int .i64 l, .slice B m.length cb] 31)).heap[w.heap.size]? = some (.cells #[.int .i64 k, .int .i64 l, .slice A r.length ca] 63 (0, 0))) := Lib.hid ((heap_new_lt _ _ _ (by simp)).trans (heap_alloc_new w _))
  have X1 : Hid (((w.alloc (.cells #[.int .i64 k, .int .i64 l, .slice A r.length ca] 63)).alloc (.cells #[.int .i64 l, .slice B m.length cb] 31)).heap[w.heap.size + 1]? = some (.cells #[.int .i64 l, .slice B m.length cb] 31 (0, 0))) := Lib.hid (heap_new_at (w.alloc _) _ _ (by simp))
  have BW0 : Hid (Below w.heap.size w ((w.alloc (.cells #[.int .i64 k, .int .i64 l, .slice A r.length ca] 63)).alloc (.cells #[.int .i64 l, .slice B m.length cb] 31))) := Lib.hid (by repeat (first | with_reducible exact Below.refl _ _ | with_reducible assumption | ((with_reducible refine Below.setCell ?_ ?_ _); rotate_left; · (first | omega | exact Nat.le_refl _ | (simp <;> omega))) | (with_reducible refine Below.allocW ?_ _) | (with_reducible refine Below.drew ?_) | (with_reducible refine Below.extW ?_ _)))
  have HS := Lib.hid (And.intro hS hSb)
  unfold bagV at HBt ⊢
  unfold mrN
  clear hS hSb hI hr hm h1 h2
  obtain ⟨lo, hi, ok, he⟩ : ∃ lo hi ok, endsOf l id = (lo, hi, ok) := ⟨_, _, _, rfl⟩
  rw [he] at HE ⊢
  unfold endsV at HE
  simp only at HE ⊢
  have b1 := HBd.out.1.1
  have b2 := HBd.out.1.2
  have b3 := (HBd.out.2 lo hi).1
  have b4 := (HBd.out.2 lo hi).2
  have HB2 := Lib.hid (fun W h => HBt.out W lo hi h)
  generalize ownN r id = n1 at HBl b1 b2 ⊢
  generalize betwB m lo hi = n2 at HB2 b3 b4 ⊢
  clear HBt HBd he
  go_enter Tryz.func102, Tryz.ntmps102
  go_upto_region 1 with fail
  generalize (w.alloc (.cells #[.int .i64 k, .int .i64 l, .slice A r.length ca] 63)).alloc (.cells #[.int .i64 l, .slice B m.length cb] 31) = W0 at X0 X1 BW0 ⊢
  have q1 := blk_cell X1.out
  have q2 := lt_of_block X1.out
  go_wp2_with fail
  refine (HE.out _).mono ?_
  rintro e w1 ⟨rfl, hb1⟩
  have Y0 := blk_below X0.out hb1
  have Y1 := blk_below X1.out hb1
  have c0 := blk_cell Y0
  have z0 := lt_of_block Y0
  have c1 := blk_cell Y1
  have z1 := lt_of_block Y1
  have B1 := Lib.hid (Below.then_ BW0.out hb1)
  have S1 := Lib.hid (HS.out.1.keep (B' := w1.heap.size) B1.out.size fun p hp => B1.out.cell hp)
  have S2 := Lib.hid (HS.out.2.keep (B' := w1.heap.size) B1.out.size fun p hp => B1.out.cell hp)
  have hB1 := B1.out
  clear q1 q2 hb1 Y0 Y1 X0 X1
  go_wp2_with fail
  refine wp_region_ext (by kernel_rfl) (by kernel_rfl) ?_
  repeat (go_big_quiet_step (first
    | (go_at_call 182; exact quiet_ext (HBl.out _ (S1.out.keep (ext_below _ _).size fun p hp => (ext_below _ _).cell hp)))
    | (go_at_call 65; exact quiet_ext (HB2.out _ (S2.out.keep (ext_below _ _).size fun p hp => (ext_below _ _).cell hp)))))
  refine wpQuiet_nil ?_
  intro w2 hb2
  replace hb2 := below_of_ext hb2
  have B2 : Below w.heap.size w w2 := Below.then_ (by repeat (first | with_reducible exact Below.refl _ _ | with_reducible assumption | ((with_reducible refine Below.setCell ?_ ?_ _); rotate_left; · (first | omega | exact Nat.le_refl _ | (simp <;> omega))) | (with_reducible refine Below.allocW ?_ _) | (with_reducible refine Below.drew ?_) | (with_reducible refine Below.extW ?_ _))) hb2
  have s2 : w.heap.size ≤ w2.heap.size := B2.size
  have z2_0 : w.heap.size < w2.heap.size := by have := hb2.size; (try simp at this); omega
  have y2_0 : w.heap.size ≤ w2.heap.size := Nat.le_of_lt z2_0
  have c2_0 := fun o => hb2.cell (p := ⟨w.heap.size, o, none⟩) (by first | omega | (simp <;> omega))
  have f2_0 := fun o => hb2.frozen (p := ⟨w.heap.size, o, none⟩) (by first | omega | (simp <;> omega))
  go_wp2_with fail
  go_ret
  exact ⟨rfl, (by repeat (first | with_reducible exact Below.refl _ _ | with_reducible assumption | ((with_reducible refine Below.setCell ?_ ?_ _); rotate_left; · (first | omega | exact Nat.le_refl _ | (simp <;> omega))) | (with_reducible refine Below.allocW ?_ _) | (with_reducible refine Below.drew ?_) | (with_reducible refine Below.extW ?_ _)))⟩
end Go.Proofs.YtajhjbiokbgebaaGreat
/- Reference 34: the culprit. -/
namespace Go.Proofs.YtajhjbiokbgebaaGreat
open Go.ChangeShapes Go.WideShapes Go.ChangeAt Go.RowKit
set_option linter.unusedVariables false
set_option linter.unusedSimpArgs false
set_option maxRecDepth 100000

/-- One more is looked at. -/
def culS (f : Int → Int) (a : Int × Int) (x : Int) : Int × Int := if 0 < f x ∧ (a.1 = 0 ∨ x < a.1) then (x, f x) else a
/-- What has been looked at. -/
structure Seen (f : Int → Int) (C : Int → Prop) (a : Int × Int) : Prop where
  ex : ∃ L, (∀ z, z ∈ L ↔ C z) ∧ culIs f L a ∧ ∀ z ∈ L, 1 ≤ z
theorem Seen.step {f : Int → Int} {C D : Int → Prop} {a : Int × Int} (h : Seen f C a) {x : Int} (hx : 1 ≤ x) (hD : ∀ z, D z ↔ C z ∨ z = x) : Seen f D (culS f a x) := by
  obtain ⟨L, h1, h2, h3⟩ := h.ex
  refine ⟨L ++ [x], fun z => by rw [hD, List.mem_append, h1, List.mem_singleton], culIs_snoc h2 h3 hx, fun z hz => ?_⟩
  rcases List.mem_append.1 hz with hz | hz
  · exact h3 z hz
  · rw [List.mem_singleton.1 hz]; exact hx
theorem Seen.congr {f : Int → Int} {C D : Int → Prop} {a : Int × Int} (h : Seen f C a) (hD : ∀ z, D z ↔ C z) : Seen f D a := by
  obtain ⟨L, h1, h2⟩ := h.ex
  exact ⟨L, fun z => by rw [hD, h1], h2⟩
theorem Seen.none (f : Int → Int) : Seen f (fun _ => False) (0, 0) := ⟨[], by simp, culIs_none (by simp), by simp⟩
theorem Seen.unique {f : Int → Int} {C D : Int → Prop} {a b : Int × Int} (h : Seen f C a) (k : Seen f D b) (hD : ∀ z, C z ↔ D z) : a = b := by
  obtain ⟨L, h1, h2, _⟩ := h.ex
  obtain ⟨M, k1, k2, _⟩ := k.ex
  exact culIs_unique (fun z => by rw [h1, hD, k1]) h2 k2
/-- What lies at or above the nodes. -/
def upOf (r : List Nd) (z : Int) : Prop := ∃ x ∈ r, abv z x.1 = true
theorem upOf_take {r : List Nd} {q : Nat} (h : q < r.length) (z : Int) : upOf (r.take (q + 1)) z ↔ upOf (r.take q) z ∨ abv z r[q].1 = true := by
  unfold upOf
  rw [List.take_succ_eq_append_getElem h]
  simp only [List.mem_append, List.mem_singleton]
  constructor
  · rintro ⟨x, hx | rfl, hz⟩
    · exact .inl ⟨x, hx, hz⟩
    · exact .inr hz
  · rintro (⟨x, hx, hz⟩ | hz)
    · exact ⟨x, .inl hx, hz⟩
    · exact ⟨_, .inr rfl, hz⟩
set_option maxHeartbeats 8000000 in
theorem ref34_Culprit (w : World) (k l : Int) (A B : Option Addr) (ca cb : Nat) (r m : List Nd) (hS : Sl w w.heap.size encN A r) (hSb : Sl w w.heap.size encN B m) (hI : ints r) (hr : ∀ x ∈ r, 1 ≤ x.2) (hm : ∀ x ∈ m, 1 ≤ x.2) (h1 : sumR r ≤ 72057594037927935) (h2 : sumR m ≤ 72057594037927935) (hp : ∀ x ∈ r, 1 ≤ x.1) (hlen : r.length ≤ 67108864) :
    Calls Tryz.prog 37 #[.agg #[.int .i64 k, .int .i64 l, .slice A r.length ca], bagV l B m.length cb] w fun e w' => ∃ a : Int × Int, e = .returned (.tuple #[.int .i64 a.1, .int .i64 a.2]) ∧ Seen (mrN l r m) (upOf r) a ∧ Below w.heap.size w w' := by
  have HM := Lib.hid (fun W id h h' hid => ref34_more W k l A B ca cb r m id h h' hI hr hm h1 h2 hid)
  have HBd := Lib.hid (fun id => mrN_bound (l := l) hr hm h1 h2 id)
  have HI := Lib.hid hI
  have HP := Lib.hid hp
  have X0 : Hid (((w.alloc (.cells #[.int .i64 k, .int .i64 l, .slice A r.length ca] 63)).alloc (.cells #[.int .i64 l, .slice B m.length cb] 31)).heap[w.heap.size]? = some (.cells #[.int .i64 k, .int .i64 l, .slice A r.length ca] 63 (0, 0))) := Lib.hid ((heap_new_lt _ _ _ (by simp)).trans (heap_alloc_new w _))
  have X1 : Hid (((w.alloc (.cells #[.int .i64 k, .int .i64 l, .slice A r.length ca] 63)).alloc (.cells #[.int .i64 l, .slice B m.length cb] 31)).heap[w.heap.size + 1]? = some (.cells #[.int .i64 l, .slice B m.length cb] 31 (0, 0))) := Lib.hid (heap_new_at (w.alloc _) _ _ (by simp))
  have BW0 : Hid (Below w.heap.size w ((w.alloc (.cells #[.int .i64 k, .int .i64 l, .slice A r.length ca] 63)).alloc (.cells #[.int .i64 l, .slice B m.length cb] 31))) := Lib.hid (by repeat (first | with_reducible exact Below.refl _ _ | with_reducible assumption | ((with_reducible refine Below.setCell ?_ ?_ _); rotate_left; · (first | omega | exact Nat.le_refl _ | (simp <;> omega))) | (with_reducible refine Below.allocW ?_ _) | (with_reducible refine Below.drew ?_) | (with_reducible refine Below.extW ?_ _)))
  have HS := Lib.hid (And.intro hS hSb)
  unfold bagV at HM ⊢
  clear hS hSb hI hr hm h1 h2 hp
  go_enter Tryz.func37, Tryz.ntmps37
  go_upto_region 1 with fail
  generalize (w.alloc (.cells #[.int .i64 k, .int .i64 l, .slice A r.length ca] 63)).alloc (.cells #[.int .i64 l, .slice B m.length cb] 31) = W0 at X0 X1 BW0 ⊢
  go_wp2_with fail
  go_loopw [6, 7, 8] (fun a b j wr => ∃ (q : Nat) (s : Int × Int), q ≤ r.length ∧ j = .int .i64 q ∧ a = .int .i64 s.1 ∧ b = .int .i64 s.2 ∧ Seen (mrN l r m) (upOf (r.take q)) s ∧ Below W0.heap.size W0 wr) (fun _ _ j _ => r.length - (intOf j).toNat)
  case atStart => exact ⟨0, (0, 0), Nat.zero_le _, rfl, rfl, rfl, (Seen.none _).congr (fun z => by simp [upOf]), Below.refl _ _⟩
  case round =>
    obtain ⟨q, s, hq, rfl, rfl, rfl, hSn, hB⟩ := hrel
    have HSn := Lib.hid hSn
    have HB := Lib.hid hB
    have Y0 := blk_below X0.out hB
    have c0 : wr.cell? ⟨w.heap.size, 2, none⟩ = some (.slice A r.length ca) := by rw [blk_cell Y0]; rfl
    have z0 := lt_of_block Y0
    clear hSn Y0
    by_cases hlt : q < r.length
    · have hqi : (q : Int) < (r.length : Int) := by omega
      have hU := Lib.hid (upOf_take hlt)
      obtain ⟨b, off, rfl, hb, hc⟩ := HS.out.1.at_ hlt
      have d1 := ((BW0.out.trans (hB.mono BW0.out.size)).cell (p := ⟨b, off + q * 2, none⟩) hb).trans (by have := hc 0 (.int .i64 r[q].1) rfl; simpa using this)
      have lb : b < wr.heap.size := Nat.lt_of_lt_of_le hb (Nat.le_trans BW0.out.size hB.size)
      have hx := HP.out _ (List.getElem_mem hlt)
      have hx2 := (HI.out _ (List.getElem_mem hlt)).1.2
      obtain ⟨v, hv⟩ : ∃ v, v = r[q].1 := ⟨_, rfl⟩
      rw [← hv] at d1 hx hx2 hU
      clear hc hv hB
      go_wp2_with fail
      go_loopw [6, 7, 9] (fun a b j wx => ∃ (i : Int) (s : Int × Int), i ≤ 9223372036854775807 ∧ 0 ≤ i ∧ j = .int .i64 i ∧ a = .int .i64 s.1 ∧ b = .int .i64 s.2 ∧ (∃ C : Int → Prop, Seen (mrN l r m) C s ∧ ∀ z, upOf (r.take (q + 1)) z ↔ C z ∨ abv z i = true) ∧ Below W0.heap.size W0 wx) (fun _ _ j _ => (intOf j).toNat)
      case atStart => exact ⟨v, s, hx2, by omega, rfl, rfl, rfl, ⟨_, HSn.out, hU.out⟩, HB.out⟩
      case round =>
        obtain ⟨i, t, hi, hi0, rfl, rfl, rfl, ⟨C, hC, hCz⟩, hBx⟩ := hrel
        have HC := Lib.hid (And.intro hC hCz)
        have HBx := Lib.hid hBx
        have Y0 := blk_below X0.out hBx
        have Y1 := blk_below X1.out hBx
        have k0 := blk_cell Y0
        have y0 := lt_of_block Y0
        have k1 := blk_cell Y1
        have y1 := lt_of_block Y1
        have BT := Lib.hid (BW0.out.trans (hBx.mono BW0.out.size))
        have S1 := Lib.hid (HS.out.1.keep (B' := wr.heap.size) BT.out.size fun p hp => BT.out.cell hp)
        have S2 := Lib.hid (HS.out.2.keep (B' := wr.heap.size) BT.out.size fun p hp => BT.out.cell hp)
        clear hC hCz Y0 Y1 hBx
        by_cases hi1 : 1 ≤ i
        · have hD : ∀ z, abv z i = true ↔ z = i ∨ abv z (i / 2) = true := fun z => by
            rw [abv_half hi1]
            exact ⟨fun h => h.elim .inl fun h => .inr h.2, fun h => h.elim .inl fun h => .inr ⟨by have := (abv_pos h).2; omega, h⟩⟩
          have HD := Lib.hid hD
          have td : Int.tdiv i 2 = i / 2 := Int.tdiv_eq_ediv_of_nonneg (by omega)
          have HM2 := Lib.hid (fun W h h' => HM.out W i h h' hi)
          have HN := Lib.hid (HC.out.1.step hi1 fun z => Iff.rfl)
          obtain ⟨n, hn⟩ : ∃ n, n = mrN l r m i := ⟨_, rfl⟩
          rw [← hn] at HM2
          have HN2 : Hid (∀ s', s' = (if 0 < n ∧ (t.1 = 0 ∨ i < t.1) then (i, n) else t) → Seen (mrN l r m) (fun z => C z ∨ z = i) s') := Lib.hid fun s' hs' => by rw [hs', hn]; exact HN.out
          have HZ : Hid (∀ z, upOf (r.take (q + 1)) z ↔ (C z ∨ z = i) ∨ abv z (i / 2) = true) := Lib.hid fun z => by rw [HC.out.2, HD.out, or_assoc]
          obtain ⟨t1, t2⟩ := t
          simp only at HN2 ⊢
          clear hD hn HN HC HD
          go_wp2_with fail
          refine (HM2.out _ S1.out S2.out).mono ?_
          rintro e wy ⟨rfl, hby⟩
          have B3 := Lib.hid (HBx.out.trans (hby.mono HBx.out.size))
          clear hby
          by_cases n0 : 0 < n
          · by_cases t0 : t1 = 0
            · have HN3 := Lib.hid (HN2.out (i, n) (by rw [if_pos ⟨n0, .inl t0⟩]))
              clear HN2
              subst t0
              go_wp2_with fail
              go_roundw
              case rel => exact ⟨i / 2, (i, n), by omega, by omega, by first | rfl | rw [td] | (simp [td]), rfl, rfl, ⟨_, HN3.out, HZ.out⟩, B3.out⟩
              case measure => simp [intOf, td]; omega
            · have t0' : (t1 == 0) = false := by simpa using t0
              by_cases t3 : i < t1
              · have HN3 := Lib.hid (HN2.out (i, n) (by rw [if_pos ⟨n0, .inr t3⟩]))
                clear HN2
                go_wp2_with fail
                go_roundw
                case rel => exact ⟨i / 2, (i, n), by omega, by omega, by first | rfl | rw [td] | (simp [td]), rfl, rfl, ⟨_, HN3.out, HZ.out⟩, B3.out⟩
                case measure => simp [intOf, td]; omega
              · have t3' : decide (i < t1) = false := by simpa using t3
                have HN3 := Lib.hid (HN2.out (t1, t2) (by rw [if_neg (by omega)]))
                clear HN2
                go_wp2_with fail
                go_roundw
                case rel => exact ⟨i / 2, (t1, t2), by omega, by omega, by first | rfl | rw [td] | (simp [td]), rfl, rfl, ⟨_, HN3.out, HZ.out⟩, B3.out⟩
                case measure => simp [intOf, td]; omega
          · have n0' : decide (0 < n) = false := by simpa using n0
            have HN3 := Lib.hid (HN2.out (t1, t2) (by rw [if_neg (by omega)]))
            clear HN2
            go_wp2_with fail
            go_roundw
            case rel => exact ⟨i / 2, (t1, t2), by omega, by omega, by first | rfl | rw [td] | (simp [td]), rfl, rfl, ⟨_, HN3.out, HZ.out⟩, B3.out⟩
            case measure => simp [intOf, td]; omega
        · have hi1' : decide (1 ≤ i) = false := by simpa using hi1
          have HZ : Hid (Seen (mrN l r m) (upOf (r.take (q + 1))) t) := Lib.hid (HC.out.1.congr fun z => by
            rw [HC.out.2]
            exact ⟨fun h => h.elim id fun h => by have := (abv_pos h).2; omega, .inl⟩)
          clear HC
          go_wp2_with fail
          go_roundw
          case rel => exact ⟨q + 1, t, by omega, by go_num, rfl, rfl, HZ.out, HBx.out⟩
          case measure => simp [intOf]; omega
    · obtain rfl : q = r.length := by omega
      rw [List.take_length] at HSn
      have hqi : decide ((r.length : Int) < (r.length : Int)) = false := by simp
      go_wp2_with fail
      go_ret2
      exact ⟨s, rfl, HSn.out, BW0.out.trans (HB.out.mono BW0.out.size)⟩
end Go.Proofs.YtajhjbiokbgebaaGreat
/- Reference 34: Stands. -/
namespace Go.Proofs.YtajhjbiokbgebaaGreat
open Go.ChangeShapes Go.WideShapes Go.ChangeAt Go.RowKit
set_option linter.unusedVariables false
set_option linter.unusedSimpArgs false
set_option maxRecDepth 100000

theorem ref34_Stands (w : World) (k l : Int) (A B : Option Addr) (ca cb : Nat) (r m : List Nd) (hS : Sl w w.heap.size encN A r) (hSb : Sl w w.heap.size encN B m) (hI : ints r) (hr : ∀ x ∈ r, 1 ≤ x.2) (hm : ∀ x ∈ m, 1 ≤ x.2) (h1 : sumR r ≤ 72057594037927935) (h2 : sumR m ≤ 72057594037927935) (hp : ∀ x ∈ r, 1 ≤ x.1) (hlen : r.length ≤ 67108864) (ht : (totalOf r).1 = sumR r) :
    Calls Tryz.prog 38 #[.agg #[.int .i64 k, .int .i64 l, .slice A r.length ca], bagV l B m.length cb] w fun e w' => ∃ a : Int × Int, e = .returned (.bool (decide (sumR r = sumR m) && decide (a.1 = 0))) ∧ Seen (mrN l r m) (upOf r) a ∧ Below w.heap.size w w' := by
  have HC := Lib.hid (fun W h h' => ref34_Culprit W k l A B ca cb r m h h' hI hr hm h1 h2 hp hlen)
  have HW := Lib.hid (fun W h => ref13_Weight W k l A ca r h hI (by simp only [maxLen]; omega))
  rw [ht] at HW
  have HT := Lib.hid (fun W h => ref10_Total W l B cb m h hm h2)
  have X0 : Hid (((w.alloc (.cells #[.int .i64 k, .int .i64 l, .slice A r.length ca] 63)).alloc (.cells #[.int .i64 l, .slice B m.length cb] 31)).heap[w.heap.size]? = some (.cells #[.int .i64 k, .int .i64 l, .slice A r.length ca] 63 (0, 0))) := Lib.hid ((heap_new_lt _ _ _ (by simp)).trans (heap_alloc_new w _))
  have X1 : Hid (((w.alloc (.cells #[.int .i64 k, .int .i64 l, .slice A r.length ca] 63)).alloc (.cells #[.int .i64 l, .slice B m.length cb] 31)).heap[w.heap.size + 1]? = some (.cells #[.int .i64 l, .slice B m.length cb] 31 (0, 0))) := Lib.hid (heap_new_at (w.alloc _) _ _ (by simp))
  have BW0 : Hid (Below w.heap.size w ((w.alloc (.cells #[.int .i64 k, .int .i64 l, .slice A r.length ca] 63)).alloc (.cells #[.int .i64 l, .slice B m.length cb] 31))) := Lib.hid (by repeat (first | with_reducible exact Below.refl _ _ | with_reducible assumption | ((with_reducible refine Below.setCell ?_ ?_ _); rotate_left; · (first | omega | exact Nat.le_refl _ | (simp <;> omega))) | (with_reducible refine Below.allocW ?_ _) | (with_reducible refine Below.drew ?_) | (with_reducible refine Below.extW ?_ _)))
  have HS := Lib.hid (And.intro hS hSb)
  unfold bagV at HC HT ⊢
  clear hS hSb hI hr hm h1 h2 hp ht
  generalize sumR r = n1 at HW ⊢
  generalize sumR m = n2 at HT ⊢
  go_enter Tryz.func38, Tryz.ntmps38
  go_upto_region 1 with fail
  generalize (w.alloc (.cells #[.int .i64 k, .int .i64 l, .slice A r.length ca] 63)).alloc (.cells #[.int .i64 l, .slice B m.length cb] 31) = W0 at X0 X1 BW0 ⊢
  have c0 := blk_cell X0.out
  have z0 := lt_of_block X0.out
  have c1 := blk_cell X1.out
  have z1 := lt_of_block X1.out
  have S1 := Lib.hid (HS.out.1.keep (B' := W0.heap.size) BW0.out.size fun p hp => BW0.out.cell hp)
  have S2 := Lib.hid (HS.out.2.keep (B' := W0.heap.size) BW0.out.size fun p hp => BW0.out.cell hp)
  go_wp2_with fail
  refine (HC.out _ S1.out S2.out).mono ?_
  rintro e w1 ⟨a, rfl, hSn, hb1⟩
  have HSn := Lib.hid hSn
  have Y0 := blk_below X0.out hb1
  have Y1 := blk_below X1.out hb1
  have B1 := Lib.hid (Below.then_ BW0.out hb1)
  have hB1 := B1.out
  clear c0 z0 c1 z1 S1 S2 hSn hb1 X0 X1
  have c0 := blk_cell Y0
  have z0 := lt_of_block Y0
  have c1 := blk_cell Y1
  have z1 := lt_of_block Y1
  have S1 := Lib.hid (HS.out.1.keep (B' := w1.heap.size) B1.out.size fun p hp => B1.out.cell hp)
  have S2 := Lib.hid (HS.out.2.keep (B' := w1.heap.size) B1.out.size fun p hp => B1.out.cell hp)
  clear Y0 Y1
  obtain ⟨a1, a2⟩ := a
  simp only
  by_cases he : n1 = n2
  · subst he
    go_wp2_with fail
    refine wp_region_ext (by kernel_rfl) (by kernel_rfl) ?_
    repeat (go_big_quiet_step (first
      | (go_at_call 47; exact quiet_ext (HW.out _ (S1.out.keep (ext_below _ _).size fun p hp => (ext_below _ _).cell hp)))
      | (go_at_call 48; exact quiet_ext (HT.out _ (S2.out.keep (ext_below _ _).size fun p hp => (ext_below _ _).cell hp)))))
    refine wpQuiet_nil ?_
    intro w2 hb2
    replace hb2 := below_of_ext hb2
    have B2 : Below w.heap.size w w2 := Below.then_ (by repeat (first | with_reducible exact Below.refl _ _ | with_reducible assumption | ((with_reducible refine Below.setCell ?_ ?_ _); rotate_left; · (first | omega | exact Nat.le_refl _ | (simp <;> omega))) | (with_reducible refine Below.allocW ?_ _) | (with_reducible refine Below.drew ?_) | (with_reducible refine Below.extW ?_ _))) hb2
    have s2 : w.heap.size ≤ w2.heap.size := B2.size
    have z2_0 : w.heap.size < w2.heap.size := by have := hb2.size; (try simp at this); omega
    have y2_0 : w.heap.size ≤ w2.heap.size := Nat.le_of_lt z2_0
    have c2_0 := fun o => hb2.cell (p := ⟨w.heap.size, o, none⟩) (by first | omega | (simp <;> omega))
    have f2_0 := fun o => hb2.frozen (p := ⟨w.heap.size, o, none⟩) (by first | omega | (simp <;> omega))
    go_wp2_with fail
    first | exact bodyPost_ret (v := .bool (a1 == 0)) (by simp only [results, Tryz.results38]; go_simp) rfl ⟨a1, a2, by simp [BEq.beq], HSn.out, (by repeat (first | with_reducible exact Below.refl _ _ | with_reducible assumption | ((with_reducible refine Below.setCell ?_ ?_ _); rotate_left; · (first | omega | exact Nat.le_refl _ | (simp <;> omega))) | (with_reducible refine Below.allocW ?_ _) | (with_reducible refine Below.drew ?_) | (with_reducible refine Below.extW ?_ _)))⟩ | exact bodyPost_ret (v := .bool (a1 == 0)) (by simp only [results, Tryz.results38]; go_simp) rfl ⟨a1, by first | rfl | simp [BEq.beq], a2, HSn.out, (by repeat (first | with_reducible exact Below.refl _ _ | with_reducible assumption | ((with_reducible refine Below.setCell ?_ ?_ _); rotate_left; · (first | omega | exact Nat.le_refl _ | (simp <;> omega))) | (with_reducible refine Below.allocW ?_ _) | (with_reducible refine Below.drew ?_) | (with_reducible refine Below.extW ?_ _)))⟩ | trace_state
  · have he' : (n1 == n2) = false := by simpa using he
    go_wp2_with fail
    refine wp_region_ext (by kernel_rfl) (by kernel_rfl) ?_
    repeat (go_big_quiet_step (first
      | (go_at_call 47; exact quiet_ext (HW.out _ (S1.out.keep (ext_below _ _).size fun p hp => (ext_below _ _).cell hp)))
      | (go_at_call 48; exact quiet_ext (HT.out _ (S2.out.keep (ext_below _ _).size fun p hp => (ext_below _ _).cell hp)))))
    refine wpQuiet_nil ?_
    intro w2 hb2
    replace hb2 := below_of_ext hb2
    have B2 : Below w.heap.size w w2 := Below.then_ (by repeat (first | with_reducible exact Below.refl _ _ | with_reducible assumption | ((with_reducible refine Below.setCell ?_ ?_ _); rotate_left; · (first | omega | exact Nat.le_refl _ | (simp <;> omega))) | (with_reducible refine Below.allocW ?_ _) | (with_reducible refine Below.drew ?_) | (with_reducible refine Below.extW ?_ _))) hb2
    have s2 : w.heap.size ≤ w2.heap.size := B2.size
    have z2_0 : w.heap.size < w2.heap.size := by have := hb2.size; (try simp at this); omega
    have y2_0 : w.heap.size ≤ w2.heap.size := Nat.le_of_lt z2_0
    have c2_0 := fun o => hb2.cell (p := ⟨w.heap.size, o, none⟩) (by first | omega | (simp <;> omega))
    have f2_0 := fun o => hb2.frozen (p := ⟨w.heap.size, o, none⟩) (by first | omega | (simp <;> omega))
    go_wp2_with fail
    exact bodyPost_ret (v := .bool false) (by simp only [results, Tryz.results38]; go_simp) rfl ⟨(a1, a2), by simp [he], HSn.out, (by repeat (first | with_reducible exact Below.refl _ _ | with_reducible assumption | ((with_reducible refine Below.setCell ?_ ?_ _); rotate_left; · (first | omega | exact Nat.le_refl _ | (simp <;> omega))) | (with_reducible refine Below.allocW ?_ _) | (with_reducible refine Below.drew ?_) | (with_reducible refine Below.extW ?_ _)))⟩
end Go.Proofs.YtajhjbiokbgebaaGreat
/- Package audit: has (a map that the call makes). -/
namespace Go.Proofs.YtajhjbiokbgebaaGreat
open Go.ChangeShapes Go.WideShapes Go.ChangeAt Go.RowKit Go.Maps
set_option linter.unusedVariables false
set_option linter.unusedSimpArgs false
set_option maxRecDepth 100000

/-- What a map of integers has, and at which keys. -/
structure MapIs (D : DataW Unit) (f : Int → Int) (C : Int → Prop) : Prop where
  map : IsMap D
  at_ : ∀ z, D.atKey (.int .i64 z) (.lit (.int .i64 0)) = .lit (.int .i64 (f z))
  has : ∀ z, Go.Maps.has D (.int .i64 z) = true ↔ C z
theorem MapIs.empty : MapIs (.map []) (fun _ => 0) (fun _ => False) := ⟨isMap_empty, fun z => rfl, fun z => by simp [Go.Maps.has]⟩
theorem MapIs.put {D : DataW Unit} {f g : Int → Int} {C E : Int → Prop} (h : MapIs D f C) (i v : Int) (hg : ∀ z, g z = if z = i then v else f z) (hE : ∀ z, E z ↔ C z ∨ z = i) : MapIs (D.put (.int .i64 i) (.lit (.int .i64 v))) g E := by
  refine ⟨h.map.put _ _, fun z => ?_, fun z => ?_⟩
  · by_cases hz : z = i
    · subst hz
      rw [atKey_put_same h.map (by simp [WideAt.IsKeyLit]), hg, if_pos rfl]
    · rw [atKey_put_other (by simp [hz]), h.at_, hg, if_neg hz]
  · by_cases hz : z = i
    · subst hz
      rw [has_put_same h.map (by simp [WideAt.IsKeyLit]), hE]; simp
    · rw [has_put_other (by simp [hz]), h.has, hE]; simp [hz]
theorem MapIs.congr {D : DataW Unit} {f g : Int → Int} {C E : Int → Prop} (h : MapIs D f C) (hg : ∀ z, g z = f z) (hE : ∀ z, E z ↔ C z) : MapIs D g E :=
  ⟨h.map, fun z => by rw [hg, h.at_], fun z => by rw [hE, h.has]⟩
theorem keyI : Keyed Tryz.prog 3 := int_keyed Tryz.underlying3
theorem zeroI (w : World) : (zeroValue 3).run Tryz.prog w = .ok (.int .i64 0) w := by kernel_rfl
theorem abv_not_half {i : Int} (h : 1 ≤ i) : abv i (i / 2) = false := by
  cases hh : abv i (i / 2)
  · rfl
  · have := abv_le hh; omega
theorem ownsMap_below {w w' : World} {b n : Nat} {D : DataW Unit} {R : Value → Option (DataW Unit × List MemPlace)} (h : w.ownsMap Tryz.prog 3 R b n D) (hb : Below w.heap.size w w') : w'.ownsMap Tryz.prog 3 R b n D := by
  have hl := h.lt
  obtain ⟨es, clock, h1, h2⟩ := h
  exact ⟨es, clock, (hb.block b hl).trans h1, h2⟩
theorem own_take {r : List Nd} {q : Nat} (h : q < r.length) (z : Int) : ownN (r.take (q + 1)) z = ownN (r.take q) z + if abv z r[q].1 = true then r[q].2 else 0 := wIds_take h
set_option maxHeartbeats 4000000 in
theorem audit_has (w : World) (g K l : Nat) (k : Int) (r : List Nd) (F : Nat → Prop) (h : DigAt w g K l k r F) (hI : ints r) (hr : ∀ x ∈ r, 1 ≤ x.2) (hp : ∀ x ∈ r, 1 ≤ x.1) (hs : sumR r ≤ 72057594037927935) (hlen : r.length ≤ 65536) :
    Calls Tryz.prog 97 #[.pointer (some ⟨g, 0, none⟩)] w fun e w' => ∃ b n D, e = .returned (.map (some b)) ∧ w'.ownsMap Tryz.prog 3 (plainElem Tryz.prog 3) b n D ∧ MapIs D (ownN r) (upOf r) ∧ w.heap.size ≤ b ∧ n ≤ 4194304 ∧ Below w.heap.size w w' := by
  have hmm := @run_makeMap Tryz.prog
  have HN := Lib.hid (fun W h => digest_Nodes W g K l k r F h (by omega))
  have HD := Lib.hid h
  have HI := Lib.hid hI
  have HR := Lib.hid hr
  have HP := Lib.hid hp
  clear h hI hr hp
  go_enter Tryz.func97, Tryz.ntmps97
  go_wp2_with fail
  have M0 := Lib.hid (World.ownsMap_made w Tryz.prog 3 (plainElem (H := Unit) Tryz.prog 3))
  refine (HN.out _ (HD.out.below ((Below.refl _ _).alloc (Nat.le_refl _) _))).mono ?_
  rintro e w1 ⟨v, rfl, ho, hb1⟩
  obtain ⟨A, cap, rfl, _⟩ := ho.form
  have hz1 := hb1.size
  simp only [World.size_alloc] at hz1 ho
  have M1 := Lib.hid (ownsMap_below M0.out hb1)
  have O1 := Lib.hid ho
  have B1 : Below w.heap.size w w1 := Below.then_ (by repeat (first | with_reducible exact Below.refl _ _ | with_reducible assumption | ((with_reducible refine Below.setCell ?_ ?_ _); rotate_left; · (first | omega | exact Nat.le_refl _ | (simp <;> omega))) | (with_reducible refine Below.allocW ?_ _) | (with_reducible refine Below.drew ?_) | (with_reducible refine Below.extW ?_ _))) hb1
  clear ho hb1 M0 HN
  go_wp2_with fail
  go_loopw [11] (fun j wr => ∃ (q n : Nat) (D : DataW Unit), q ≤ r.length ∧ j = .int .i64 q ∧ wr.ownsMap Tryz.prog 3 (plainElem Tryz.prog 3) w.heap.size n D ∧ MapIs D (ownN (r.take q)) (upOf (r.take q)) ∧ n ≤ 64 * q ∧ Own wr (w.heap.size + 1) 126 encN (.slice A r.length cap) r ∧ w.heap.size + 1 ≤ wr.heap.size ∧ Below w.heap.size w wr) (fun j _ => r.length - (intOf j).toNat)
  case atStart => exact ⟨0, 0, _, Nat.zero_le _, rfl, M1.out, MapIs.empty.congr (fun z => rfl) (fun z => by simp [upOf]), by omega, O1.out, hz1, B1⟩
  case round =>
    obtain ⟨q, n, D, hq, rfl, hM, hMI, hn, hO, hz, hB⟩ := hrel
    have M := Lib.hid (And.intro hM hMI)
    have O := Lib.hid hO
    have HB := Lib.hid hB
    clear hM hMI M1 O1 B1
    by_cases hlt : q < r.length
    · have hqi : (q : Int) < (r.length : Int) := by omega
      obtain ⟨b, off, rfl, hb, hc⟩ := hO.sl.at_ hlt
      have d0 := hc 1 (.int .i64 r[q].2) rfl
      have d1 := hc 0 (.int .i64 r[q].1) rfl
      simp only [Nat.add_zero] at d1
      have hx := HP.out _ (List.getElem_mem hlt)
      have hx2 := (HI.out _ (List.getElem_mem hlt)).1.2
      have hc1 := HR.out _ (List.getElem_mem hlt)
      have HT := Lib.hid (fun z => own_take hlt z)
      have HU := Lib.hid (upOf_take hlt)
      have HS : Hid (∀ z, 0 ≤ ownN (r.take (q + 1)) z ∧ ownN (r.take (q + 1)) z ≤ 72057594037927935) := Lib.hid fun z => by
        refine ⟨wIds_0 fun y hy => by have := HR.out y (List.mem_of_mem_take hy); omega, ?_⟩
        have := wIds_sum (p := fun y => abv z y) (r := r.take (q + 1)) fun y hy => by have := HR.out y (List.mem_of_mem_take hy); omega
        have := (sumV_take_le HR.out (q + 1)).2
        unfold ownN; omega
      obtain ⟨x, hx0⟩ : ∃ x, x = r[q].1 := ⟨_, rfl⟩
      obtain ⟨c, hc0⟩ : ∃ c, c = r[q].2 := ⟨_, rfl⟩
      rw [← hx0] at d1 hx hx2 HU
      rw [← hc0] at d0 hc1
      have HT : Hid (∀ z, ownN (r.take (q + 1)) z = ownN (r.take q) z + if abv z x = true then c else 0) := Lib.hid fun z => by rw [HT.out, hx0, hc0]
      clear hc hO hx0 hc0
      have NX := heap_alloc_new wr (.cells #[.int .i64 x, .int .i64 c] 126)
      have ON := Lib.hid (O.out.alloc (.cells #[.int .i64 x, .int .i64 c] 126))
      have MN := Lib.hid (ownsMap_below M.out.1 ((Below.refl _ _).alloc (Nat.le_refl _) (.cells #[.int .i64 x, .int .i64 c] 126)))
      have BN := Lib.hid (show Below w.heap.size w (wr.alloc (.cells #[.int .i64 x, .int .i64 c] 126)) from (by repeat (first | with_reducible exact Below.refl _ _ | with_reducible assumption | ((with_reducible refine Below.setCell ?_ ?_ _); rotate_left; · (first | omega | exact Nat.le_refl _ | (simp <;> omega))) | (with_reducible refine Below.allocW ?_ _) | (with_reducible refine Below.drew ?_) | (with_reducible refine Below.extW ?_ _))))
      obtain ⟨xb, hxb⟩ : ∃ xb, xb = wr.heap.size := ⟨_, rfl⟩
      have NX := Lib.hid (hxb ▸ NX)
      have hxz : w.heap.size < xb := by omega
      go_upto_region 5 with fail
      rw [← hxb]
      generalize wr.alloc (.cells #[.int .i64 x, .int .i64 c] 126) = W1 at NX ON MN BN ⊢
      have nx := blk_cell NX.out
      have nz := lt_of_block NX.out
      clear hB hz hxb d0 d1 hb
      go_wp2_with fail
      go_loopw [6] (fun j wr => ∃ (i : Int) (n d : Nat) (D : DataW Unit) (f : Int → Int) (C : Int → Prop), j = .int .i64 i ∧ 0 ≤ i ∧ i < 2 ^ d ∧ n + d ≤ 64 * (q + 1) ∧ d ≤ 63 ∧ wr.ownsMap Tryz.prog 3 (plainElem Tryz.prog 3) w.heap.size n D ∧ MapIs D f C ∧ ((∀ z, f z + (if abv z i = true then c else 0) = ownN (r.take (q + 1)) z) ∧ ∀ z, upOf (r.take (q + 1)) z ↔ C z ∨ abv z i = true) ∧ Own wr (w.heap.size + 1) 126 encN (.slice (some ⟨b, off, none⟩) r.length cap) r ∧ wr.heap[xb]? = some (.cells #[.int .i64 x, .int .i64 c] 126 (0, 0)) ∧ w.heap.size + 1 ≤ wr.heap.size ∧ Below w.heap.size w wr) (fun j _ => (intOf j).toNat)
      case atStart => exact ⟨x, n, 63, D, _, _, rfl, by omega, by omega, by omega, by omega, MN.out, M.out.2, ⟨fun z => (HT.out z).symm, HU.out⟩, ON.out, NX.out, by omega, BN.out⟩
      case round =>
        obtain ⟨i, n1, d, D1, f, C, rfl, hi0, hid, hnd, hd, hM, hMI, hfC, hO, hX, hz, hB⟩ := hrel
        have HM := Lib.hid (And.intro hM hMI)
        have HF := Lib.hid hfC
        have HO := Lib.hid hO
        have HX := Lib.hid hX
        have HB := Lib.hid hB
        have k0 := blk_cell hX
        have z0 := lt_of_block hX
        have hp63 : (2 : Int) ^ d ≤ 2 ^ 63 := by
          have : (2 : Nat) ^ d ≤ 2 ^ 63 := Nat.pow_le_pow_right (by decide) hd
          exact_mod_cast this
        have hi63 : i < 9223372036854775808 := by omega
        clear hMI hfC hO hX hp63 nx nz
        by_cases hi1 : 1 ≤ i
        · have hd1 : 1 ≤ d := by
            rcases Nat.eq_zero_or_pos d with rfl | h
            · simp at hid; omega
            · exact h
          have hid2 : i / 2 < 2 ^ (d - 1) := by
            obtain ⟨e, rfl⟩ : ∃ e, d = e + 1 := ⟨d - 1, by omega⟩
            rw [Int.pow_succ] at hid
            simp only [Nat.add_sub_cancel]; omega
          have hkey : keyOf Tryz.prog 3 (.int .i64 i) = some (.int .i64 i) := keyOf_int_mk Tryz.underlying3 (WalkArith.wf_i64 (by omega))
          have hD : ∀ z, abv z i = true ↔ z = i ∨ abv z (i / 2) = true := fun z => by
            rw [abv_half hi1]
            exact ⟨fun h => h.elim .inl fun h => .inr h.2, fun h => h.elim .inl fun h => .inr ⟨by have := (abv_pos h).2; omega, h⟩⟩
          have fi : f i + c = ownN (r.take (q + 1)) i := by have := HF.out.1 i; rw [if_pos (abv_self hi1)] at this; exact this
          have fb := (HS.out i).2
          have fb0 := (HS.out i).1
          rw [← fi] at fb fb0
          have HNew : Hid (∀ v, v = f i + c → MapIs (D1.put (.int .i64 i) (.lit (.int .i64 v))) (fun z => if z = i then v else f z) (fun z => C z ∨ z = i)) := Lib.hid fun v _ => HM.out.2.put i v (fun z => rfl) fun z => Iff.rfl
          have HF2 : Hid ((∀ z, (if z = i then f i + c else f z) + (if abv z (i / 2) = true then c else 0) = ownN (r.take (q + 1)) z) ∧ ∀ z, upOf (r.take (q + 1)) z ↔ (C z ∨ z = i) ∨ abv z (i / 2) = true) := Lib.hid ⟨fun z => by
            by_cases hz : z = i
            · subst hz
              rw [if_pos rfl, abv_not_half hi1, if_neg (by simp), Int.add_zero, fi]
            · rw [if_neg hz, ← HF.out.1 z]
              have : abv z i = abv z (i / 2) := by rw [Bool.eq_iff_iff, hD]; simp [hz]
              rw [this], fun z => by rw [HF.out.2, hD, or_assoc]⟩
          have hat0 := HM.out.2.at_ i
          have HAT := Lib.hid hat0
          clear hD fi hat0
          go_wp2_with (first
            | (at_lookup; refine wpList_lookup_own_int _ rfl _ _ 154 rfl 3 3 .i64 keyI Tryz.underlying154 Tryz.underlying3 (zeroI _) w.heap.size n1 _ rfl HM.out.1 _ _ rfl hkey ?_; intro cv hat hwc; obtain rfl : cv = f i := (by have h9 := hat.symm.trans HAT.out; simpa using h9); clear hat hwc)
            | (at_mapUpdate; refine wpList_mapUpdate_own _ rfl _ _ _ 154 rfl 3 3 keyI Tryz.underlying154 _ w.heap.size n1 _ rfl HM.out.1 (by unfold maxLen; omega) _ _ _ rfl rfl hkey _ [] (plainElem_int Tryz.underlying3 (WalkArith.wf_i64 (by omega))) ?_; intro w2 hown2 hgrow2)
            | go_in)
          go_roundw
          case rel => exact ⟨i / 2, n1 + 1, d - 1, _, _, _, rfl, by omega, hid2, by omega, by omega, hown2, HNew.out _ rfl, HF2.out, HO.out.kept hgrow2 (.inr fun e => by have := (HO.out.lt _ e).1; omega), blk_grown_not HX.out hgrow2 (by simp; omega), Nat.le_trans hz hgrow2.size, HB.out.grown hgrow2 HB.out.size fun j hj => by cases hj; exact Nat.le_refl _⟩
          case measure => simp [intOf]; omega
        · have hi1' : decide (1 ≤ i) = false := by simpa using hi1
          have HZ : Hid (MapIs D1 (ownN (r.take (q + 1))) (upOf (r.take (q + 1)))) := Lib.hid (HM.out.2.congr (fun z => by
            have := HF.out.1 z
            rw [if_neg (fun h => by have := (abv_pos h).2; omega), Int.add_zero] at this
            exact this.symm) fun z => by
            rw [HF.out.2]
            exact ⟨fun h => h.elim id fun h => by have := (abv_pos h).2; omega, .inl⟩)
          go_wp2_with fail
          go_roundw
          case rel => exact ⟨q + 1, n1, D1, by omega, by go_num, HM.out.1, HZ.out, by omega, HO.out, hz, HB.out⟩
          case measure => simp [intOf]; omega
    · obtain rfl : q = r.length := by omega
      rw [List.take_length] at M
      have hqi : decide ((r.length : Int) < (r.length : Int)) = false := by simp
      go_wp2_with fail
      go_ret
      exact ⟨w.heap.size, n, D, rfl, M.out.1, M.out.2, Nat.le_refl _, by omega, HB.out⟩
end Go.Proofs.YtajhjbiokbgebaaGreat
/- Reference 10: put. -/
namespace Go.Proofs.YtajhjbiokbgebaaGreat
open Go.ChangeShapes Go.WideShapes Go.ChangeAt Go.RowKit
set_option linter.unusedVariables false
set_option linter.unusedSimpArgs false
set_option maxRecDepth 100000

/-- What is still to be written. -/
def putL : List Nd → Int → Int → Bool → List Nd
  | [], x, c, d => if d = true then [] else [(x, c)]
  | z :: m, x, c, d => if z.1 = x then (z.1, z.2 + c) :: putL m x c true else if x < z.1 ∧ d = false then (x, c) :: z :: putL m x c true else z :: putL m x c d
theorem putL_done {m : List Nd} {x : Int} (h : ∀ z ∈ m, x < z.1) (c : Int) : putL m x c true = m := by
  induction m with
  | nil => rfl
  | cons z m ih =>
    have := h z (by simp)
    simp only [putL]
    rw [if_neg (by omega : ¬ z.1 = x), if_neg (by simp : ¬ (x < z.1 ∧ true = false)), ih fun y hy => h y (by simp [hy])]
theorem putL_addR {m : List Nd} (hup : m.Pairwise fun a b => a.1 < b.1) (x c : Int) : putL m x c false = addR m x c := by
  induction m with
  | nil => rfl
  | cons z m ih =>
    obtain ⟨u1, u2⟩ := List.pairwise_cons.1 hup
    simp only [putL, addR]
    by_cases h1 : z.1 = x
    · rw [if_pos h1, if_pos h1, putL_done (fun y hy => by have := u1 y hy; omega)]; rw [h1]
    · rw [if_neg h1, if_neg h1]
      by_cases h2 : x < z.1
      · rw [if_pos (show x < z.1 ∧ True from ⟨h2, trivial⟩), if_pos h2, putL_done fun y hy => by have := u1 y hy; omega]
      · rw [if_neg (by omega), if_neg h2, ih u2]
theorem putL_eq {z : Nd} {x c : Int} {d : Bool} {L m : List Nd} (h : z.1 = x) : L ++ putL (z :: m) x c d = (L ++ [(z.1, z.2 + c)]) ++ putL m x c true := by simp [putL, h]
theorem putL_new {z : Nd} {x c : Int} {L m : List Nd} (h : x < z.1) : L ++ putL (z :: m) x c false = ((L ++ [(x, c)]) ++ [z]) ++ putL m x c true := by
  simp only [putL]
  rw [if_neg (by omega : ¬ z.1 = x), if_pos (show x < z.1 ∧ True from ⟨h, trivial⟩)]; simp
theorem putL_old {z : Nd} {x c : Int} {d : Bool} {L m : List Nd} (h1 : z.1 ≠ x) (h2 : ¬ (x < z.1 ∧ d = false)) : L ++ putL (z :: m) x c d = (L ++ [z]) ++ putL m x c d := by
  simp only [putL]
  rw [if_neg h1, if_neg h2]; simp
set_option maxHeartbeats 8000000 in
theorem ref10_put (w : World) (l : Int) (A : Option Addr) (cap : Nat) (m : List Nd) (x c : Int) (hS : Sl w w.heap.size encN A m) (hup : m.Pairwise fun a b => a.1 < b.1) (hv : ∀ x ∈ m, 1 ≤ x.2) (hc : 1 ≤ c) (hs : sumR m + c ≤ 72057594037927935) (hlen : m.length ≤ 65536) :
    Calls Tryz.prog 83 #[bagV l A m.length cap, .int .i64 x, .int .i64 c] w fun e w' => ∃ A' cap', e = .returned (bagV l A' (addR m x c).length cap') ∧ SlT w' 96 encN A' (addR m x c) ∧ Below w.heap.size w w' := by
  have HS := Lib.hid hS
  have HV := Lib.hid hv
  have HA := Lib.hid (putL_addR hup x c)
  have HN := Lib.hid hs
  clear hS hv hup
  unfold bagV
  have X0 : Hid (((w.alloc (.cells #[.int .i64 l, .slice A m.length cap] 31)).alloc (.cells #[.int .i64 0, .slice none 0 0] 31)).heap[w.heap.size]? = some (.cells #[.int .i64 l, .slice A m.length cap] 31 (0, 0))) := Lib.hid ((heap_new_lt _ _ _ (by simp)).trans (heap_alloc_new w _))
  have X1 : Hid (((w.alloc (.cells #[.int .i64 l, .slice A m.length cap] 31)).alloc (.cells #[.int .i64 0, .slice none 0 0] 31)).heap[w.heap.size + 1]? = some (.cells #[.int .i64 0, .slice none 0 0] 31 (0, 0))) := Lib.hid (heap_new_at (w.alloc _) _ _ (by simp))
  have BW0 : Hid (Below w.heap.size w ((w.alloc (.cells #[.int .i64 l, .slice A m.length cap] 31)).alloc (.cells #[.int .i64 0, .slice none 0 0] 31))) := Lib.hid (by repeat (first | with_reducible exact Below.refl _ _ | with_reducible assumption | ((with_reducible refine Below.setCell ?_ ?_ _); rotate_left; · (first | omega | exact Nat.le_refl _ | (simp <;> omega))) | (with_reducible refine Below.allocW ?_ _) | (with_reducible refine Below.drew ?_) | (with_reducible refine Below.extW ?_ _)))
  have Z0 : Hid (((w.alloc (.cells #[.int .i64 l, .slice A m.length cap] 31)).alloc (.cells #[.int .i64 0, .slice none 0 0] 31)).heap.size = w.heap.size + 1 + 1) := Lib.hid (by simp)
  go_enter Tryz.func83, Tryz.ntmps83
  go_upto_region 1 with fail
  generalize (w.alloc (.cells #[.int .i64 l, .slice A m.length cap] 31)).alloc (.cells #[.int .i64 0, .slice none 0 0] 31) = W0 at X0 X1 BW0 Z0 ⊢
  have S0 := Lib.hid (HS.out.keep (B' := W0.heap.size) BW0.out.size fun p hp => BW0.out.cell hp)
  clear HS
  go_wp2_with fail
  go_loopw [7, 8, 9] (fun o d j wr => ∃ (q : Nat) (L : List Nd) (f : Bool), q ≤ m.length ∧ j = .int .i64 q ∧ d = .bool f ∧ Own wr W0.heap.size 96 encN o L ∧ L ++ putL (m.drop q) x c f = addR m x c ∧ L.length ≤ 2 * q ∧ Below W0.heap.size W0 wr) (fun _ _ j _ => m.length - (intOf j).toNat)
  case atStart => exact ⟨0, [], false, Nat.zero_le _, rfl, rfl, .nil _ _ _ _, HA.out, by simp, Below.refl _ _⟩
  case round =>
    obtain ⟨q, L, f, hq, rfl, rfl, ho, hL, hLl, hB⟩ := hrel
    obtain ⟨Ao, co, rfl, _⟩ := ho.form
    have hX := blk_below X0.out hB
    have c0 : wr.cell? ⟨w.heap.size, 1, none⟩ = some (.slice A m.length cap) := by rw [blk_cell hX]; rfl
    have c00 : wr.cell? ⟨w.heap.size, 0, none⟩ = some (.int .i64 l) := by rw [blk_cell hX]; rfl
    have z0 := lt_of_block hX
    have HO := Lib.hid ho
    have HL := Lib.hid hL
    have SZ := Lib.hid hB.size
    clear hX ho hL
    by_cases hlt : q < m.length
    · have hE := HL.out
      rw [List.drop_eq_getElem_cons hlt] at hE
      obtain ⟨b, off, rfl, hb, hc2⟩ := S0.out.at_ hlt
      have d0 := (hB.cell (p := ⟨b, off + q * 2 + 1, none⟩) hb).trans (hc2 1 (.int .i64 m[q].2) rfl)
      have d1 := (hB.cell (p := ⟨b, off + q * 2, none⟩) hb).trans (by have := hc2 0 (.int .i64 m[q].1) rfl; simpa using this)
      have lb : b < wr.heap.size := Nat.lt_of_lt_of_le hb hB.size
      have v1 := HV.out _ (List.getElem_mem hlt)
      have s1 : m[q].2 + c ≤ 72057594037927935 := by have := sum_part HV.out hlt; have := HN.out; omega
      obtain ⟨y, hy⟩ : ∃ y : Nd, y = m[q] := ⟨_, rfl⟩
      rw [← hy] at d0 d1 v1 s1 hE
      obtain ⟨u, v⟩ := y
      simp only at d0 d1 v1 s1
      clear hc2 hy
      by_cases k1 : u = x
      · subst k1
        rw [putL_eq rfl] at hE
        have HE := Lib.hid hE
        clear hE
        have sz := SZ.out
        have OA := Lib.hid (HO.out.alloc (.cells #[.int .i64 u, .int .i64 (v + c)] 96))
        have BM := Lib.hid (show Below W0.heap.size W0 (wr.alloc (.cells #[.int .i64 u, .int .i64 (v + c)] 96)) from (by repeat (first | with_reducible exact Below.refl _ _ | with_reducible assumption | ((with_reducible refine Below.setCell ?_ ?_ _); rotate_left; · (first | omega | exact Nat.le_refl _ | (simp <;> omega))) | (with_reducible refine Below.allocW ?_ _) | (with_reducible refine Below.drew ?_) | (with_reducible refine Below.extW ?_ _))))
        have wfu : (decide (u ≤ u)) = true := by simp
        go_wp2_with ((at_builtin; refine wpList_push tyRd rfl _ _ rfl encN (wr.alloc (.cells #[.int .i64 u, .int .i64 (v + c)] 96)) W0.heap.size (.slice Ao L.length co) L rfl OA.out (u, v + c) (by go_simp) rfl ?c1 ?c2 ?c3 ?c4))
        case c1 => (try simp only [List.length_append, List.length_cons, List.length_nil]); omega
        case c2 => (try simp only [maxLen, List.length_append, List.length_cons, List.length_nil]); omega
        case c3 => (try simp [World.setCell]); omega
        case c4 =>
          intro v5 w5 ho5 _ _ _ hb5 _
          have H5 := Lib.hid (And.intro ho5 hb5)
          clear ho5 hb5
          go_wp2_with fail
          go_roundw
          case rel => exact ⟨q + 1, L ++ [(u, v + c)], true, by omega, by go_num, rfl, H5.out.1, HE.out, by simp; omega, BM.out.trans H5.out.2⟩
          case measure => simp [intOf]; omega
      · have k1' : (u == x) = false := by simpa using k1
        have sz := SZ.out
        have OA := Lib.hid (HO.out.alloc (.cells #[.int .i64 u, .int .i64 v] 96))
        have BM := Lib.hid (show Below W0.heap.size W0 (wr.alloc (.cells #[.int .i64 u, .int .i64 v] 96)) from (by repeat (first | with_reducible exact Below.refl _ _ | with_reducible assumption | ((with_reducible refine Below.setCell ?_ ?_ _); rotate_left; · (first | omega | exact Nat.le_refl _ | (simp <;> omega))) | (with_reducible refine Below.allocW ?_ _) | (with_reducible refine Below.drew ?_) | (with_reducible refine Below.extW ?_ _))))
        by_cases k2 : x < u
        · cases f
          · rw [putL_new k2] at hE
            have HE := Lib.hid hE
            clear hE
            go_wp2_with ((at_builtin; refine wpList_push tyRd rfl _ _ rfl encN (wr.alloc (.cells #[.int .i64 u, .int .i64 v] 96)) W0.heap.size (.slice Ao L.length co) L rfl OA.out (x, c) (by go_simp) rfl ?c1 ?c2 ?c3 ?c4))
            case c1 => (try simp only [List.length_append, List.length_cons, List.length_nil]); omega
            case c2 => (try simp only [maxLen, List.length_append, List.length_cons, List.length_nil]); omega
            case c3 => (try simp [World.setCell]); omega
            case c4 =>
              intro v5 w5 ho5 hg5 hs5 _ hb5 _
              obtain ⟨A5, c5, rfl, _⟩ := ho5.form
              have hy5 := blk_grown_not (heap_alloc_new wr (.cells #[.int .i64 u, .int .i64 v] 96)) hg5 (HO.out.not_at _ (Nat.le_refl _))
              have cy5 := blk_cell hy5
              have zy5 := lt_of_block hy5
              have O5 := Lib.hid ho5
              have B5 := Lib.hid (BM.out.trans hb5)
              have s5 := B5.out.size
              clear ho5 hg5 hb5
              go_wp2_with ((at_builtin; refine wpList_push tyRd rfl _ _ rfl encN w5 W0.heap.size (.slice A5 (L ++ [(x, c)]).length c5) (L ++ [(x, c)]) rfl O5.out (u, v) (by go_simp) rfl ?c1 ?c2 ?c3 ?c4))
              case c1 => (try simp only [List.length_append, List.length_cons, List.length_nil]); omega
              case c2 => (try simp only [maxLen, List.length_append, List.length_cons, List.length_nil]); omega
              case c3 => (try simp [World.setCell]); omega
              case c4 =>
                intro v6 w6 ho6 _ _ _ hb6 _
                have H6 := Lib.hid (And.intro ho6 hb6)
                clear ho6 hb6
                go_wp2_with fail
                go_roundw
                case rel => exact ⟨q + 1, L ++ [(x, c), (u, v)], true, by omega, by go_num, rfl, H6.out.1, by have := HE.out; simpa using this, by simp; omega, B5.out.trans H6.out.2⟩
                case measure => simp [intOf]; omega
          · rw [putL_old k1 (by simp)] at hE
            have HE := Lib.hid hE
            clear hE
            go_wp2_with ((at_builtin; refine wpList_push tyRd rfl _ _ rfl encN (wr.alloc (.cells #[.int .i64 u, .int .i64 v] 96)) W0.heap.size (.slice Ao L.length co) L rfl OA.out (u, v) (by go_simp) rfl ?c1 ?c2 ?c3 ?c4))
            case c1 => (try simp only [List.length_append, List.length_cons, List.length_nil]); omega
            case c2 => (try simp only [maxLen, List.length_append, List.length_cons, List.length_nil]); omega
            case c3 => (try simp [World.setCell]); omega
            case c4 =>
              intro v5 w5 ho5 _ _ _ hb5 _
              have H5 := Lib.hid (And.intro ho5 hb5)
              clear ho5 hb5
              go_wp2_with fail
              go_roundw
              case rel => exact ⟨q + 1, L ++ [(u, v)], true, by omega, by go_num, rfl, H5.out.1, HE.out, by simp; omega, BM.out.trans H5.out.2⟩
              case measure => simp [intOf]; omega
        · rw [putL_old k1 (by omega)] at hE
          have k2' : decide (x < u) = false := by simpa using k2
          have HE := Lib.hid hE
          clear hE
          go_wp2_with ((at_builtin; refine wpList_push tyRd rfl _ _ rfl encN (wr.alloc (.cells #[.int .i64 u, .int .i64 v] 96)) W0.heap.size (.slice Ao L.length co) L rfl OA.out (u, v) (by go_simp) rfl ?c1 ?c2 ?c3 ?c4))
          case c1 => (try simp only [List.length_append, List.length_cons, List.length_nil]); omega
          case c2 => (try simp only [maxLen, List.length_append, List.length_cons, List.length_nil]); omega
          case c3 => (try simp [World.setCell]); omega
          case c4 =>
            intro v5 w5 ho5 _ _ _ hb5 _
            have H5 := Lib.hid (And.intro ho5 hb5)
            clear ho5 hb5
            go_wp2_with fail
            go_roundw
            case rel => exact ⟨q + 1, L ++ [(u, v)], f, by omega, by go_num, rfl, H5.out.1, HE.out, by simp; omega, BM.out.trans H5.out.2⟩
            case measure => simp [intOf]; omega
    · obtain rfl : q = m.length := by omega
      have hE := HL.out
      rw [List.drop_length] at hE
      have sz := SZ.out
      have hX1 := blk_below X1.out hB
      have c3 := blk_cell hX1
      have f3 := blk_frozen hX1
      have z3 := lt_of_block hX1
      have X1c := Lib.hid hX1
      have XC := Lib.hid (blk_below X0.out hB)
      have HB := Lib.hid (BW0.out.trans (hB.mono BW0.out.size))
      cases f
      · simp only [putL, Bool.false_eq_true, if_false] at hE
        have HE := Lib.hid hE
        clear hE hX1
        go_wp2_with ((at_builtin; refine wpList_push tyRd rfl _ _ rfl encN wr W0.heap.size (.slice Ao L.length co) L rfl HO.out (x, c) (by go_simp) rfl ?c1 ?c2 ?c3 ?c4))
        case c1 => (try simp only [List.length_append, List.length_cons, List.length_nil]); omega
        case c2 => (try simp only [maxLen, List.length_append, List.length_cons, List.length_nil]); omega
        case c3 => (try simp [World.setCell]); omega
        case c4 =>
          intro v5 w5 ho5 hg5 hs5 _ hb5 _
          obtain ⟨A5, cc5, rfl, _⟩ := ho5.form
          rw [HE.out] at ho5 ⊢
          have O5 := Lib.hid ho5
          have hX5 : w5.heap[w.heap.size + 1]? = _ := (hb5.block _ (by have := Z0.out; omega)).trans X1c.out
          have hX0 : w5.heap[w.heap.size]? = _ := (hb5.block _ (by have := Z0.out; omega)).trans XC.out
          have c5 := blk_cell hX5
          have f5 := blk_frozen hX5
          have z5 := lt_of_block hX5
          have c50 : w5.cell? ⟨w.heap.size, 0, none⟩ = some (.int .i64 l) := by rw [blk_cell hX0]; rfl
          have B5 := Lib.hid (HB.out.trans (hb5.mono (by have := Z0.out; omega)))
          clear c0 c00 c3 f3 z3 z0 ho5 hg5 hs5 hb5 hX5 hX0
          go_wp2_with fail
          exact bodyPost_ret (v := .agg #[.int .i64 l, .slice A5 (addR m x c).length cc5]) (by simp only [results, Tryz.results83]; go_simp) rfl ⟨_, _, rfl, (((O5.out.setCellB (p := ⟨w.heap.size + 1, 0, none⟩) (by have := Z0.out; simp only; omega)).setCellB (p := ⟨w.heap.size + 1, 1, none⟩) (by have := Z0.out; simp only; omega)).slT), Below.setCell (p := ⟨w.heap.size + 1, 1, none⟩) (Below.setCell (p := ⟨w.heap.size + 1, 0, none⟩) B5.out (by simp) _) (by simp) _⟩
      · simp only [putL, if_true, List.append_nil] at hE
        subst hE
        go_wp2_with fail
        exact bodyPost_ret (v := .agg #[.int .i64 l, .slice Ao (addR m x c).length co]) (by simp only [results, Tryz.results83]; go_simp) rfl ⟨_, _, rfl, (((HO.out.setCellB (p := ⟨w.heap.size + 1, 0, none⟩) (by have := Z0.out; simp only; omega)).setCellB (p := ⟨w.heap.size + 1, 1, none⟩) (by have := Z0.out; simp only; omega)).slT), Below.setCell (p := ⟨w.heap.size + 1, 1, none⟩) (Below.setCell (p := ⟨w.heap.size + 1, 0, none⟩) HB.out (by simp) _) (by simp) _⟩
end Go.Proofs.YtajhjbiokbgebaaGreat
/- Reference 10: Add. -/
namespace Go.Proofs.YtajhjbiokbgebaaGreat
open Go.ChangeShapes Go.WideShapes Go.ChangeAt Go.RowKit
set_option linter.unusedVariables false
set_option linter.unusedSimpArgs false
set_option maxRecDepth 100000

set_option maxHeartbeats 4000000 in
theorem ref10_Add (w : World) (l : Nat) (A : Option Addr) (cap : Nat) (m : List Nd) (x c : Int) (hl : 1 ≤ l ∧ l ≤ 48) (hS : SlT w 96 encN A m) (hm : BagL l m) (hlen : m.length ≤ 65536) (hc2 : c ≤ 9223372036854775807) :
    Calls Tryz.prog 78 #[bagV l A m.length cap, .int .i64 x, .int .i64 c] w fun e w' => ∃ A' cap', e = .returned (.tuple #[bagV l A' (addB l m x c).1.length cap', .int .i64 (addB l m x c).2]) ∧ SlT w' 96 encN A' (addB l m x c).1 ∧ Below w.heap.size w w' := by
  have HS := Lib.hid hS
  have HP := Lib.hid (fun W => ref2_Power W l (by omega))
  have hval : ∀ x ∈ m, 1 ≤ x.2 := fun y hy => (hm.val y hy).2.2
  have HT := Lib.hid (fun W h => ref10_Total W l A cap m h hval hm.sum)
  have hsum := hm.sum
  have hsum0 := hm.sum0
  have HU := Lib.hid hm.up
  have HVAL := Lib.hid hval
  unfold bagV at HT ⊢
  clear hS hval hm
  have X0 : Hid (((w.alloc (.cells #[.int .i64 l, .slice A m.length cap] 31)).alloc (.cells #[.int .i64 0, .slice none 0 0] 31)).heap[w.heap.size]? = some (.cells #[.int .i64 l, .slice A m.length cap] 31 (0, 0))) := Lib.hid ((heap_new_lt _ _ _ (by simp)).trans (heap_alloc_new w _))
  have X1 : Hid (((w.alloc (.cells #[.int .i64 l, .slice A m.length cap] 31)).alloc (.cells #[.int .i64 0, .slice none 0 0] 31)).heap[w.heap.size + 1]? = some (.cells #[.int .i64 0, .slice none 0 0] 31 (0, 0))) := Lib.hid (heap_new_at (w.alloc _) _ _ (by simp))
  have BW0 : Hid (Below w.heap.size w ((w.alloc (.cells #[.int .i64 l, .slice A m.length cap] 31)).alloc (.cells #[.int .i64 0, .slice none 0 0] 31))) := Lib.hid (by repeat (first | with_reducible exact Below.refl _ _ | with_reducible assumption | ((with_reducible refine Below.setCell ?_ ?_ _); rotate_left; · (first | omega | exact Nat.le_refl _ | (simp <;> omega))) | (with_reducible refine Below.allocW ?_ _) | (with_reducible refine Below.drew ?_) | (with_reducible refine Below.extW ?_ _)))
  have Z0 : Hid (((w.alloc (.cells #[.int .i64 l, .slice A m.length cap] 31)).alloc (.cells #[.int .i64 0, .slice none 0 0] 31)).heap.size = w.heap.size + 1 + 1) := Lib.hid (by simp)
  obtain ⟨p, hp⟩ : ∃ p : Int, p = 2 ^ l := ⟨_, rfl⟩
  have hv : isVal l x = (decide (0 ≤ x) && decide (x < p)) := by unfold isVal; rw [hp]
  rw [← hp] at HP
  have KS : Hid (∀ W', Below w.heap.size w W' → SlT W' 96 encN A m) := Lib.hid fun W' hb => HS.out.below hb
  have cd : c < 1 ∨ decide (c < 1) = false := by
    by_cases h : c < 1
    · exact .inl h
    · exact .inr (decide_eq_false h)
  by_cases h1 : x < 0
  · have e1 : addB l m x c = (m, 3) := by unfold addB; rw [if_pos (by rw [hv]; simp; omega)]
    rw [e1]
    clear e1 hv hp
    go_enter Tryz.func78, Tryz.ntmps78
    go_wp2_with fail
    exact bodyPost_ret (v := .tuple #[.agg #[.int .i64 l, .slice A m.length cap], .int .i64 3]) (by simp only [results, Tryz.results78]; go_simp) rfl ⟨A, cap, rfl, KS.out _ (by repeat (first | with_reducible exact Below.refl _ _ | with_reducible assumption | ((with_reducible refine Below.setCell ?_ ?_ _); rotate_left; · (first | omega | exact Nat.le_refl _ | (simp <;> omega))) | (with_reducible refine Below.allocW ?_ _) | (with_reducible refine Below.drew ?_) | (with_reducible refine Below.extW ?_ _))), (by repeat (first | with_reducible exact Below.refl _ _ | with_reducible assumption | ((with_reducible refine Below.setCell ?_ ?_ _); rotate_left; · (first | omega | exact Nat.le_refl _ | (simp <;> omega))) | (with_reducible refine Below.allocW ?_ _) | (with_reducible refine Below.drew ?_) | (with_reducible refine Below.extW ?_ _)))⟩
  · have h1' : decide (x < 0) = false := by simpa using h1
    by_cases h2 : p ≤ x
    · have e1 : addB l m x c = (m, 3) := by unfold addB; rw [if_pos (by rw [hv]; simp; omega)]
      rw [e1]
      clear e1 hv hp
      go_enter Tryz.func78, Tryz.ntmps78
      go_upto_region 1 with fail
      generalize (w.alloc (.cells #[.int .i64 l, .slice A m.length cap] 31)).alloc (.cells #[.int .i64 0, .slice none 0 0] 31) = W0 at X0 X1 BW0 Z0 ⊢
      have c0 := blk_cell X0.out
      have z0 := lt_of_block X0.out
      go_wp2_with fail
      refine (HP.out _).mono ?_
      rintro e w1 ⟨rfl, hb1⟩
      have Y0 := blk_below X0.out hb1
      have Y1 := blk_below X1.out hb1
      have B1 := Lib.hid (BW0.out.trans (hb1.mono BW0.out.size))
      have hz1 : w.heap.size + 1 + 1 ≤ w1.heap.size := by have := hb1.size; have := Z0.out; omega
      clear c0 z0 X0 X1 hb1
      have c1 : w1.cell? ⟨w.heap.size, 0, none⟩ = some (.int .i64 l) := by rw [blk_cell Y0]; rfl
      have c2 : w1.cell? ⟨w.heap.size, 1, none⟩ = some (.slice A m.length cap) := by rw [blk_cell Y0]; rfl
      have z1 := lt_of_block Y0
      have d1 := blk_cell Y1
      have f1 := blk_frozen Y1
      have z2 := lt_of_block Y1
      go_wp2_with fail
      exact bodyPost_ret (v := .tuple #[.agg #[.int .i64 l, .slice A m.length cap], .int .i64 3]) (by simp only [results, Tryz.results78]; go_simp) rfl ⟨A, cap, rfl, KS.out _ (Below.setCell (p := ⟨w.heap.size + 1, 1, none⟩) (Below.setCell (p := ⟨w.heap.size + 1, 0, none⟩) B1.out (by simp) _) (by simp) _), (Below.setCell (p := ⟨w.heap.size + 1, 1, none⟩) (Below.setCell (p := ⟨w.heap.size + 1, 0, none⟩) B1.out (by simp) _) (by simp) _)⟩
    · have h2' : decide (p ≤ x) = false := by simpa using h2
      have hv1 : isVal l x = true := by rw [hv]; simp; omega
      have HV1 := Lib.hid (show ¬ (isVal l x = false) by simp [hv1])
      clear hv hp hv1
      rcases cd with h3 | h3
      · have e1 : addB l m x c = (m, 4) := by unfold addB; rw [if_neg HV1.out, if_pos h3]
        rw [e1]
        clear e1
        go_enter Tryz.func78, Tryz.ntmps78
        go_upto_region 1 with fail
        generalize (w.alloc (.cells #[.int .i64 l, .slice A m.length cap] 31)).alloc (.cells #[.int .i64 0, .slice none 0 0] 31) = W0 at X0 X1 BW0 Z0 ⊢
        have c0 := blk_cell X0.out
        have z0 := lt_of_block X0.out
        go_wp2_with fail
        refine (HP.out _).mono ?_
        rintro e w1 ⟨rfl, hb1⟩
        have Y0 := blk_below X0.out hb1
        have Y1 := blk_below X1.out hb1
        have B1 := Lib.hid (BW0.out.trans (hb1.mono BW0.out.size))
        have hz1 : w.heap.size + 1 + 1 ≤ w1.heap.size := by have := hb1.size; have := Z0.out; omega
        clear c0 z0 X0 X1 hb1
        have c1 : w1.cell? ⟨w.heap.size, 0, none⟩ = some (.int .i64 l) := by rw [blk_cell Y0]; rfl
        have c2 : w1.cell? ⟨w.heap.size, 1, none⟩ = some (.slice A m.length cap) := by rw [blk_cell Y0]; rfl
        have z1 := lt_of_block Y0
        have d1 := blk_cell Y1
        have f1 := blk_frozen Y1
        have z2 := lt_of_block Y1
        go_wp2_with fail
        exact bodyPost_ret (v := .tuple #[.agg #[.int .i64 l, .slice A m.length cap], .int .i64 4]) (by simp only [results, Tryz.results78]; go_simp) rfl ⟨A, cap, rfl, KS.out _ (Below.setCell (p := ⟨w.heap.size + 1, 1, none⟩) (Below.setCell (p := ⟨w.heap.size + 1, 0, none⟩) B1.out (by simp) _) (by simp) _), (Below.setCell (p := ⟨w.heap.size + 1, 1, none⟩) (Below.setCell (p := ⟨w.heap.size + 1, 0, none⟩) B1.out (by simp) _) (by simp) _)⟩
      · have h3' : ¬ c < 1 := by simpa using h3
        by_cases h4 : 72057594037927935 < sumR m + c
        · have e1 : addB l m x c = (m, 5) := by unfold addB; rw [if_neg HV1.out, if_neg h3', if_pos h4]
          rw [e1]
          clear e1
          obtain ⟨n, hn⟩ : ∃ n, n = sumR m := ⟨_, rfl⟩
          rw [← hn] at HT hsum hsum0 h4
          have h4' : 72057594037927935 - n < c := by omega
          clear hn h4
          go_enter Tryz.func78, Tryz.ntmps78
          go_upto_region 1 with fail
          generalize (w.alloc (.cells #[.int .i64 l, .slice A m.length cap] 31)).alloc (.cells #[.int .i64 0, .slice none 0 0] 31) = W0 at X0 X1 BW0 Z0 ⊢
          have c0 := blk_cell X0.out
          have z0 := lt_of_block X0.out
          go_wp2_with fail
          refine (HP.out _).mono ?_
          rintro e w1 ⟨rfl, hb1⟩
          have Y0 := blk_below X0.out hb1
          have Y1 := blk_below X1.out hb1
          have B1 := Lib.hid (BW0.out.trans (hb1.mono BW0.out.size))
          have hz1 : w.heap.size + 1 + 1 ≤ w1.heap.size := by have := hb1.size; have := Z0.out; omega
          clear c0 z0 X0 X1 hb1
          have c1 : w1.cell? ⟨w.heap.size, 0, none⟩ = some (.int .i64 l) := by rw [blk_cell Y0]; rfl
          have c2 : w1.cell? ⟨w.heap.size, 1, none⟩ = some (.slice A m.length cap) := by rw [blk_cell Y0]; rfl
          have z1 := lt_of_block Y0
          have d1 := blk_cell Y1
          have f1 := blk_frozen Y1
          have z2 := lt_of_block Y1
          go_wp2_with fail
          refine (HT.out _ (KS.out _ B1.out).sl).mono ?_
          rintro e w2 ⟨rfl, hb2⟩
          have Y0' := blk_below Y0 hb2
          have Y1' := blk_below Y1 hb2
          have B2 := Lib.hid (B1.out.trans (hb2.mono B1.out.size))
          have hz2 : w.heap.size + 1 + 1 ≤ w2.heap.size := by have := hb2.size; omega
          clear c1 c2 z1 d1 f1 z2 Y0 Y1
          have c1 : w2.cell? ⟨w.heap.size, 0, none⟩ = some (.int .i64 l) := by rw [blk_cell Y0']; rfl
          have c2 : w2.cell? ⟨w.heap.size, 1, none⟩ = some (.slice A m.length cap) := by rw [blk_cell Y0']; rfl
          have z1 := lt_of_block Y0'
          have d1 := blk_cell Y1'
          have f1 := blk_frozen Y1'
          have z2 := lt_of_block Y1'
          go_wp2_with fail
          exact bodyPost_ret (v := .tuple #[.agg #[.int .i64 l, .slice A m.length cap], .int .i64 5]) (by simp only [results, Tryz.results78]; go_simp) rfl ⟨A, cap, rfl, KS.out _ (Below.setCell (p := ⟨w.heap.size + 1, 1, none⟩) (Below.setCell (p := ⟨w.heap.size + 1, 0, none⟩) B2.out (by simp) _) (by simp) _), (Below.setCell (p := ⟨w.heap.size + 1, 1, none⟩) (Below.setCell (p := ⟨w.heap.size + 1, 0, none⟩) B2.out (by simp) _) (by simp) _)⟩
        · have e1 : addB l m x c = (addR m x c, 0) := by unfold addB; rw [if_neg HV1.out, if_neg h3', if_neg h4]
          rw [e1]
          clear e1
          have HPut := Lib.hid (fun W h => ref10_put W l A cap m x c h HU.out HVAL.out (by omega) (by omega) hlen)
          unfold bagV at HPut
          obtain ⟨n, hn⟩ : ∃ n, n = sumR m := ⟨_, rfl⟩
          rw [← hn] at HT hsum hsum0 h4
          have h4' : decide (72057594037927935 - n < c) = false := by simp; omega
          clear hn h4
          go_enter Tryz.func78, Tryz.ntmps78
          go_upto_region 1 with fail
          generalize (w.alloc (.cells #[.int .i64 l, .slice A m.length cap] 31)).alloc (.cells #[.int .i64 0, .slice none 0 0] 31) = W0 at X0 X1 BW0 Z0 ⊢
          have c0 := blk_cell X0.out
          have z0 := lt_of_block X0.out
          go_wp2_with fail
          refine (HP.out _).mono ?_
          rintro e w1 ⟨rfl, hb1⟩
          have Y0 := blk_below X0.out hb1
          have Y1 := blk_below X1.out hb1
          have B1 := Lib.hid (BW0.out.trans (hb1.mono BW0.out.size))
          have hz1 : w.heap.size + 1 + 1 ≤ w1.heap.size := by have := hb1.size; have := Z0.out; omega
          clear c0 z0 X0 X1 hb1
          have c1 : w1.cell? ⟨w.heap.size, 0, none⟩ = some (.int .i64 l) := by rw [blk_cell Y0]; rfl
          have c2 : w1.cell? ⟨w.heap.size, 1, none⟩ = some (.slice A m.length cap) := by rw [blk_cell Y0]; rfl
          have z1 := lt_of_block Y0
          have d1 := blk_cell Y1
          have f1 := blk_frozen Y1
          have z2 := lt_of_block Y1
          go_wp2_with fail
          refine (HT.out _ (KS.out _ B1.out).sl).mono ?_
          rintro e w2 ⟨rfl, hb2⟩
          have Y0' := blk_below Y0 hb2
          have Y1' := blk_below Y1 hb2
          have B2 := Lib.hid (B1.out.trans (hb2.mono B1.out.size))
          have hz2 : w.heap.size + 1 + 1 ≤ w2.heap.size := by have := hb2.size; omega
          clear c1 c2 z1 d1 f1 z2 Y0 Y1
          have c1 : w2.cell? ⟨w.heap.size, 0, none⟩ = some (.int .i64 l) := by rw [blk_cell Y0']; rfl
          have c2 : w2.cell? ⟨w.heap.size, 1, none⟩ = some (.slice A m.length cap) := by rw [blk_cell Y0']; rfl
          have z1 := lt_of_block Y0'
          have d1 := blk_cell Y1'
          have f1 := blk_frozen Y1'
          have z2 := lt_of_block Y1'
          go_wp2_with fail
          refine (HPut.out _ (KS.out _ B2.out).sl).mono ?_
          rintro e w3 ⟨A3, cap3, rfl, hS3, hb3⟩
          have B3 := Lib.hid (B2.out.trans (hb3.mono B2.out.size))
          have Y3 := blk_below Y1' hb3
          have hz3 : w.heap.size + 1 + 1 ≤ w3.heap.size := by have := hb3.size; omega
          have d3 := blk_cell Y3
          have f3 := blk_frozen Y3
          have z3 := lt_of_block Y3
          have S3 := Lib.hid hS3
          clear c1 c2 z1 d1 f1 z2 Y0' Y1' hS3 hb3
          go_wp2_with fail
          have T3 : TypeAt w3 (w.heap.size + 1) 31 := TypeAt.of Y3
          exact bodyPost_ret (v := .tuple #[.agg #[.int .i64 l, .slice A3 (addR m x c).length cap3], .int .i64 0]) (by simp only [results, Tryz.results78]; go_simp) rfl ⟨A3, cap3, rfl, (S3.out.setCellT (p := ⟨w.heap.size + 1, 0, none⟩) (u := .int .i64 l) T3 (by decide)).setCellT (p := ⟨w.heap.size + 1, 1, none⟩) T3.setCell (by decide), Below.setCell (p := ⟨w.heap.size + 1, 1, none⟩) (Below.setCell (p := ⟨w.heap.size + 1, 0, none⟩) B3.out (by simp) _) (by simp) _⟩
end Go.Proofs.YtajhjbiokbgebaaGreat
/- Chapter 10: bags that are made of readings. -/
namespace Go.Proofs.YtajhjbiokbgebaaGreat
open Go.ChangeShapes Go.WideShapes Go.ChangeAt Go.RowKit
set_option linter.unusedVariables false
set_option linter.unusedSimpArgs false
set_option maxRecDepth 100000

def madeB (l : Nat) (r : List Nd) : List Nd := r.foldl (fun m z => (addB l m z.1 z.2).1) []
theorem madeB_snoc {l : Nat} {r : List Nd} {q : Nat} (h : q < r.length) : madeB l (r.take (q + 1)) = (addB l (madeB l (r.take q)) r[q].1 r[q].2).1 := by
  unfold madeB
  rw [List.take_succ_eq_append_getElem h, List.foldl_append]; rfl
theorem foldB_bag {l : Nat} (r m : List Nd) (h : BagL l m) : BagL l (r.foldl (fun m z => (addB l m z.1 z.2).1) m) := by
  induction r generalizing m with
  | nil => exact h
  | cons z r ih => exact ih _ (h.addB _ _)
theorem madeB_bag (l : Nat) (r : List Nd) : BagL l (madeB l r) := foldB_bag r [] (.nil l)
theorem foldB_len {l : Nat} (r m : List Nd) : (r.foldl (fun m z => (addB l m z.1 z.2).1) m).length ≤ m.length + r.length := by
  induction r generalizing m with
  | nil => simp
  | cons z r ih =>
    have := ih (addB l m z.1 z.2).1
    have := addB_len l m z.1 z.2
    simp only [List.foldl_cons, List.length_cons]; omega
theorem madeB_len (l : Nat) (r : List Nd) : (madeB l r).length ≤ r.length := by have := foldB_len (l := l) r []; simpa [madeB] using this
set_option maxHeartbeats 4000000 in
theorem ref10_Of (w : World) (l : Nat) (A : Option Addr) (cap : Nat) (r : List Nd) (hl : 1 ≤ l ∧ l ≤ 48) (hS : Sl w w.heap.size encN A r) (hI : ints r) (hlen : r.length ≤ 65536) :
    Calls Tryz.prog 112 #[.int .i64 l, .slice A r.length cap] w fun e w' => ∃ A' cap', e = .returned (bagV l A' (madeB l r).length cap') ∧ SlT w' 96 encN A' (madeB l r) ∧ Below w.heap.size w w' := by
  have HS := Lib.hid hS
  have HI := Lib.hid hI
  unfold bagV
  clear hS hI
  have X0 : Hid (((w.alloc (.cells #[.int .i64 0, .slice none 0 0] 31)).alloc (.cells #[.int .i64 l, .slice none 0 0] 31)).heap[w.heap.size]? = some (.cells #[.int .i64 0, .slice none 0 0] 31 (0, 0))) := Lib.hid ((heap_new_lt _ _ _ (by simp)).trans (heap_alloc_new w _))
  have X1 : Hid (((w.alloc (.cells #[.int .i64 0, .slice none 0 0] 31)).alloc (.cells #[.int .i64 l, .slice none 0 0] 31)).heap[w.heap.size + 1]? = some (.cells #[.int .i64 l, .slice none 0 0] 31 (0, 0))) := Lib.hid (heap_new_at (w.alloc _) _ _ (by simp))
  have BW0 : Hid (Below w.heap.size w ((w.alloc (.cells #[.int .i64 0, .slice none 0 0] 31)).alloc (.cells #[.int .i64 l, .slice none 0 0] 31))) := Lib.hid (by repeat (first | with_reducible exact Below.refl _ _ | with_reducible assumption | ((with_reducible refine Below.setCell ?_ ?_ _); rotate_left; · (first | omega | exact Nat.le_refl _ | (simp <;> omega))) | (with_reducible refine Below.allocW ?_ _) | (with_reducible refine Below.drew ?_) | (with_reducible refine Below.extW ?_ _)))
  have Z0 : Hid (((w.alloc (.cells #[.int .i64 0, .slice none 0 0] 31)).alloc (.cells #[.int .i64 l, .slice none 0 0] 31)).heap.size = w.heap.size + 1 + 1) := Lib.hid (by simp)
  go_enter Tryz.func112, Tryz.ntmps112
  go_upto_region 2 with fail
  generalize (w.alloc (.cells #[.int .i64 0, .slice none 0 0] 31)).alloc (.cells #[.int .i64 l, .slice none 0 0] 31) = W0 at X0 X1 BW0 Z0 ⊢
  go_wp2_with fail
  go_loopw [6] (fun j wr => ∃ (q : Nat) (A1 : Option Addr) (c1 : Nat), q ≤ r.length ∧ j = .int .i64 q ∧ wr.heap[w.heap.size]? = some (.cells #[.int .i64 0, .slice none 0 0] 31 (0, 0)) ∧ wr.heap[w.heap.size + 1]? = some (.cells #[.int .i64 l, .slice A1 (madeB l (r.take q)).length c1] 31 (0, 0)) ∧ SlT wr 96 encN A1 (madeB l (r.take q)) ∧ w.heap.size + 1 + 1 ≤ wr.heap.size ∧ Below w.heap.size w wr) (fun j _ => r.length - (intOf j).toNat)
  case atStart => exact ⟨0, none, 0, Nat.zero_le _, rfl, X0.out, X1.out, .nil, by rw [Z0.out]; exact Nat.le_refl _, BW0.out⟩
  case round =>
    obtain ⟨q, A1, c1, hq, rfl, hX, hY, hS1, hz, hB⟩ := hrel
    have S1 := Lib.hid hS1
    have HX := Lib.hid hX
    have HY := Lib.hid hY
    have HB := Lib.hid hB
    have k1 := blk_cell hY
    have z1 := lt_of_block hY
    clear X0 X1 BW0 Z0 hS1
    by_cases hlt : q < r.length
    · have hqi : (q : Int) < (r.length : Int) := by omega
      have HE := Lib.hid (madeB_snoc (l := l) hlt)
      obtain ⟨b, off, rfl, hb, hc2⟩ := HS.out.at_ hlt
      have d0 := (hB.cell (p := ⟨b, off + q * 2 + 1, none⟩) hb).trans (hc2 1 (.int .i64 r[q].2) rfl)
      have d1 := (hB.cell (p := ⟨b, off + q * 2, none⟩) hb).trans (by have := hc2 0 (.int .i64 r[q].1) rfl; simpa using this)
      have lb : b < wr.heap.size := Nat.lt_of_lt_of_le hb hB.size
      have hi := HI.out _ (List.getElem_mem hlt)
      have hml : (madeB l (r.take q)).length ≤ 65536 := by have := madeB_len l (r.take q); simp at this; omega
      have HAdd := Lib.hid (fun W (h : SlT W 96 encN A1 (madeB l (r.take q))) => ref10_Add W l A1 c1 (madeB l (r.take q)) r[q].1 r[q].2 hl h (madeB_bag l _) hml hi.2.2)
      unfold bagV at HAdd
      generalize r[q].1 = u at d1 HE HAdd
      generalize r[q].2 = v at d0 HE HAdd
      generalize madeB l (r.take q) = M at S1 HY k1 HE HAdd hml hY
      clear hc2 hX hY hi
      go_upto_region 5 with fail
      go_region_with (first
        | (go_at_call 78; refine (HAdd.out _ S1.out.drew).mono ?_; rintro e w2 ⟨A2, c2, rfl, hS2, hb2⟩; have hY2 := blk_below (w := wr.drew) HY.out hb2; have k2 := blk_cell hY2; have f2 := blk_frozen hY2; have z2 := lt_of_block hY2))
      all_goals
        have hX2 := blk_below (w := wr.drew) HX.out hb2
        have T2 : TypeAt w2 (w.heap.size + 1) 31 := TypeAt.of hY2
        have B2 : Below w.heap.size w w2 := Below.then_ (Below.drew HB.out) hb2
        have hz2 : w.heap.size + 1 + 1 ≤ w2.heap.size := Nat.le_trans hz hb2.size
        have nX := (heap_set_at (i := 0) hY2 (.int .i64 l))
        have nX2 := (heap_set_at (i := 1) nX (.slice A2 (addB l M u v).1.length c2))
        have nZ := (Below.heap_setCell (w2.setCell ⟨w.heap.size + 1, 0, none⟩ (.int .i64 l)) ⟨w.heap.size + 1, 1, none⟩ (.slice A2 (addB l M u v).1.length c2) w.heap.size (by simp)).trans ((Below.heap_setCell w2 ⟨w.heap.size + 1, 0, none⟩ (.int .i64 l) w.heap.size (by simp)).trans hX2)
        have nS := (hS2.setCellT (p := ⟨w.heap.size + 1, 0, none⟩) (u := .int .i64 l) T2 (by decide)).setCellT (p := ⟨w.heap.size + 1, 1, none⟩) (u := .slice A2 (addB l M u v).1.length c2) T2.setCell (by decide)
        have nB := Below.setCell (p := ⟨w.heap.size + 1, 1, none⟩) (Below.setCell (p := ⟨w.heap.size + 1, 0, none⟩) B2 (by simp) (.int .i64 l)) (by simp) (.slice A2 (addB l M u v).1.length c2)
        have N := Lib.hid (And.intro nZ (And.intro nX2 nS))
        have NB := Lib.hid nB
        clear hX2 T2 B2 nX nX2 nZ nS nB hS2
        go_wp2_with fail
        go_roundw
        case rel => exact ⟨q + 1, A2, c2, by omega, by go_num, N.out.1, by rw [HE.out]; exact N.out.2.1, by rw [HE.out]; exact N.out.2.2, by simp [World.setCell]; exact hz2, NB.out⟩
        case measure => simp [intOf]; omega
    · obtain rfl : q = r.length := by omega
      have hqi : decide ((r.length : Int) < (r.length : Int)) = false := by simp
      rw [List.take_length] at HY S1
      have S1 := S1
      have cX := blk_cell HX.out
      have fX := blk_frozen HX.out
      have zX := lt_of_block HX.out
      have kY := blk_cell HY.out
      have TX : TypeAt wr w.heap.size 31 := TypeAt.of HX.out
      clear k1 hX hY
      go_wp2_with fail
      exact bodyPost_ret (v := .agg #[.int .i64 l, .slice A1 (madeB l r).length c1]) (by simp only [results, Tryz.results112]; go_simp) rfl ⟨A1, c1, rfl, (S1.out.setCellT (p := ⟨w.heap.size, 0, none⟩) (u := .int .i64 l) TX (by decide)).setCellT (p := ⟨w.heap.size, 1, none⟩) TX.setCell (by decide), Below.setCell (p := ⟨w.heap.size, 1, none⟩) (Below.setCell (p := ⟨w.heap.size, 0, none⟩) HB.out (by simp) _) (by simp) _⟩
end Go.Proofs.YtajhjbiokbgebaaGreat
/- Chapter 10: Made. -/
namespace Go.Proofs.YtajhjbiokbgebaaGreat
open Go.ChangeShapes Go.WideShapes Go.ChangeAt Go.RowKit
set_option linter.unusedVariables false
set_option linter.unusedSimpArgs false
set_option maxRecDepth 100000

theorem BagS.setCellB {w : World} {base g : Nat} {l s : Int} {m : List Nd} (h : BagS w base g l s m) {p : Addr} (hp : p.block < base) (u : Value) : BagS (w.setCell p u) base g l s m := by
  obtain ⟨v, hh, hg, ho⟩ := h
  exact ⟨v, (Below.heap_setCell _ _ _ _ (by omega)).trans hh, hg, ho.setCellB hp⟩
theorem law10_Made_no (w : World) (l : Int) (v : Value) (h : l < 1 ∨ 48 < l) :
    Calls Tryz.prog 44 #[.int .i64 l, v] w fun e w' => e = .returned (.tuple #[.pointer none, bagV 0 none 0 0]) ∧ Below w.heap.size w w' := by
  have HN := Lib.hid (fun W => bag_New_no W l h)
  have BW0 : Below w.heap.size w (w.alloc (.cells #[.int .i64 0, .slice none 0 0] 31)) := (by repeat (first | with_reducible exact Below.refl _ _ | with_reducible assumption | ((with_reducible refine Below.setCell ?_ ?_ _); rotate_left; · (first | omega | exact Nat.le_refl _ | (simp <;> omega))) | (with_reducible refine Below.allocW ?_ _) | (with_reducible refine Below.drew ?_) | (with_reducible refine Below.extW ?_ _)))
  have X0 := heap_alloc_new w (.cells #[.int .i64 0, .slice none 0 0] 31)
  have HX := Lib.hid (And.intro BW0 X0)
  clear BW0 X0
  unfold bagV
  go_enter Tryz.func44, Tryz.ntmps44
  go_wp2_with fail
  refine (HN.out _).mono ?_
  rintro e w1 ⟨rfl, hb1⟩
  have Y := blk_below HX.out.2 hb1
  have c := blk_cell Y
  have f := blk_frozen Y
  have z := lt_of_block Y
  have B1 := Lib.hid (Below.then_ HX.out.1 hb1)
  clear hb1 Y
  go_wp2_with fail
  exact bodyPost_ret (v := .tuple #[.pointer none, .agg #[.int .i64 0, .slice none 0 0]]) (by simp only [results, Tryz.results44]; go_simp) rfl ⟨rfl, Below.setCell (p := ⟨w.heap.size, 1, none⟩) (Below.setCell (p := ⟨w.heap.size, 0, none⟩) B1.out (by simp) _) (by simp) _⟩
set_option maxHeartbeats 4000000 in
theorem law10_Made (w : World) (l : Nat) (A : Option Addr) (cap : Nat) (r : List Nd) (hl : 1 ≤ l ∧ l ≤ 48) (hS : Sl w w.heap.size encN A r) (hI : ints r) (hlen : r.length ≤ 65536) :
    Calls Tryz.prog 44 #[.int .i64 l, .slice A r.length cap] w fun e w' => ∃ g A' cap', e = .returned (.tuple #[.pointer (some ⟨g, 0, none⟩), bagV l A' (madeB l r).length cap']) ∧ BagAt w' w.heap.size g l (madeB l r) ∧ SlT w' 96 encN A' (madeB l r) ∧ Below w.heap.size w w' := by
  have HN := Lib.hid (fun W => bag_New W l (by omega) (by omega))
  have HO := Lib.hid (fun W h => ref10_Of W l A cap r hl h hI hlen)
  have HS := Lib.hid hS
  have HI := Lib.hid hI
  have BW0 : Hid (Below w.heap.size w (w.alloc (.cells #[.int .i64 0, .slice none 0 0] 31))) := Lib.hid (by repeat (first | with_reducible exact Below.refl _ _ | with_reducible assumption | ((with_reducible refine Below.setCell ?_ ?_ _); rotate_left; · (first | omega | exact Nat.le_refl _ | (simp <;> omega))) | (with_reducible refine Below.allocW ?_ _) | (with_reducible refine Below.drew ?_) | (with_reducible refine Below.extW ?_ _)))
  have X0 : Hid ((w.alloc (.cells #[.int .i64 0, .slice none 0 0] 31)).heap[w.heap.size]? = some (.cells #[.int .i64 0, .slice none 0 0] 31 (0, 0))) := Lib.hid (heap_alloc_new w _)
  have Z0 : Hid ((w.alloc (.cells #[.int .i64 0, .slice none 0 0] 31)).heap.size = w.heap.size + 1) := Lib.hid (by simp)
  unfold bagV at HO ⊢
  clear hS hI
  go_enter Tryz.func44, Tryz.ntmps44
  go_upto_region 1 with fail
  generalize w.alloc (.cells #[.int .i64 0, .slice none 0 0] 31) = W0 at X0 BW0 Z0 ⊢
  go_wp2_with fail
  refine (HN.out _).mono ?_
  rintro e w1 ⟨rfl, hB1, hb1⟩
  have Y1 := Lib.hid (blk_below X0.out hb1)
  have z1 := hb1.size
  obtain ⟨g, hg⟩ : ∃ g, g = W0.heap.size := ⟨_, rfl⟩
  have B1 := Lib.hid (And.intro (show BagAt w1 W0.heap.size g l [] by rw [hg]; exact hB1) hb1)
  have G := Lib.hid (And.intro hg Z0.out)
  rw [show (Value.tuple #[.pointer (some ⟨W0.heap.size, 0, none⟩), .int .i64 0]) = .tuple #[.pointer (some ⟨g, 0, none⟩), .int .i64 0] by rw [hg]]
  clear hB1 hb1 hg
  have rl : (r.length : Int) ≤ 65536 := by omega
  go_wp2_with fail
  go_loopw [24] (fun j wr => ∃ q : Nat, q ≤ r.length ∧ j = .int .i64 q ∧ BagAt wr W0.heap.size g l (madeB l (r.take q)) ∧ Below W0.heap.size W0 wr) (fun j _ => r.length - (intOf j).toNat)
  case atStart => exact ⟨0, Nat.zero_le _, rfl, B1.out.1, B1.out.2⟩
  case round =>
    obtain ⟨q, hq, rfl, hA, hB⟩ := hrel
    have HA := Lib.hid hA
    have HB := Lib.hid hB
    have hz := hB.size
    have hBw := Lib.hid (BW0.out.trans (hB.mono BW0.out.size))
    clear hA
    by_cases hlt : q < r.length
    · have hqi : (q : Int) < (r.length : Int) := by omega
      have HE := Lib.hid (madeB_snoc (l := l) hlt)
      obtain ⟨b, off, rfl, hb, hc2⟩ := HS.out.at_ hlt
      have d0 := (hBw.out.cell (p := ⟨b, off + q * 2 + 1, none⟩) hb).trans (hc2 1 (.int .i64 r[q].2) rfl)
      have d1 := (hBw.out.cell (p := ⟨b, off + q * 2, none⟩) hb).trans (by have := hc2 0 (.int .i64 r[q].1) rfl; simpa using this)
      have lb : b < wr.heap.size := Nat.lt_of_lt_of_le hb hBw.out.size
      have hi := HI.out _ (List.getElem_mem hlt)
      have hml : (madeB l (r.take q)).length ≤ 65536 := by have := madeB_len l (r.take q); simp at this; omega
      have HAdd := Lib.hid (fun W h hb => bag_Add W W0.heap.size g l (madeB l (r.take q)) r[q].1 r[q].2 hl h (madeB_bag l _) hi.2.2 hml hb)
      generalize r[q].1 = u at d1 HE HAdd
      generalize r[q].2 = v at d0 HE HAdd
      clear hc2 hi hB
      go_wp2_with fail
      refine (HAdd.out _ (HA.out.below ((Below.refl _ _).alloc (Nat.le_refl _) _)) (by simp; omega)).mono ?_
      rintro e w2 ⟨rfl, hB2, hb2⟩
      have B2 := Lib.hid (And.intro hB2 ((HB.out.alloc (by omega) _).trans hb2))
      clear hB2 hb2
      go_wp2_with fail
      go_roundw
      case rel => exact ⟨q + 1, by omega, by go_num, by rw [HE.out]; exact B2.out.1, B2.out.2⟩
      case measure => simp [intOf]; omega
    · obtain rfl : q = r.length := by omega
      rw [List.take_length] at HA
      have hqi : decide ((r.length : Int) < (r.length : Int)) = false := by simp
      have S1 := Lib.hid (HS.out.keep (B' := wr.heap.size) hBw.out.size fun p hp => hBw.out.cell hp)
      have Y := blk_below X0.out hB
      have HY := Lib.hid Y
      clear Y hB
      go_wp2_with fail
      refine (HO.out _ S1.out).mono ?_
      rintro e w2 ⟨A2, c2, rfl, hS2, hb2⟩
      have Y2 := blk_below HY.out hb2
      have k2 := blk_cell Y2
      have f2 := blk_frozen Y2
      have z2 := lt_of_block Y2
      have T2 : TypeAt w2 w.heap.size 31 := TypeAt.of Y2
      have HA2 := Lib.hid (HA.out.below hb2)
      have B2 := Lib.hid (Below.then_ hBw.out hb2)
      have S2 := Lib.hid hS2
      clear Y2 hS2 hb2
      go_wp2_with fail
      exact bodyPost_ret (v := .tuple #[.pointer (some ⟨g, 0, none⟩), .agg #[.int .i64 l, .slice A2 (madeB l r).length c2]]) (by simp only [results, Tryz.results44]; go_simp) rfl ⟨g, A2, c2, rfl, ((HA2.out.setCellB (p := ⟨w.heap.size, 0, none⟩) (by have := G.out; simp only; omega) (.int .i64 l)).setCellB (p := ⟨w.heap.size, 1, none⟩) (by have := G.out; simp only; omega) _).mono (by have := G.out; omega), (S2.out.setCellT (p := ⟨w.heap.size, 0, none⟩) (u := .int .i64 l) T2 (by decide)).setCellT (p := ⟨w.heap.size, 1, none⟩) T2.setCell (by decide), Below.setCell (p := ⟨w.heap.size, 1, none⟩) (Below.setCell (p := ⟨w.heap.size, 0, none⟩) B2.out (by simp) _) (by simp) _⟩
end Go.Proofs.YtajhjbiokbgebaaGreat
/- Package audit: wrong. -/
namespace Go.Proofs.YtajhjbiokbgebaaGreat
open Go.ChangeShapes Go.WideShapes Go.ChangeAt Go.RowKit
set_option linter.unusedVariables false
set_option linter.unusedSimpArgs false
set_option maxRecDepth 100000

theorem audit_wrong_d (w : World) (b : Option Addr) : Calls Tryz.prog 96 #[.pointer none, .pointer b] w fun e w' => e = .returned (.int .i64 1) ∧ Below w.heap.size w w' := by
  go_enter Tryz.func96, Tryz.ntmps96
  go_wp2_with fail
  go_ret
  exact ⟨rfl, Below.refl _ _⟩
theorem audit_wrong_b (w : World) (g : Nat) : Calls Tryz.prog 96 #[.pointer (some ⟨g, 0, none⟩), .pointer none] w fun e w' => e = .returned (.int .i64 1) ∧ Below w.heap.size w w' := by
  go_enter Tryz.func96, Tryz.ntmps96
  go_wp2_with fail
  go_ret
  exact ⟨rfl, Below.refl _ _⟩
theorem audit_wrong (w : World) (g K l : Nat) (k : Int) (r : List Nd) (F : Nat → Prop) (base gb lb : Nat) (m : List Nd) (h : DigAt w g K l k r F) (hb : BagAt w base gb lb m) :
    Calls Tryz.prog 96 #[.pointer (some ⟨g, 0, none⟩), .pointer (some ⟨gb, 0, none⟩)] w fun e w' => e = .returned (.int .i64 (if l = lb then 0 else 6)) ∧ Below w.heap.size w w' := by
  have HC := Lib.hid (fun W h => digest_Conf W g K l k r F h)
  have HL := Lib.hid (fun W h => bag_L W base gb lb m h)
  have HD := Lib.hid h
  have HB := Lib.hid hb
  clear h hb
  by_cases he : l = lb
  · subst he
    rw [if_pos rfl]
    go_enter Tryz.func96, Tryz.ntmps96
    go_wp2_with fail
    refine (HC.out _ HD.out).mono ?_
    rintro e w1 ⟨rfl, hb1⟩
    go_wp2_with fail
    refine (HL.out _ (HB.out.below hb1)).mono ?_
    rintro e w2 ⟨rfl, hb2⟩
    go_wp2_with fail
    go_ret
    exact ⟨rfl, Below.then_ hb1 hb2⟩
  · rw [if_neg he]
    have he' : ((l : Int) == (lb : Int)) = false := by simp; omega
    have he2 : (l == lb) = false := by simpa using he
    go_enter Tryz.func96, Tryz.ntmps96
    go_wp2_with fail
    refine (HC.out _ HD.out).mono ?_
    rintro e w1 ⟨rfl, hb1⟩
    go_wp2_with fail
    refine (HL.out _ (HB.out.below hb1)).mono ?_
    rintro e w2 ⟨rfl, hb2⟩
    go_wp2_with fail
    go_ret
    exact ⟨rfl, Below.then_ hb1 hb2⟩
end Go.Proofs.YtajhjbiokbgebaaGreat
/- Package audit: Culprit. (KeysC: what slices.Sorted(maps.Keys(m)) gives: to be proved by the kit's SlIterI.) -/
namespace Go.Proofs.YtajhjbiokbgebaaGreat
open Go.ChangeShapes Go.WideShapes Go.ChangeAt Go.RowKit Go.Maps
set_option linter.unusedVariables false
set_option linter.unusedSimpArgs false
set_option maxRecDepth 100000

/-- The keys of a map, sorted. -/
def KeysC : Prop := ∀ (w : World) (b n : Nat) (D : DataW Unit), w.ownsMap Tryz.prog 3 (plainElem Tryz.prog 3) b n D → n ≤ 4194304 →
  Calls Tryz.prog 99 #[.map (some b)] w fun e w1 => ∃ fv, e = .returned fv ∧ Below w.heap.size w w1 ∧
    Calls Tryz.prog 98 #[fv] w1 fun e2 w2 => ∃ (A : Option Addr) (cap : Nat) (ss : List Int), e2 = .returned (.slice A ss.length cap) ∧ Sl w2 w2.heap.size encZ A ss ∧ ss.Pairwise (· ≤ ·) ∧ (∀ z, z ∈ ss ↔ Go.Maps.has D (.int .i64 z) = true) ∧ ss.length ≤ 4194304 ∧ Below w1.heap.size w1 w2
theorem upOf_pos {r : List Nd} {z : Int} (h : upOf r z) : 1 ≤ z := by obtain ⟨x, _, hz⟩ := h; exact (abv_pos hz).1
theorem upOf_le {r : List Nd} (hr : ints r) {z : Int} (h : upOf r z) : z ≤ 9223372036854775807 := by
  obtain ⟨x, hx, hz⟩ := h
  have := abv_le hz
  have := (hr x hx).1.2
  omega
set_option maxHeartbeats 4000000 in
theorem audit_Culprit (HK : KeysC) (w : World) (g K l : Nat) (k : Int) (r : List Nd) (F : Nat → Prop) (base gb : Nat) (m : List Nd) (h : DigAt w g K l k r F) (hb : BagAt w base gb l m) (hm : BagL l m) (hI : ints r) (hr : ∀ x ∈ r, 1 ≤ x.2) (hp : ∀ x ∈ r, 1 ≤ x.1) (hs : sumR r ≤ 72057594037927935) (hlen : r.length ≤ 65536) :
    Calls Tryz.prog 36 #[.pointer (some ⟨g, 0, none⟩), .pointer (some ⟨gb, 0, none⟩)] w fun e w' => ∃ a : Int × Int, e = .returned (.tuple #[.int .i64 a.1, .int .i64 a.2, .int .i64 0]) ∧ Seen (mrN l r m) (upOf r) a ∧ Below w.heap.size w w' := by
  have HW := Lib.hid (fun W h hb => audit_wrong W g K l k r F base gb l m h hb)
  simp only [if_true] at HW
  have HH := Lib.hid (fun W h => audit_has W g K l k r F h hI hr hp hs hlen)
  have HL := Lib.hid (fun W h => bag_L W base gb l m h)
  have HE := Lib.hid (fun W id hid => twig_Ends W l id hid)
  have HBt := Lib.hid (fun W x y h => bag_Between W base gb l m x y h hm)
  have HD := Lib.hid h
  have HB := Lib.hid hb
  have HUl := Lib.hid (fun z => upOf_le (z := z) hI)
  have HBd := Lib.hid (fun id => mrN_bound (l := l) hr (fun x hx => (hm.val x hx).2.2) hs hm.sum id)
  have HK := Lib.hid HK
  clear h hb hm hI hr hp hs
  go_enter Tryz.func36, Tryz.ntmps36
  go_wp2_with fail
  refine (HW.out _ HD.out HB.out).mono ?_
  rintro e w1 ⟨rfl, hb1⟩
  go_wp2_with fail
  refine (HH.out _ (HD.out.below hb1)).mono ?_
  rintro e w2 ⟨b, n, D, rfl, hM, hMI, _, hn, hb2⟩
  have M2 := Lib.hid hM
  have MI := Lib.hid hMI
  have B2 := Below.then_ hb1 hb2
  clear hM hMI hb1 hb2
  go_wp2_with fail
  refine (HK.out _ b n D M2.out hn).mono ?_
  rintro e w3 ⟨fv, rfl, hb3, hS⟩
  go_wp2_with fail
  refine hS.mono ?_
  rintro e w4 ⟨A, cap, ss, rfl, hSl, hup, hmem, hsl, hb4⟩
  have B4 := Lib.hid (Below.then_ (Below.then_ B2 hb3) hb4)
  have M4 := Lib.hid (ownsMap_below (ownsMap_below M2.out hb3) hb4)
  have S4 := Lib.hid hSl
  have HU := Lib.hid hup
  have HMm := Lib.hid (fun z => (hmem z).trans (MI.out.has z))
  clear hb3 hS hSl hup hmem hb4 B2 M2
  go_wp2_with fail
  go_loopw [27] (fun j wr => ∃ q : Nat, q ≤ ss.length ∧ j = .int .i64 q ∧ (∀ x ∈ ss.take q, mrN l r m x ≤ 0) ∧ Below w4.heap.size w4 wr) (fun j _ => ss.length - (intOf j).toNat)
  case atStart => exact ⟨0, Nat.zero_le _, rfl, by simp, Below.refl _ _⟩
  case round =>
    obtain ⟨q, hq, rfl, hle, hBr⟩ := hrel
    have HLe := Lib.hid hle
    have BR := Lib.hid hBr
    have BW := Lib.hid (B4.out.trans (hBr.mono B4.out.size))
    have DR := Lib.hid (HB.out.below BW.out)
    have MR := Lib.hid (ownsMap_below M4.out hBr)
    clear hle
    by_cases hlt : q < ss.length
    · have hqi : (q : Int) < (ss.length : Int) := by omega
      obtain ⟨bb, off, rfl, hbb, hc⟩ := S4.out.at_ hlt
      have d0 := (hBr.cell (p := ⟨bb, off + q, none⟩) hbb).trans (by have := hc 0 (.int .i64 ss[q]) rfl; simpa using this)
      have lb : bb < wr.heap.size := Nat.lt_of_lt_of_le hbb hBr.size
      have hx := (HMm.out ss[q]).1 (List.getElem_mem hlt)
      have hx1 := upOf_pos hx
      have hx2 := HUl.out _ hx
      have HF : Hid (0 < mrN l r m ss[q] → culIs (mrN l r m) ss (ss[q], mrN l r m ss[q])) := Lib.hid fun h => culIs_first HU.out hlt HLe.out h
      have HN : Hid (mrN l r m ss[q] ≤ 0 → ∀ y ∈ ss.take (q + 1), mrN l r m y ≤ 0) := Lib.hid fun h y hy => by
        rw [List.take_succ_eq_append_getElem hlt] at hy
        rcases List.mem_append.1 hy with hy | hy
        · exact HLe.out y hy
        · rw [List.mem_singleton.1 hy]; exact h
      have hkey : keyOf Tryz.prog 3 (.int .i64 ss[q]) = some (.int .i64 ss[q]) := keyOf_int_mk Tryz.underlying3 (WalkArith.wf_i64 (by omega))
      have HLk : Hid (∀ W, W.ownsMap Tryz.prog 3 (plainElem (H := Unit) Tryz.prog 3) b n D → (Instr.lookup 154 (.map (some b)) (.int .i64 ss[q]) false).run Tryz.prog W = .ok (.int .i64 (ownN r ss[q])) W) := Lib.hid fun W hW => by
        obtain ⟨c, h1, h2, _⟩ := hW.lookup_int keyI Tryz.underlying154 Tryz.underlying3 (zeroI W) hkey
        have h9 := h2.symm.trans (MI.out.at_ ss[q])
        obtain rfl : c = ownN r ss[q] := by simpa using h9
        exact h1
      have hbd := HBd.out ss[q]
      have HV : Hid (mrN l r m ss[q] = ownN r ss[q] - betwB m (endsOf l ss[q]).1 (endsOf l ss[q]).2.1) := Lib.hid rfl
      have HE2 := Lib.hid (fun W => HE.out W ss[q] hx2)
      obtain ⟨lo, hi, ok, he⟩ : ∃ lo hi ok, endsOf l ss[q] = (lo, hi, ok) := ⟨_, _, _, rfl⟩
      rw [he] at HE2 HV
      unfold endsV at HE2
      simp only at HE2 HV
      have b1 := hbd.1.1
      have b2 := hbd.1.2
      have b3 := (hbd.2 lo hi).1
      have b4 := (hbd.2 lo hi).2
      have HB2 := Lib.hid (fun W h => HBt.out W lo hi h)
      generalize betwB m lo hi = n2 at b3 b4 HB2 HV
      generalize ownN r ss[q] = n1 at b1 b2 HLk HV
      obtain ⟨v, hv⟩ : ∃ v, v = mrN l r m ss[q] := ⟨_, rfl⟩
      rw [← hv] at HF HN HV
      have vv := HV.out
      subst vv
      have HPos := Lib.hid (And.intro hx1 trivial)
      obtain ⟨x, hx0⟩ : ∃ x, x = ss[q] := ⟨_, rfl⟩
      rw [← hx0] at d0 HF HE2 HLk hx1 hx2
      clear hc hx hbd hv hx0 hkey he HV hBr
      go_wp2_with fail
      refine (HL.out _ DR.out).mono ?_
      rintro e w5 ⟨rfl, hb5⟩
      go_wp2_with fail
      refine (HE2.out _).mono ?_
      rintro e w6 ⟨rfl, hb6⟩
      have D6 := Lib.hid ((DR.out.below hb5).below hb6)
      have M6 := Lib.hid (ownsMap_below (ownsMap_below MR.out hb5) hb6)
      have B6 := Lib.hid (Below.then_ (Below.then_ BR.out hb5) hb6)
      have hlk : ∀ x', (Instr.lookup 154 (.map (some b)) (.int .i64 x) false).run Tryz.prog (ext w6 x') = .ok (.int .i64 n1) (ext w6 x') := fun x' => HLk.out _ (ownsMap_below M6.out (ext_below _ _))
      clear hb5 hb6
      go_wp2_with fail
      refine wp_region_ext (by kernel_rfl) (by kernel_rfl) ?_
      repeat (go_big_quiet_step ((go_at_call 101; exact quiet_ext (HB2.out _ (D6.out.below (ext_below _ _))))))
      refine wpQuiet_nil ?_
      intro w7 h7
      have B7 := Lib.hid (Below.then_ B6.out (below_of_ext h7))
      have BW7 := Lib.hid (B4.out.trans (B7.out.mono B4.out.size))
      clear h7 hlk
      by_cases hv : 0 < n1 - n2
      · have HF2 := HF.out hv
        go_wp2_with fail
        go_ret3
        exact ⟨(x, n1 - n2), rfl, ⟨ss, HMm.out, HF2, fun z hz => upOf_pos ((HMm.out z).1 hz)⟩, BW7.out⟩
      · have HN2 := Lib.hid (HN.out (by omega))
        have hv' : decide (0 < n1 - n2) = false := by simpa using hv
        go_wp2_with fail
        go_roundw
        case rel => exact ⟨q + 1, by omega, by go_num, HN2.out, B7.out⟩
        case measure => simp [intOf]; omega
    · obtain rfl : q = ss.length := by omega
      rw [List.take_length] at HLe
      have hqi : decide ((ss.length : Int) < (ss.length : Int)) = false := by simp
      go_wp2_with fail
      go_ret3
      exact ⟨(0, 0), rfl, ⟨ss, HMm.out, culIs_none HLe.out, fun z hz => upOf_pos ((HMm.out z).1 hz)⟩, BW.out⟩
end Go.Proofs.YtajhjbiokbgebaaGreat
/- The sorted keys of a map of the call's own. -/
namespace Go.Proofs.YtajhjbiokbgebaaGreat
open Go.ChangeShapes Go.WideShapes Go.ChangeAt Go.RowKit Go.Maps Go.Sort Go.Shelf
set_option linter.unusedVariables false
set_option linter.unusedSimpArgs false
set_option maxRecDepth 100000

theorem mem_intKeys {w : World} {b n : Nat} {D : DataW Unit} {R : Value → Option (DataW Unit × List MemPlace)} (hown : w.ownsMap Tryz.prog 3 R b n D) (z : Int) : z ∈ intKeys D ↔ Go.Maps.has D (.int .i64 z) = true := by
  obtain ⟨es, rfl, hko⟩ := hown.keysOf
  have hk : ∀ p ∈ es, ∃ x, p.1 = .int .i64 x := fun p hp => by
    obtain ⟨v, hv⟩ := hko p hp
    obtain ⟨x, _, hx, _⟩ := Maps.keyOf_i64 Tryz.underlying3 hv
    exact ⟨x, hx⟩
  rw [has_eq, List.any_eq_true]
  unfold intKeys
  rw [List.mem_map]
  constructor
  · rintro ⟨p, hp, rfl⟩
    obtain ⟨a, ha⟩ := hk p hp
    exact ⟨p, hp, by rw [ha]; simp [Lit.sameKey, Go.intOf]⟩
  · rintro ⟨p, hp, hs⟩
    obtain ⟨a, ha⟩ := hk p hp
    rw [ha] at hs
    exact ⟨p, hp, by rw [ha]; simpa [Lit.sameKey, Go.intOf] using hs⟩
theorem flatZ1 (l : List Int) : l.flatMap Go.Proofs.YtajhjbiokbgebaaGreat.encZ.enc = l.map (Value.int .i64) := by
  induction l with
  | nil => rfl
  | cons x l ih => rw [List.flatMap_cons, ih]; rfl
theorem sortsI (m : Nat) : AnyZI.SortsIn Tryz.prog Go.Proofs.Tryz.sortedI_ren Fence.wide m :=
  ⟨fun blk off cap ss W hH hblk hsz => callsIn_wide.2 (Go.Proofs.Tryz.slices_Sort_int blk off cap ss W hH hblk hsz),
   fun p cap W => callsIn_wide.2 (Go.Proofs.Tryz.slices_Sort_int_none p cap W)⟩
set_option maxHeartbeats 4000000 in
theorem keysC : KeysC := by
  intro w b n D hown hn
  have hbl := hown.lt
  have hsz : Maps.size D ≤ 4194304 := Nat.le_trans hown.size_le hn
  have hseq : SeqGives Fence.wide 2 Tryz.prog 180 #[.pointer (some ⟨w.heap.size, 0, none⟩)] (Value.int .i64) (fun ss => ss.Perm (intKeys D)) (Maps.size D) (w.alloc (.cells #[.map (some b)] 154)) :=
    AnyZI.keys_gives (ρ := Go.Proofs.Tryz.keysI_ren) { Go.Proofs.Tryz.keysI with } Fence.wide _ trivial rfl (by omega) w.heap.size b n D _ (by simp) (by simp) (ownsMap_below hown ((Below.refl _ w).alloc (Nat.le_refl _) _))
  have cK := AnyZI.keys_in Go.Proofs.Tryz.keysI Fence.wide 5 trivial rfl (some b) w
  have cS := AnyZI.sorted_in Go.Proofs.Tryz.sortedI Fence.wide 5 trivial trivial trivial trivial rfl (by omega) (sortsI _) (enters_of Tryz.func109 (by kernel_rfl) rfl) 180 #[.pointer (some ⟨w.heap.size, 0, none⟩)] trivial (enters_of Tryz.func180 (by kernel_rfl) rfl) _ _ (by simp only [maxLen]; omega) (by omega) _ hseq
  refine (callsIn_wide.1 cK).mono ?_
  rintro e w1 ⟨rfl, rfl⟩
  refine ⟨_, rfl, (Below.refl _ w).alloc (Nat.le_refl _) _, ?_⟩
  refine (callsIn_wide.1 cS).mono ?_
  rintro e w2 ⟨v, ss, rfl, hperm, hrow, hnil, hb⟩
  have hl : (ss.mergeSort (fun x y => decide (x ≤ y))).length = ss.length := List.length_mergeSort ss
  have hrow2 : w2.ownsRow (w.alloc (.cells #[.map (some b)] 154)).heap.size 3 1 v (ss.mergeSort (fun x y => decide (x ≤ y))).length ((ss.mergeSort (fun x y => decide (x ≤ y))).flatMap Go.Proofs.YtajhjbiokbgebaaGreat.encZ.enc) := by
    rw [hl, flatZ1]
    exact hrow
  have ho := Own.of_row hrow2 rfl (by decide)
  obtain ⟨A, cap, rfl, _, _, hSl, _⟩ := ho.form
  refine ⟨A, cap, ss.mergeSort (fun x y => decide (x ≤ y)), rfl, hSl, ?_, fun z => ?_, ?_, hb⟩
  · have := List.pairwise_mergeSort (le := fun x y : Int => decide (x ≤ y)) (fun a b c h1 h2 => by simp only [decide_eq_true_eq] at *; omega) (fun a b => by simp only [Bool.or_eq_true, decide_eq_true_eq]; omega) ss
    exact this.imp fun h => by simpa using h
  · rw [(List.mergeSort_perm ss _).mem_iff, hperm.mem_iff, mem_intKeys hown]
  · rw [hl, hperm.length_eq]
    obtain ⟨es, rfl, _⟩ := hown.keysOf
    simp only [intKeys, List.length_map]
    exact hsz
end Go.Proofs.YtajhjbiokbgebaaGreat
/- Package audit: Stands, and what cannot be held against one another. -/
namespace Go.Proofs.YtajhjbiokbgebaaGreat
open Go.ChangeShapes Go.WideShapes Go.ChangeAt Go.RowKit Go.Maps
set_option linter.unusedVariables false
set_option linter.unusedSimpArgs false
set_option maxRecDepth 100000

theorem audit_Culprit_err (w : World) (dv bv : Value) (c : Int) (hc : c ≠ 0) (h : Calls Tryz.prog 96 #[dv, bv] w fun e w' => e = .returned (.int .i64 c) ∧ Below w.heap.size w w') :
    Calls Tryz.prog 36 #[dv, bv] w fun e w' => e = .returned (.tuple #[.int .i64 0, .int .i64 0, .int .i64 c]) ∧ Below w.heap.size w w' := by
  have H := Lib.hid h
  have hc' : (c == 0) = false := by simpa using hc
  clear h hc
  go_enter Tryz.func36, Tryz.ntmps36
  go_wp2_with fail
  refine H.out.mono ?_
  rintro e w1 ⟨rfl, hb1⟩
  go_wp2_with fail
  go_ret3
  exact ⟨rfl, hb1⟩
theorem audit_Stands_err (w : World) (dv bv : Value) (c : Int) (hc : c ≠ 0) (h : Calls Tryz.prog 96 #[dv, bv] w fun e w' => e = .returned (.int .i64 c) ∧ Below w.heap.size w w') :
    Calls Tryz.prog 35 #[dv, bv] w fun e w' => e = .returned (.tuple #[.bool false, .int .i64 c]) ∧ Below w.heap.size w w' := by
  have H := Lib.hid (audit_Culprit_err w dv bv c hc h)
  have hc' : (c == 0) = false := by simpa using hc
  clear h hc
  go_enter Tryz.func35, Tryz.ntmps35
  go_wp2_with fail
  refine H.out.mono ?_
  rintro e w1 ⟨rfl, hb1⟩
  go_wp2_with fail
  go_ret2
  exact ⟨rfl, hb1⟩
theorem audit_Stands (HK : KeysC) (w : World) (g K l : Nat) (k : Int) (r : List Nd) (F : Nat → Prop) (base gb : Nat) (m : List Nd) (h : DigAt w g K l k r F) (hb : BagAt w base gb l m) (hm : BagL l m) (hI : ints r) (hr : ∀ x ∈ r, 1 ≤ x.2) (hp : ∀ x ∈ r, 1 ≤ x.1) (hs : sumR r ≤ 72057594037927935) (hlen : r.length ≤ 65536) :
    Calls Tryz.prog 35 #[.pointer (some ⟨g, 0, none⟩), .pointer (some ⟨gb, 0, none⟩)] w fun e w' => ∃ a : Int × Int, e = .returned (.tuple #[.bool (decide (sumR r = sumR m) && decide (a.1 = 0)), .int .i64 0]) ∧ Seen (mrN l r m) (upOf r) a ∧ Below w.heap.size w w' := by
  have HC := Lib.hid (fun W h hb => audit_Culprit HK W g K l k r F base gb m h hb hm hI hr hp hs hlen)
  have HN := Lib.hid (fun W h => digest_N W g K l k r F h)
  have HT := Lib.hid (fun W h => bag_Total W base gb l m h)
  have HD := Lib.hid h
  have HB := Lib.hid hb
  clear h hb hm hI hr hp hs HK
  generalize hn1 : sumR r = n1 at HN ⊢
  generalize hn2 : sumR m = n2 at HT ⊢
  go_enter Tryz.func35, Tryz.ntmps35
  go_wp2_with fail
  refine (HC.out _ HD.out HB.out).mono ?_
  rintro e w1 ⟨⟨a1, a2⟩, rfl, hSn, hb1⟩
  have HSn := Lib.hid hSn
  have B1 := Lib.hid hb1
  clear hSn
  simp only
  by_cases h0 : a1 = 0
  · subst h0
    go_wp2_with fail
    refine (HN.out _ (HD.out.below B1.out)).mono ?_
    rintro e w2 ⟨rfl, hb2⟩
    go_wp2_with fail
    refine (HT.out _ ((HB.out.below B1.out).below hb2)).mono ?_
    rintro e w3 ⟨rfl, hb3⟩
    have B3 := Lib.hid (Below.then_ (Below.then_ B1.out hb2) hb3)
    go_wp2_with fail
    go_ret2
    first | exact ⟨0, a2, by simp [BEq.beq], HSn.out, B3.out⟩ | exact ⟨(0, a2), by simp [BEq.beq], HSn.out, B3.out⟩ | trace_state
  · have h0' : (a1 == 0) = false := by simpa using h0
    go_wp2_with fail
    go_ret2
    first | exact ⟨a1, a2, by simp [h0], HSn.out, B1.out⟩ | exact ⟨(a1, a2), by simp [h0], HSn.out, B1.out⟩ | trace_state
end Go.Proofs.YtajhjbiokbgebaaGreat
/- Chapter 34: its example. -/
namespace Go.Proofs.YtajhjbiokbgebaaGreat
open Go.ChangeShapes Go.WideShapes Go.ChangeAt Go.RowKit
set_option linter.unusedVariables false
set_option linter.unusedSimpArgs false
set_option maxRecDepth 100000

def nodes34 : List Nd := [(1, 1), (4, 2)]
def readA : List Nd := [(0, 2), (3, 1)]
def readB : List Nd := [(0, 1), (3, 2)]
theorem ints_of {r : List Nd} (h : ∀ x ∈ r, (-9223372036854775808 ≤ x.1 ∧ x.1 ≤ 9223372036854775807) ∧ (-9223372036854775808 ≤ x.2 ∧ x.2 ≤ 9223372036854775807)) : ints r := h
theorem nodes34_ints : ints nodes34 := ints_of (by decide)
theorem readA_ints : ints readA := ints_of (by decide)
theorem readB_ints : ints readB := ints_of (by decide)
theorem load34 : loadErr 2 3 2 nodes34 = 0 := by decide +kernel
theorem madeA : madeB 2 readA = readA := by decide +kernel
theorem madeB' : madeB 2 readB = readB := by decide +kernel
theorem anc34 (z : Int) : z ∈ allAnc nodes34 ↔ upOf nodes34 z := allAnc_mem (by decide) z
theorem pos34 : ∀ z ∈ allAnc nodes34, 1 ≤ z := by decide +kernel
theorem seenA : Seen (mrN 2 nodes34 readA) (upOf nodes34) (0, 0) := ⟨allAnc nodes34, anc34, culIs_none (by decide +kernel), pos34⟩
theorem seenB : Seen (mrN 2 nodes34 readB) (upOf nodes34) (2, 1) := ⟨allAnc nodes34, anc34, .inr ⟨by decide +kernel, by decide +kernel, by decide +kernel, by decide +kernel⟩, pos34⟩
set_option maxHeartbeats 4000000 in
theorem alive34 (w : World) : Calls Tryz.prog 34 #[] w fun e w' => e = .returned (.bool true) ∧ Below w.heap.size w w' := by
  have HS := Lib.hid (sl_lit w encN nodes34 126 _ rfl)
  have HC := Lib.hid (digest_Load · 2 2 3 (some ⟨w.heap.size, 0, none⟩) 2 nodes34 load34 · nodes34_ints (by decide))
  go_enter Tryz.func34, Tryz.ntmps34
  go_wp2_with fail
  refine (HC.out _ (HS.out.keep (by simp) fun p hp => rfl)).mono ?_
  rintro e w1 ⟨g, F, rfl, hD, _, hb1⟩
  have B1 : Below w.heap.size w w1 := Below.then_ (by repeat (first | with_reducible exact Below.refl _ _ | with_reducible assumption | ((with_reducible refine Below.setCell ?_ ?_ _); rotate_left; · (first | omega | exact Nat.le_refl _ | (simp <;> omega))) | (with_reducible refine Below.allocW ?_ _) | (with_reducible refine Below.drew ?_) | (with_reducible refine Below.extW ?_ _))) hb1
  have s1 : w.heap.size ≤ w1.heap.size := B1.size
  have KD := Lib.hid hD
  have HA := Lib.hid (law10_Made · 2 (some ⟨w1.heap.size, 0, none⟩) 2 readA (by decide) · readA_ints (by decide))
  rw [madeA] at HA
  unfold bagV at HA
  have SA := Lib.hid (sl_lit w1 encN readA 96 _ rfl)
  clear hD
  go_wp2_with fail
  refine (HA.out _ (SA.out.keep (by simp) fun p hp => rfl)).mono ?_
  rintro e w2 ⟨ga, A2, c2, rfl, hBa, _, hb2⟩
  have al := fun (W : World) (o : Obj) => (Below.refl W.heap.size W).alloc (Nat.le_refl _) o
  have X3 := Lib.hid (And.intro (((KD.out.below (al _ _)).below hb2).below (al _ (.cells #[.int .i64 2, .slice A2 readA.length c2] 31))) (And.intro (hBa.below (al _ (.cells #[.int .i64 2, .slice A2 readA.length c2] 31))) (Below.then_ (Below.then_ (Below.then_ B1 (al _ _)) hb2) (al _ (.cells #[.int .i64 2, .slice A2 readA.length c2] 31)))))
  clear hBa hb2 KD
  go_upto_region 3 with fail
  generalize w2.alloc (.cells #[.int .i64 2, .slice A2 readA.length c2] 31) = w3 at X3 ⊢
  have HB := Lib.hid (law10_Made · 2 (some ⟨w3.heap.size, 0, none⟩) 2 readB (by decide) · readB_ints (by decide))
  rw [madeB'] at HB
  unfold bagV at HB
  have SB := Lib.hid (sl_lit w3 encN readB 96 _ rfl)
  go_wp2_with fail
  refine (HB.out _ (SB.out.keep (by simp) fun p hp => rfl)).mono ?_
  rintro e w4 ⟨gb, A4, c4, rfl, hBb, _, hb4⟩
  have X5 := Lib.hid (And.intro (((X3.out.1.below (al _ _)).below hb4).below (al _ (.cells #[.int .i64 2, .slice A4 readB.length c4] 31))) (And.intro (((X3.out.2.1.below (al _ _)).below hb4).below (al _ (.cells #[.int .i64 2, .slice A4 readB.length c4] 31))) (And.intro (hBb.below (al _ (.cells #[.int .i64 2, .slice A4 readB.length c4] 31))) (Below.then_ (Below.then_ (Below.then_ X3.out.2.2 (al _ _)) hb4) (al _ (.cells #[.int .i64 2, .slice A4 readB.length c4] 31))))))
  clear hBb hb4 X3
  go_upto_region 4 with fail
  generalize w4.alloc (.cells #[.int .i64 2, .slice A4 readB.length c4] 31) = w5 at X5 ⊢
  have bA : BagL 2 readA := madeA ▸ madeB_bag 2 readA
  have bB : BagL 2 readB := madeB' ▸ madeB_bag 2 readB
  go_wp2_with fail
  refine (audit_Stands keysC _ g 2 2 3 nodes34 F _ ga readA X5.out.1 X5.out.2.1 bA nodes34_ints (by decide) (by decide) (by decide) (by decide)).mono ?_
  rintro e w6 ⟨a, rfl, hSa, hb6⟩
  obtain rfl := hSa.unique seenA fun z => Iff.rfl
  rw [show (decide (sumR nodes34 = sumR readA) && decide (((0 : Int), (0 : Int)).1 = 0)) = true by decide]
  have X6 := Lib.hid (And.intro (X5.out.1.below hb6) (And.intro (X5.out.2.2.1.below hb6) (Below.then_ X5.out.2.2.2 hb6)))
  clear hSa hb6
  go_wp2_with fail
  refine (audit_Culprit keysC _ g 2 2 3 nodes34 F _ gb readB X6.out.1 X6.out.2.1 bB nodes34_ints (by decide) (by decide) (by decide) (by decide)).mono ?_
  rintro e w7 ⟨a, rfl, hSa, hb7⟩
  obtain rfl := hSa.unique seenB fun z => Iff.rfl
  have B7 := Lib.hid (Below.then_ X6.out.2.2 hb7)
  clear hSa hb7
  go_wp2_with fail
  go_ret
  exact ⟨rfl, B7.out⟩
end Go.Proofs.YtajhjbiokbgebaaGreat
/- Chapter 34: two. -/
namespace Go.Proofs.YtajhjbiokbgebaaGreat
open Go.ChangeShapes Go.WideShapes Go.ChangeAt Go.RowKit
set_option linter.unusedVariables false
set_option linter.unusedSimpArgs false
set_option maxRecDepth 100000

set_option maxHeartbeats 8000000 in
theorem law34_two (w : World) (l K lb : Nat) (k : Int) (r : List Nd) (A : Option Addr) (cap : Nat) (q : List Nd) (B : Option Addr) (cb : Nat) (hg : goodL l k K r) (hS : Sl w w.heap.size encN A r) (hI : ints r) (hSb : Sl w w.heap.size encN B q) (hIb : ints q) (hlb : 1 ≤ lb ∧ lb ≤ 48) (h1 : r.length ≤ 60) (h2 : q.length ≤ 60) :
    Calls Tryz.prog 33 #[loadedV l k K A r.length cap, .int .i64 lb, .slice B q.length cb] w fun e w' => ∃ g F gb A2 c2, e = .returned (.tuple #[.pointer (some ⟨g, 0, none⟩), .pointer (some ⟨gb, 0, none⟩), .agg #[.int .i64 k, .int .i64 l, .slice A r.length cap], bagV lb A2 (madeB lb q).length c2, .bool true]) ∧ DigAt w' g K l k r F ∧ BagAt w' w.heap.size gb lb (madeB lb q) ∧ SlT w' 96 encN A2 (madeB lb q) ∧ Below w.heap.size w w' := by
  have HC := Lib.hid (law16_Load · l K k A cap r hg · hI)
  have HM := Lib.hid (law10_Made · lb B cb q hlb · hIb (by omega))
  have HS := Lib.hid (And.intro hS hSb)
  unfold loadedV refDig at HC
  unfold bagV at HM ⊢
  unfold loadedV
  have r1 : decide ((60 : Int) < (r.length : Int)) = false := by simp; omega
  have r2 : decide ((60 : Int) < (q.length : Int)) = false := by simp; omega
  have r3 : (1 : Int) ≤ (lb : Int) := by omega
  have r4 : (lb : Int) ≤ 48 := by omega
  clear hS hSb hI hIb hg
  obtain ⟨W0, hW0⟩ : ∃ W0, W0 = ((w.alloc (.cells #[.int .i64 l, .int .i64 k, .int .i64 K, .slice A r.length cap] 48)).alloc (.cells #[.int .i64 0, .int .i64 0, .slice none 0 0] 63)).alloc (.cells #[.int .i64 0, .slice none 0 0] 31) := ⟨_, rfl⟩
  have Z0 : Hid (W0.heap.size = w.heap.size + 3) := Lib.hid (by rw [hW0]; simp)
  have BW0 := Lib.hid (show Below w.heap.size w W0 by rw [hW0]; exact (by repeat (first | with_reducible exact Below.refl _ _ | with_reducible assumption | ((with_reducible refine Below.setCell ?_ ?_ _); rotate_left; · (first | omega | exact Nat.le_refl _ | (simp <;> omega))) | (with_reducible refine Below.allocW ?_ _) | (with_reducible refine Below.drew ?_) | (with_reducible refine Below.extW ?_ _))))
  have X0 : Hid (W0.heap[w.heap.size]? = some (.cells #[.int .i64 l, .int .i64 k, .int .i64 K, .slice A r.length cap] 48 (0, 0))) := Lib.hid (by rw [hW0]; exact (heap_new_lt _ _ _ (by simp; omega)).trans ((heap_new_lt _ _ _ (by simp)).trans (heap_alloc_new w _)))
  have X1 : Hid (W0.heap[w.heap.size + 1]? = some (.cells #[.int .i64 0, .int .i64 0, .slice none 0 0] 63 (0, 0))) := Lib.hid (by rw [hW0]; exact (heap_new_lt _ _ _ (by simp)).trans (heap_new_at (w.alloc _) _ _ (by simp)))
  have X2 : Hid (W0.heap[w.heap.size + 2]? = some (.cells #[.int .i64 0, .slice none 0 0] 31 (0, 0))) := Lib.hid (by rw [hW0]; exact heap_new_at _ _ _ (by simp))
  go_enter Tryz.func33, Tryz.ntmps33
  go_upto_region 1 with fail
  rw [← hW0]
  have c0 := blk_cell X0.out
  have z0 := lt_of_block X0.out
  have S0 := Lib.hid (HS.out.1.keep (B' := W0.heap.size) BW0.out.size fun p hp => BW0.out.cell hp)
  clear hW0
  go_wp2_with fail
  refine (HC.out _ S0.out).mono ?_
  rintro e w1 ⟨g, F, rfl, hD, hF, hb1⟩
  have Y1 := blk_below X1.out hb1
  have Y2 := blk_below X2.out hb1
  have d1 := blk_cell Y1
  have f1 := blk_frozen Y1
  have z1 := lt_of_block Y1
  have hFw : ∀ b, F b → b ≠ w.heap.size + 1 := fun b hb => by have := hF b hb; have := Z0.out; omega
  have hFw2 : ∀ b, F b → b ≠ w.heap.size + 2 := fun b hb => by have := hF b hb; have := Z0.out; omega
  have y0 := heap_set_at (i := 0) Y1 (.int .i64 k)
  have y1 := heap_set_at (i := 1) y0 (.int .i64 l)
  have y2 := heap_set_at (i := 2) y1 (.slice A r.length cap)
  have D3 := ((hD.set (q := w.heap.size + 1) (o := 0) (u := .int .i64 k) hFw).set (q := w.heap.size + 1) (o := 1) (u := .int .i64 l) hFw).set (q := w.heap.size + 1) (o := 2) (u := .slice A r.length cap) hFw
  have B3 := ((((Below.then_ BW0.out hb1).setCell (p := ⟨w.heap.size + 1, 0, none⟩) (by simp) (.int .i64 k)).setCell (p := ⟨w.heap.size + 1, 1, none⟩) (by simp) (.int .i64 l)).setCell (p := ⟨w.heap.size + 1, 2, none⟩) (by simp) (.slice A r.length cap))
  have q2 := (Below.heap_setCell ((w1.setCell ⟨w.heap.size + 1, 0, none⟩ (.int .i64 k)).setCell ⟨w.heap.size + 1, 1, none⟩ (.int .i64 l)) ⟨w.heap.size + 1, 2, none⟩ (.slice A r.length cap) (w.heap.size + 2) (by simp)).trans ((Below.heap_setCell (w1.setCell ⟨w.heap.size + 1, 0, none⟩ (.int .i64 k)) ⟨w.heap.size + 1, 1, none⟩ (.int .i64 l) (w.heap.size + 2) (by simp)).trans ((Below.heap_setCell w1 ⟨w.heap.size + 1, 0, none⟩ (.int .i64 k) (w.heap.size + 2) (by simp)).trans Y2))
  have N := Lib.hid (And.intro y2 (And.intro q2 (And.intro D3 B3)))
  have HFW := Lib.hid (And.intro hFw hFw2)
  clear hb1 hD hF Y2 y0 y1 y2 D3 B3 q2 hFw hFw2 c0 z0
  go_upto_region 4 with fail
  generalize ((w1.setCell ⟨w.heap.size + 1, 0, none⟩ (.int .i64 k)).setCell ⟨w.heap.size + 1, 1, none⟩ (.int .i64 l)).setCell ⟨w.heap.size + 1, 2, none⟩ (.slice A r.length cap) = w3 at N ⊢
  clear d1 f1 z1 Y1
  have S3 := Lib.hid (HS.out.2.keep (B' := w3.heap.size) N.out.2.2.2.size fun p hp => N.out.2.2.2.cell hp)
  go_wp2_with fail
  refine (HM.out _ S3.out).mono ?_
  rintro e w4 ⟨gb, A2, c2, rfl, hBg, hS2, hb4⟩
  have Y2 := blk_below N.out.2.1 hb4
  have Y1 := blk_below N.out.1 hb4
  have d1 := blk_cell Y2
  have f1 := blk_frozen Y2
  have z1 := lt_of_block Y2
  have hz3 : w.heap.size + 3 ≤ w3.heap.size := by have := lt_of_block N.out.2.1; omega
  have y0 := heap_set_at (i := 0) Y2 (.int .i64 lb)
  have y1 := heap_set_at (i := 1) y0 (.slice A2 (madeB lb q).length c2)
  have q1 := (Below.heap_setCell (w4.setCell ⟨w.heap.size + 2, 0, none⟩ (.int .i64 lb)) ⟨w.heap.size + 2, 1, none⟩ (.slice A2 (madeB lb q).length c2) (w.heap.size + 1) (by simp)).trans ((Below.heap_setCell w4 ⟨w.heap.size + 2, 0, none⟩ (.int .i64 lb) (w.heap.size + 1) (by simp)).trans Y1)
  have T2 : TypeAt w4 (w.heap.size + 2) 31 := TypeAt.of Y2
  have D5 := ((N.out.2.2.1.below hb4).set (q := w.heap.size + 2) (o := 0) (u := .int .i64 lb) HFW.out.2).set (q := w.heap.size + 2) (o := 1) (u := .slice A2 (madeB lb q).length c2) HFW.out.2
  have G5 := ((hBg.setCellB (p := ⟨w.heap.size + 2, 0, none⟩) (by simp only; omega) (.int .i64 lb)).setCellB (p := ⟨w.heap.size + 2, 1, none⟩) (by simp only; omega) (.slice A2 (madeB lb q).length c2))
  have L5 := (hS2.setCellT (p := ⟨w.heap.size + 2, 0, none⟩) (u := .int .i64 lb) T2 (by decide)).setCellT (p := ⟨w.heap.size + 2, 1, none⟩) (u := .slice A2 (madeB lb q).length c2) T2.setCell (by decide)
  have B5 := ((Below.then_ N.out.2.2.2 hb4).setCell (p := ⟨w.heap.size + 2, 0, none⟩) (by simp) (.int .i64 lb)).setCell (p := ⟨w.heap.size + 2, 1, none⟩) (by simp) (.slice A2 (madeB lb q).length c2)
  have M := Lib.hid (And.intro q1 (And.intro y1 (And.intro D5 (And.intro G5 (And.intro L5 B5)))))
  clear Y1 y0 y1 q1 T2 D5 G5 L5 B5 hBg hS2 hb4
  go_upto_region 6 with fail
  generalize (w4.setCell ⟨w.heap.size + 2, 0, none⟩ (.int .i64 lb)).setCell ⟨w.heap.size + 2, 1, none⟩ (.slice A2 (madeB lb q).length c2) = w5 at M ⊢
  clear d1 f1 z1 Y2
  have e1 := blk_cell M.out.1
  have g1 := blk_frozen M.out.1
  have t1 := lt_of_block M.out.1
  have e2 := blk_cell M.out.2.1
  have g2 := blk_frozen M.out.2.1
  have t2 := lt_of_block M.out.2.1
  go_region
  have T1 : TypeAt w5 (w.heap.size + 1) 63 := TypeAt.of M.out.1
  have T2 : TypeAt w5 (w.heap.size + 1 + 1) 31 := TypeAt.of M.out.2.1
  have D6 := Lib.hid (((((M.out.2.2.1.set (q := w.heap.size + 1) (o := 0) (u := .int .i64 k) HFW.out.1).set (q := w.heap.size + 1) (o := 1) (u := .int .i64 l) HFW.out.1).set (q := w.heap.size + 1) (o := 2) (u := .slice A r.length cap) HFW.out.1).set (q := w.heap.size + 1 + 1) (o := 0) (u := .int .i64 lb) HFW.out.2).set (q := w.heap.size + 1 + 1) (o := 1) (u := .slice A2 (madeB lb q).length c2) HFW.out.2)
  have G6 := Lib.hid ((((((M.out.2.2.2.1).setCellB (p := ⟨w.heap.size + 1, 0, none⟩) (by simp only; omega) (.int .i64 k)).setCellB (p := ⟨w.heap.size + 1, 1, none⟩) (by simp only; omega) (.int .i64 l)).setCellB (p := ⟨w.heap.size + 1, 2, none⟩) (by simp only; omega) (.slice A r.length cap)).setCellB (p := ⟨w.heap.size + 1 + 1, 0, none⟩) (by simp only; omega) (.int .i64 lb)).setCellB (p := ⟨w.heap.size + 1 + 1, 1, none⟩) (by simp only; omega) (.slice A2 (madeB lb q).length c2))
  have L6 := Lib.hid (((((M.out.2.2.2.2.1.setCellT (p := ⟨w.heap.size + 1, 0, none⟩) (u := .int .i64 k) T1 (by decide)).setCellT (p := ⟨w.heap.size + 1, 1, none⟩) (u := .int .i64 l) T1.setCell (by decide)).setCellT (p := ⟨w.heap.size + 1, 2, none⟩) (u := .slice A r.length cap) T1.setCell.setCell (by decide)).setCellT (p := ⟨w.heap.size + 1 + 1, 0, none⟩) (u := .int .i64 lb) T2.setCell.setCell.setCell (by decide)).setCellT (p := ⟨w.heap.size + 1 + 1, 1, none⟩) (u := .slice A2 (madeB lb q).length c2) T2.setCell.setCell.setCell.setCell (by decide))
  have B6 := Lib.hid (Below.setCell (p := ⟨w.heap.size + 1 + 1, 1, none⟩) (Below.setCell (p := ⟨w.heap.size + 1 + 1, 0, none⟩) (Below.setCell (p := ⟨w.heap.size + 1, 2, none⟩) (Below.setCell (p := ⟨w.heap.size + 1, 1, none⟩) (Below.setCell (p := ⟨w.heap.size + 1, 0, none⟩) M.out.2.2.2.2.2 (by simp only; omega) (.int .i64 k)) (by simp only; omega) (.int .i64 l)) (by simp only; omega) (.slice A r.length cap)) (by simp only; omega) (.int .i64 lb)) (by simp only; omega) (.slice A2 (madeB lb q).length c2))
  clear T1 T2
  go_wp2_with fail
  exact bodyPost_ret (v := .tuple #[.pointer (some ⟨g, 0, none⟩), .pointer (some ⟨gb, 0, none⟩), .agg #[.int .i64 k, .int .i64 l, .slice A r.length cap], .agg #[.int .i64 lb, .slice A2 (madeB lb q).length c2], .bool true]) (by simp only [results, Tryz.results33]; go_simp) rfl ⟨g, F, gb, A2, c2, rfl, D6.out.drew, G6.out.mono (by omega), L6.out.drew, B6.out.drew⟩
end Go.Proofs.YtajhjbiokbgebaaGreat
/- Chapter 34: two, where there is too much. -/
namespace Go.Proofs.YtajhjbiokbgebaaGreat
open Go.ChangeShapes Go.WideShapes Go.ChangeAt Go.RowKit
set_option linter.unusedVariables false
set_option linter.unusedSimpArgs false
set_option maxRecDepth 100000

def nothing34 : Value := .tuple #[.pointer none, .pointer none, .agg #[.int .i64 0, .int .i64 0, .slice none 0 0], .agg #[.int .i64 0, .slice none 0 0], .bool false]
set_option maxHeartbeats 8000000 in
theorem law34_two_many (w : World) (l K k lb : Int) (A B : Option Addr) (n cap q cb : Nat) (h : 60 < n ∨ 60 < q) :
    Calls Tryz.prog 33 #[loadedV l k K A n cap, .int .i64 lb, .slice B q cb] w fun e w' => e = .returned nothing34 ∧ Below w.heap.size w w' := by
  unfold loadedV nothing34
  obtain ⟨W0, hW0⟩ : ∃ W0, W0 = ((w.alloc (.cells #[.int .i64 l, .int .i64 k, .int .i64 K, .slice A n cap] 48)).alloc (.cells #[.int .i64 0, .int .i64 0, .slice none 0 0] 63)).alloc (.cells #[.int .i64 0, .slice none 0 0] 31) := ⟨_, rfl⟩
  have BW0 := Lib.hid (show Below w.heap.size w W0 by rw [hW0]; exact (by repeat (first | with_reducible exact Below.refl _ _ | with_reducible assumption | ((with_reducible refine Below.setCell ?_ ?_ _); rotate_left; · (first | omega | exact Nat.le_refl _ | (simp <;> omega))) | (with_reducible refine Below.allocW ?_ _) | (with_reducible refine Below.drew ?_) | (with_reducible refine Below.extW ?_ _))))
  have X0 : Hid (W0.heap[w.heap.size]? = some (.cells #[.int .i64 l, .int .i64 k, .int .i64 K, .slice A n cap] 48 (0, 0))) := Lib.hid (by rw [hW0]; exact (heap_new_lt _ _ _ (by simp; omega)).trans ((heap_new_lt _ _ _ (by simp)).trans (heap_alloc_new w _)))
  have X1 : Hid (W0.heap[w.heap.size + 1]? = some (.cells #[.int .i64 0, .int .i64 0, .slice none 0 0] 63 (0, 0))) := Lib.hid (by rw [hW0]; exact (heap_new_lt _ _ _ (by simp)).trans (heap_new_at (w.alloc _) _ _ (by simp)))
  have X2 : Hid (W0.heap[w.heap.size + 1 + 1]? = some (.cells #[.int .i64 0, .slice none 0 0] 31 (0, 0))) := Lib.hid (by rw [hW0]; exact heap_new_at _ _ _ (by simp))
  have cs : (60 : Int) < (n : Int) ∨ (decide ((60 : Int) < (n : Int)) = false ∧ (60 : Int) < (q : Int)) := by
    by_cases hn : 60 < n
    · exact .inl (by omega)
    · exact .inr ⟨by simp; omega, by omega⟩
  go_enter Tryz.func33, Tryz.ntmps33
  go_upto_region 1 with fail
  rw [← hW0]
  have c0 := blk_cell X0.out
  have z0 := lt_of_block X0.out
  have e1 := blk_cell X1.out
  have g1 := blk_frozen X1.out
  have t1 := lt_of_block X1.out
  have e2 := blk_cell X2.out
  have g2 := blk_frozen X2.out
  have t2 := lt_of_block X2.out
  have B6 := Lib.hid ((((((BW0.out.setCell (p := ⟨w.heap.size + 1, 0, none⟩) (by simp) (.int .i64 0)).setCell (p := ⟨w.heap.size + 1, 1, none⟩) (by simp) (.int .i64 0)).setCell (p := ⟨w.heap.size + 1, 2, none⟩) (by simp) (.slice none 0 0)).setCell (p := ⟨w.heap.size + 1 + 1, 0, none⟩) (by simp only; omega) (.int .i64 0)).setCell (p := ⟨w.heap.size + 1 + 1, 1, none⟩) (by simp only; omega) (.slice none 0 0)))
  clear hW0 h
  rcases cs with k1 | ⟨k1, k2⟩
  · go_upto_region 2 with fail
    go_region
    all_goals go_wp2_with fail
    all_goals exact bodyPost_ret (v := .tuple #[.pointer none, .pointer none, .agg #[.int .i64 0, .int .i64 0, .slice none 0 0], .agg #[.int .i64 0, .slice none 0 0], .bool false]) (by simp only [results, Tryz.results33]; go_simp) rfl ⟨rfl, B6.out.drew⟩
  · go_upto_region 2 with fail
    go_region
    all_goals go_wp2_with fail
    all_goals exact bodyPost_ret (v := .tuple #[.pointer none, .pointer none, .agg #[.int .i64 0, .int .i64 0, .slice none 0 0], .agg #[.int .i64 0, .slice none 0 0], .bool false]) (by simp only [results, Tryz.results33]; go_simp) rfl ⟨rfl, B6.out.drew⟩
end Go.Proofs.YtajhjbiokbgebaaGreat
/- Chapter 34: two, where there is no bag. -/
namespace Go.Proofs.YtajhjbiokbgebaaGreat
open Go.ChangeShapes Go.WideShapes Go.ChangeAt Go.RowKit
set_option linter.unusedVariables false
set_option linter.unusedSimpArgs false
set_option maxRecDepth 100000

set_option maxHeartbeats 8000000 in
theorem law34_two_bag (w : World) (l K : Nat) (k lb : Int) (r : List Nd) (A : Option Addr) (cap : Nat) (q : List Nd) (B : Option Addr) (cb : Nat) (hg : goodL l k K r) (hS : Sl w w.heap.size encN A r) (hI : ints r) (hSb : Sl w w.heap.size encN B q) (hIb : ints q) (hlb : lb < 1 ∨ 48 < lb) (h1 : r.length ≤ 60) (h2 : q.length ≤ 60) :
    Calls Tryz.prog 33 #[loadedV l k K A r.length cap, .int .i64 lb, .slice B q.length cb] w fun e w' => (∃ d b a1 a2 A1 n1 c1 b1 A2 n2 c2, e = .returned (.tuple #[d, b, .agg #[.int .i64 a1, .int .i64 a2, .slice A1 n1 c1], .agg #[.int .i64 b1, .slice A2 n2 c2], .bool false])) ∧ Below w.heap.size w w' := by
  have HC := Lib.hid (law16_Load · l K k A cap r hg · hI)
  have HS := Lib.hid (And.intro hS hSb)
  unfold loadedV refDig at HC
  unfold loadedV
  have r1 : decide ((60 : Int) < (r.length : Int)) = false := by simp; omega
  have r2 : decide ((60 : Int) < (q.length : Int)) = false := by simp; omega
  have lc : decide (1 ≤ lb) = false ∨ (1 ≤ lb ∧ decide (lb ≤ 48) = false) := by
    by_cases h : 1 ≤ lb
    · exact .inr ⟨h, by simp; omega⟩
    · exact .inl (by simpa using h)
  clear hS hSb hI hIb hg
  obtain ⟨W0, hW0⟩ : ∃ W0, W0 = ((w.alloc (.cells #[.int .i64 l, .int .i64 k, .int .i64 K, .slice A r.length cap] 48)).alloc (.cells #[.int .i64 0, .int .i64 0, .slice none 0 0] 63)).alloc (.cells #[.int .i64 0, .slice none 0 0] 31) := ⟨_, rfl⟩
  have Z0 : Hid (W0.heap.size = w.heap.size + 3) := Lib.hid (by rw [hW0]; simp)
  have BW0 := Lib.hid (show Below w.heap.size w W0 by rw [hW0]; exact (by repeat (first | with_reducible exact Below.refl _ _ | with_reducible assumption | ((with_reducible refine Below.setCell ?_ ?_ _); rotate_left; · (first | omega | exact Nat.le_refl _ | (simp <;> omega))) | (with_reducible refine Below.allocW ?_ _) | (with_reducible refine Below.drew ?_) | (with_reducible refine Below.extW ?_ _))))
  have X0 : Hid (W0.heap[w.heap.size]? = some (.cells #[.int .i64 l, .int .i64 k, .int .i64 K, .slice A r.length cap] 48 (0, 0))) := Lib.hid (by rw [hW0]; exact (heap_new_lt _ _ _ (by simp; omega)).trans ((heap_new_lt _ _ _ (by simp)).trans (heap_alloc_new w _)))
  have X1 : Hid (W0.heap[w.heap.size + 1]? = some (.cells #[.int .i64 0, .int .i64 0, .slice none 0 0] 63 (0, 0))) := Lib.hid (by rw [hW0]; exact (heap_new_lt _ _ _ (by simp)).trans (heap_new_at (w.alloc _) _ _ (by simp)))
  have X2 : Hid (W0.heap[w.heap.size + 2]? = some (.cells #[.int .i64 0, .slice none 0 0] 31 (0, 0))) := Lib.hid (by rw [hW0]; exact heap_new_at _ _ _ (by simp))
  go_enter Tryz.func33, Tryz.ntmps33
  go_upto_region 1 with fail
  rw [← hW0]
  have c0 := blk_cell X0.out
  have z0 := lt_of_block X0.out
  have S0 := Lib.hid (HS.out.1.keep (B' := W0.heap.size) BW0.out.size fun p hp => BW0.out.cell hp)
  clear hW0
  go_wp2_with fail
  refine (HC.out _ S0.out).mono ?_
  rintro e w1 ⟨g, F, rfl, hD, hF, hb1⟩
  have Y1 := blk_below X1.out hb1
  have Y2 := blk_below X2.out hb1
  have d1 := blk_cell Y1
  have f1 := blk_frozen Y1
  have z1 := lt_of_block Y1
  have hFw : ∀ b, F b → b ≠ w.heap.size + 1 := fun b hb => by have := hF b hb; have := Z0.out; omega
  have hFw2 : ∀ b, F b → b ≠ w.heap.size + 2 := fun b hb => by have := hF b hb; have := Z0.out; omega
  have y0 := heap_set_at (i := 0) Y1 (.int .i64 k)
  have y1 := heap_set_at (i := 1) y0 (.int .i64 l)
  have y2 := heap_set_at (i := 2) y1 (.slice A r.length cap)
  have D3 := ((hD.set (q := w.heap.size + 1) (o := 0) (u := .int .i64 k) hFw).set (q := w.heap.size + 1) (o := 1) (u := .int .i64 l) hFw).set (q := w.heap.size + 1) (o := 2) (u := .slice A r.length cap) hFw
  have B3 := ((((Below.then_ BW0.out hb1).setCell (p := ⟨w.heap.size + 1, 0, none⟩) (by simp) (.int .i64 k)).setCell (p := ⟨w.heap.size + 1, 1, none⟩) (by simp) (.int .i64 l)).setCell (p := ⟨w.heap.size + 1, 2, none⟩) (by simp) (.slice A r.length cap))
  have q2 := (Below.heap_setCell ((w1.setCell ⟨w.heap.size + 1, 0, none⟩ (.int .i64 k)).setCell ⟨w.heap.size + 1, 1, none⟩ (.int .i64 l)) ⟨w.heap.size + 1, 2, none⟩ (.slice A r.length cap) (w.heap.size + 2) (by simp)).trans ((Below.heap_setCell (w1.setCell ⟨w.heap.size + 1, 0, none⟩ (.int .i64 k)) ⟨w.heap.size + 1, 1, none⟩ (.int .i64 l) (w.heap.size + 2) (by simp)).trans ((Below.heap_setCell w1 ⟨w.heap.size + 1, 0, none⟩ (.int .i64 k) (w.heap.size + 2) (by simp)).trans Y2))
  have N := Lib.hid (And.intro y2 (And.intro q2 (And.intro D3 B3)))
  have HFW := Lib.hid (And.intro hFw hFw2)
  clear hb1 hD hF Y2 y0 y1 y2 D3 B3 q2 hFw hFw2 c0 z0
  go_upto_region 4 with fail
  generalize ((w1.setCell ⟨w.heap.size + 1, 0, none⟩ (.int .i64 k)).setCell ⟨w.heap.size + 1, 1, none⟩ (.int .i64 l)).setCell ⟨w.heap.size + 1, 2, none⟩ (.slice A r.length cap) = w3 at N ⊢
  clear d1 f1 z1 Y1
  have e1 := blk_cell N.out.1
  have g1 := blk_frozen N.out.1
  have t1 := lt_of_block N.out.1
  have e2 := blk_cell N.out.2.1
  have g2 := blk_frozen N.out.2.1
  have t2 := lt_of_block N.out.2.1
  have B6 := Lib.hid (((((N.out.2.2.2.setCell (p := ⟨w.heap.size + 1, 0, none⟩) (by simp) (.int .i64 k)).setCell (p := ⟨w.heap.size + 1, 1, none⟩) (by simp) (.int .i64 l)).setCell (p := ⟨w.heap.size + 1, 2, none⟩) (by simp) (.slice A r.length cap)).setCell (p := ⟨w.heap.size + 1 + 1, 0, none⟩) (by simp only; omega) (.int .i64 0)).setCell (p := ⟨w.heap.size + 1 + 1, 1, none⟩) (by simp only; omega) (.slice none 0 0))
  rcases lc with k1 | ⟨k1, k2⟩
  all_goals
    go_upto_region 6 with fail
    go_region
    all_goals go_wp2_with fail
    all_goals exact bodyPost_ret (v := .tuple #[.pointer (some ⟨g, 0, none⟩), .pointer none, .agg #[.int .i64 k, .int .i64 l, .slice A r.length cap], .agg #[.int .i64 0, .slice none 0 0], .bool false]) (by simp only [results, Tryz.results33]; go_simp) rfl ⟨⟨_, _, _, _, _, _, _, _, _, _, _, rfl⟩, B6.out.drew⟩
end Go.Proofs.YtajhjbiokbgebaaGreat
/- Chapter 34: two, where there is no digest. -/
namespace Go.Proofs.YtajhjbiokbgebaaGreat
open Go.ChangeShapes Go.WideShapes Go.ChangeAt Go.RowKit
set_option linter.unusedVariables false
set_option linter.unusedSimpArgs false
set_option maxRecDepth 100000

set_option maxHeartbeats 8000000 in
theorem law34_two_dig_out (w : World) (l K k lb : Int) (r : List Nd) (A : Option Addr) (cap : Nat) (q : List Nd) (B : Option Addr) (cb : Nat) (hg : ¬ goodL l k K r) (hS : Sl w w.heap.size encN A r) (hI : ints r) (hSb : Sl w w.heap.size encN B q) (hIb : ints q) (hlb : lb < 1 ∨ 48 < lb) (h1 : r.length ≤ 60) (h2 : q.length ≤ 60) :
    Calls Tryz.prog 33 #[loadedV l k K A r.length cap, .int .i64 lb, .slice B q.length cb] w fun e w' => (∃ d b a1 a2 A1 n1 c1 b1 A2 n2 c2, e = .returned (.tuple #[d, b, .agg #[.int .i64 a1, .int .i64 a2, .slice A1 n1 c1], .agg #[.int .i64 b1, .slice A2 n2 c2], .bool false])) ∧ Below w.heap.size w w' := by
  have HC := Lib.hid (law16_Load_no · l k K A cap r hg · hI (by simp only [maxLen]; omega))
  have HS := Lib.hid (And.intro hS hSb)
  unfold loadedV refDig at HC
  unfold loadedV
  have r1 : decide ((60 : Int) < (r.length : Int)) = false := by simp; omega
  have r2 : decide ((60 : Int) < (q.length : Int)) = false := by simp; omega
  have lc : decide (1 ≤ lb) = false ∨ (1 ≤ lb ∧ decide (lb ≤ 48) = false) := by
    by_cases h : 1 ≤ lb
    · exact .inr ⟨h, by simp; omega⟩
    · exact .inl (by simpa using h)
  clear hS hSb hI hIb hg
  obtain ⟨W0, hW0⟩ : ∃ W0, W0 = ((w.alloc (.cells #[.int .i64 l, .int .i64 k, .int .i64 K, .slice A r.length cap] 48)).alloc (.cells #[.int .i64 0, .int .i64 0, .slice none 0 0] 63)).alloc (.cells #[.int .i64 0, .slice none 0 0] 31) := ⟨_, rfl⟩
  have Z0 : Hid (W0.heap.size = w.heap.size + 3) := Lib.hid (by rw [hW0]; simp)
  have BW0 := Lib.hid (show Below w.heap.size w W0 by rw [hW0]; exact (by repeat (first | with_reducible exact Below.refl _ _ | with_reducible assumption | ((with_reducible refine Below.setCell ?_ ?_ _); rotate_left; · (first | omega | exact Nat.le_refl _ | (simp <;> omega))) | (with_reducible refine Below.allocW ?_ _) | (with_reducible refine Below.drew ?_) | (with_reducible refine Below.extW ?_ _))))
  have X0 : Hid (W0.heap[w.heap.size]? = some (.cells #[.int .i64 l, .int .i64 k, .int .i64 K, .slice A r.length cap] 48 (0, 0))) := Lib.hid (by rw [hW0]; exact (heap_new_lt _ _ _ (by simp; omega)).trans ((heap_new_lt _ _ _ (by simp)).trans (heap_alloc_new w _)))
  have X1 : Hid (W0.heap[w.heap.size + 1]? = some (.cells #[.int .i64 0, .int .i64 0, .slice none 0 0] 63 (0, 0))) := Lib.hid (by rw [hW0]; exact (heap_new_lt _ _ _ (by simp)).trans (heap_new_at (w.alloc _) _ _ (by simp)))
  have X2 : Hid (W0.heap[w.heap.size + 2]? = some (.cells #[.int .i64 0, .slice none 0 0] 31 (0, 0))) := Lib.hid (by rw [hW0]; exact heap_new_at _ _ _ (by simp))
  go_enter Tryz.func33, Tryz.ntmps33
  go_upto_region 1 with fail
  rw [← hW0]
  have c0 := blk_cell X0.out
  have z0 := lt_of_block X0.out
  have S0 := Lib.hid (HS.out.1.keep (B' := W0.heap.size) BW0.out.size fun p hp => BW0.out.cell hp)
  clear hW0
  go_wp2_with fail
  refine (HC.out _ S0.out).mono ?_
  rintro e w1 ⟨rfl, hb1⟩
  have Y1 := blk_below X1.out hb1
  have Y2 := blk_below X2.out hb1
  have d1 := blk_cell Y1
  have f1 := blk_frozen Y1
  have z1 := lt_of_block Y1
  have y0 := heap_set_at (i := 0) Y1 (.int .i64 0)
  have y1 := heap_set_at (i := 1) y0 (.int .i64 0)
  have y2 := heap_set_at (i := 2) y1 (.slice none 0 0)
  have B3 := ((((Below.then_ BW0.out hb1).setCell (p := ⟨w.heap.size + 1, 0, none⟩) (by simp) (.int .i64 0)).setCell (p := ⟨w.heap.size + 1, 1, none⟩) (by simp) (.int .i64 0)).setCell (p := ⟨w.heap.size + 1, 2, none⟩) (by simp) (.slice none 0 0))
  have q2 := (Below.heap_setCell ((w1.setCell ⟨w.heap.size + 1, 0, none⟩ (.int .i64 0)).setCell ⟨w.heap.size + 1, 1, none⟩ (.int .i64 0)) ⟨w.heap.size + 1, 2, none⟩ (.slice none 0 0) (w.heap.size + 2) (by simp)).trans ((Below.heap_setCell (w1.setCell ⟨w.heap.size + 1, 0, none⟩ (.int .i64 0)) ⟨w.heap.size + 1, 1, none⟩ (.int .i64 0) (w.heap.size + 2) (by simp)).trans ((Below.heap_setCell w1 ⟨w.heap.size + 1, 0, none⟩ (.int .i64 0) (w.heap.size + 2) (by simp)).trans Y2))
  have N := Lib.hid (And.intro y2 (And.intro q2 B3))
  clear hb1 Y2 y0 y1 y2 B3 q2 c0 z0
  go_upto_region 4 with fail
  generalize ((w1.setCell ⟨w.heap.size + 1, 0, none⟩ (.int .i64 0)).setCell ⟨w.heap.size + 1, 1, none⟩ (.int .i64 0)).setCell ⟨w.heap.size + 1, 2, none⟩ (.slice none 0 0) = w3 at N ⊢
  clear d1 f1 z1 Y1
  have e1 := blk_cell N.out.1
  have g1 := blk_frozen N.out.1
  have t1 := lt_of_block N.out.1
  have e2 := blk_cell N.out.2.1
  have g2 := blk_frozen N.out.2.1
  have t2 := lt_of_block N.out.2.1
  have B6 := Lib.hid (((((N.out.2.2.setCell (p := ⟨w.heap.size + 1, 0, none⟩) (by simp) (.int .i64 0)).setCell (p := ⟨w.heap.size + 1, 1, none⟩) (by simp) (.int .i64 0)).setCell (p := ⟨w.heap.size + 1, 2, none⟩) (by simp) (.slice none 0 0)).setCell (p := ⟨w.heap.size + 1 + 1, 0, none⟩) (by simp only; omega) (.int .i64 0)).setCell (p := ⟨w.heap.size + 1 + 1, 1, none⟩) (by simp only; omega) (.slice none 0 0))
  rcases lc with k1 | ⟨k1, k2⟩
  all_goals
    go_upto_region 6 with fail
    go_region
    all_goals go_wp2_with fail
    all_goals exact bodyPost_ret (v := .tuple #[.pointer none, .pointer none, .agg #[.int .i64 0, .int .i64 0, .slice none 0 0], .agg #[.int .i64 0, .slice none 0 0], .bool false]) (by simp only [results, Tryz.results33]; go_simp) rfl ⟨⟨_, _, _, _, _, _, _, _, _, _, _, rfl⟩, B6.out.drew⟩
end Go.Proofs.YtajhjbiokbgebaaGreat
/- Chapter 34: two, where there is no digest, but a bag. -/
namespace Go.Proofs.YtajhjbiokbgebaaGreat
open Go.ChangeShapes Go.WideShapes Go.ChangeAt Go.RowKit
set_option linter.unusedVariables false
set_option linter.unusedSimpArgs false
set_option maxRecDepth 100000

set_option maxHeartbeats 8000000 in
theorem law34_two_dig_in (w : World) (l K k : Int) (lb : Nat) (r : List Nd) (A : Option Addr) (cap : Nat) (q : List Nd) (B : Option Addr) (cb : Nat) (hg : ¬ goodL l k K r) (hS : Sl w w.heap.size encN A r) (hI : ints r) (hSb : Sl w w.heap.size encN B q) (hIb : ints q) (hlb : 1 ≤ lb ∧ lb ≤ 48) (h1 : r.length ≤ 60) (h2 : q.length ≤ 60) :
    Calls Tryz.prog 33 #[loadedV l k K A r.length cap, .int .i64 lb, .slice B q.length cb] w fun e w' => (∃ d b a1 a2 A1 n1 c1 b1 A2 n2 c2, e = .returned (.tuple #[d, b, .agg #[.int .i64 a1, .int .i64 a2, .slice A1 n1 c1], .agg #[.int .i64 b1, .slice A2 n2 c2], .bool false])) ∧ Below w.heap.size w w' := by
  have HC := Lib.hid (law16_Load_no · l k K A cap r hg · hI (by simp only [maxLen]; omega))
  have HM := Lib.hid (law10_Made · lb B cb q hlb · hIb (by omega))
  have HS := Lib.hid (And.intro hS hSb)
  unfold loadedV refDig at HC
  unfold bagV at HM
  unfold loadedV
  have r1 : decide ((60 : Int) < (r.length : Int)) = false := by simp; omega
  have r2 : decide ((60 : Int) < (q.length : Int)) = false := by simp; omega
  have r3 : (1 : Int) ≤ (lb : Int) := by omega
  have r4 : (lb : Int) ≤ 48 := by omega
  clear hS hSb hI hIb hg
  obtain ⟨W0, hW0⟩ : ∃ W0, W0 = ((w.alloc (.cells #[.int .i64 l, .int .i64 k, .int .i64 K, .slice A r.length cap] 48)).alloc (.cells #[.int .i64 0, .int .i64 0, .slice none 0 0] 63)).alloc (.cells #[.int .i64 0, .slice none 0 0] 31) := ⟨_, rfl⟩
  have Z0 : Hid (W0.heap.size = w.heap.size + 3) := Lib.hid (by rw [hW0]; simp)
  have BW0 := Lib.hid (show Below w.heap.size w W0 by rw [hW0]; exact (by repeat (first | with_reducible exact Below.refl _ _ | with_reducible assumption | ((with_reducible refine Below.setCell ?_ ?_ _); rotate_left; · (first | omega | exact Nat.le_refl _ | (simp <;> omega))) | (with_reducible refine Below.allocW ?_ _) | (with_reducible refine Below.drew ?_) | (with_reducible refine Below.extW ?_ _))))
  have X0 : Hid (W0.heap[w.heap.size]? = some (.cells #[.int .i64 l, .int .i64 k, .int .i64 K, .slice A r.length cap] 48 (0, 0))) := Lib.hid (by rw [hW0]; exact (heap_new_lt _ _ _ (by simp; omega)).trans ((heap_new_lt _ _ _ (by simp)).trans (heap_alloc_new w _)))
  have X1 : Hid (W0.heap[w.heap.size + 1]? = some (.cells #[.int .i64 0, .int .i64 0, .slice none 0 0] 63 (0, 0))) := Lib.hid (by rw [hW0]; exact (heap_new_lt _ _ _ (by simp)).trans (heap_new_at (w.alloc _) _ _ (by simp)))
  have X2 : Hid (W0.heap[w.heap.size + 2]? = some (.cells #[.int .i64 0, .slice none 0 0] 31 (0, 0))) := Lib.hid (by rw [hW0]; exact heap_new_at _ _ _ (by simp))
  go_enter Tryz.func33, Tryz.ntmps33
  go_upto_region 1 with fail
  rw [← hW0]
  have c0 := blk_cell X0.out
  have z0 := lt_of_block X0.out
  have S0 := Lib.hid (HS.out.1.keep (B' := W0.heap.size) BW0.out.size fun p hp => BW0.out.cell hp)
  clear hW0
  go_wp2_with fail
  refine (HC.out _ S0.out).mono ?_
  rintro e w1 ⟨rfl, hb1⟩
  have Y1 := blk_below X1.out hb1
  have Y2 := blk_below X2.out hb1
  have d1 := blk_cell Y1
  have f1 := blk_frozen Y1
  have z1 := lt_of_block Y1
  have y0 := heap_set_at (i := 0) Y1 (.int .i64 0)
  have y1 := heap_set_at (i := 1) y0 (.int .i64 0)
  have y2 := heap_set_at (i := 2) y1 (.slice none 0 0)
  have B3 := ((((Below.then_ BW0.out hb1).setCell (p := ⟨w.heap.size + 1, 0, none⟩) (by simp) (.int .i64 0)).setCell (p := ⟨w.heap.size + 1, 1, none⟩) (by simp) (.int .i64 0)).setCell (p := ⟨w.heap.size + 1, 2, none⟩) (by simp) (.slice none 0 0))
  have q2 := (Below.heap_setCell ((w1.setCell ⟨w.heap.size + 1, 0, none⟩ (.int .i64 0)).setCell ⟨w.heap.size + 1, 1, none⟩ (.int .i64 0)) ⟨w.heap.size + 1, 2, none⟩ (.slice none 0 0) (w.heap.size + 2) (by simp)).trans ((Below.heap_setCell (w1.setCell ⟨w.heap.size + 1, 0, none⟩ (.int .i64 0)) ⟨w.heap.size + 1, 1, none⟩ (.int .i64 0) (w.heap.size + 2) (by simp)).trans ((Below.heap_setCell w1 ⟨w.heap.size + 1, 0, none⟩ (.int .i64 0) (w.heap.size + 2) (by simp)).trans Y2))
  have N := Lib.hid (And.intro y2 (And.intro q2 B3))
  clear hb1 Y2 y0 y1 y2 B3 q2 c0 z0
  go_upto_region 4 with fail
  generalize ((w1.setCell ⟨w.heap.size + 1, 0, none⟩ (.int .i64 0)).setCell ⟨w.heap.size + 1, 1, none⟩ (.int .i64 0)).setCell ⟨w.heap.size + 1, 2, none⟩ (.slice none 0 0) = w3 at N ⊢
  clear d1 f1 z1 Y1
  have S3 := Lib.hid (HS.out.2.keep (B' := w3.heap.size) N.out.2.2.size fun p hp => N.out.2.2.cell hp)
  go_wp2_with fail
  refine (HM.out _ S3.out).mono ?_
  rintro e w4 ⟨gb, A2, c2, rfl, hBg, hS2, hb4⟩
  have Y2 := blk_below N.out.2.1 hb4
  have Y1 := blk_below N.out.1 hb4
  have d1 := blk_cell Y2
  have f1 := blk_frozen Y2
  have z1 := lt_of_block Y2
  have hz3 : w.heap.size + 3 ≤ w3.heap.size := by have := lt_of_block N.out.2.1; omega
  have y0 := heap_set_at (i := 0) Y2 (.int .i64 lb)
  have y1 := heap_set_at (i := 1) y0 (.slice A2 (madeB lb q).length c2)
  have q1 := (Below.heap_setCell (w4.setCell ⟨w.heap.size + 2, 0, none⟩ (.int .i64 lb)) ⟨w.heap.size + 2, 1, none⟩ (.slice A2 (madeB lb q).length c2) (w.heap.size + 1) (by simp)).trans ((Below.heap_setCell w4 ⟨w.heap.size + 2, 0, none⟩ (.int .i64 lb) (w.heap.size + 1) (by simp)).trans Y1)
  have T2 : TypeAt w4 (w.heap.size + 2) 31 := TypeAt.of Y2
  have B5 := ((Below.then_ N.out.2.2 hb4).setCell (p := ⟨w.heap.size + 2, 0, none⟩) (by simp) (.int .i64 lb)).setCell (p := ⟨w.heap.size + 2, 1, none⟩) (by simp) (.slice A2 (madeB lb q).length c2)
  have M := Lib.hid (And.intro q1 (And.intro y1 B5))
  clear Y1 y0 y1 q1 T2 B5 hBg hS2 hb4
  go_upto_region 6 with fail
  generalize (w4.setCell ⟨w.heap.size + 2, 0, none⟩ (.int .i64 lb)).setCell ⟨w.heap.size + 2, 1, none⟩ (.slice A2 (madeB lb q).length c2) = w5 at M ⊢
  clear d1 f1 z1 Y2
  have e1 := blk_cell M.out.1
  have g1 := blk_frozen M.out.1
  have t1 := lt_of_block M.out.1
  have e2 := blk_cell M.out.2.1
  have g2 := blk_frozen M.out.2.1
  have t2 := lt_of_block M.out.2.1
  go_region
  have T1 : TypeAt w5 (w.heap.size + 1) 63 := TypeAt.of M.out.1
  have T2 : TypeAt w5 (w.heap.size + 1 + 1) 31 := TypeAt.of M.out.2.1
  have B6 := Lib.hid (Below.setCell (p := ⟨w.heap.size + 1 + 1, 1, none⟩) (Below.setCell (p := ⟨w.heap.size + 1 + 1, 0, none⟩) (Below.setCell (p := ⟨w.heap.size + 1, 2, none⟩) (Below.setCell (p := ⟨w.heap.size + 1, 1, none⟩) (Below.setCell (p := ⟨w.heap.size + 1, 0, none⟩) M.out.2.2 (by simp only; omega) (.int .i64 0)) (by simp only; omega) (.int .i64 0)) (by simp only; omega) (.slice none 0 0)) (by simp only; omega) (.int .i64 lb)) (by simp only; omega) (.slice A2 (madeB lb q).length c2))
  clear T1 T2
  go_wp2_with fail
  exact bodyPost_ret (v := .tuple #[.pointer none, .pointer (some ⟨gb, 0, none⟩), .agg #[.int .i64 0, .int .i64 0, .slice none 0 0], .agg #[.int .i64 lb, .slice A2 (madeB lb q).length c2], .bool false]) (by simp only [results, Tryz.results33]; go_simp) rfl ⟨⟨_, _, _, _, _, _, _, _, _, _, _, rfl⟩, B6.out.drew⟩
end Go.Proofs.YtajhjbiokbgebaaGreat
/- Chapter 34: two, wherever one is not there. -/
namespace Go.Proofs.YtajhjbiokbgebaaGreat
open Go.ChangeShapes Go.WideShapes Go.ChangeAt Go.RowKit
set_option linter.unusedVariables false

/-- What two tells where one is not there. -/
def NoTwo (w : World) (e : Ending) (w' : World) : Prop := (∃ d b a1 a2 A1 n1 c1 b1 A2 n2 c2, e = .returned (.tuple #[d, b, .agg #[.int .i64 a1, .int .i64 a2, .slice A1 n1 c1], .agg #[.int .i64 b1, .slice A2 n2 c2], .bool false])) ∧ Below w.heap.size w w'
theorem law34_two_no (w : World) (l k K lb : Int) (r : List Nd) (A : Option Addr) (cap : Nat) (q : List Nd) (B : Option Addr) (cb : Nat) (h : ¬ (goodL l k K r ∧ (1 ≤ lb ∧ lb ≤ 48) ∧ r.length ≤ 60 ∧ q.length ≤ 60)) (hS : Sl w w.heap.size encN A r) (hI : ints r) (hSb : Sl w w.heap.size encN B q) (hIb : ints q) :
    Calls Tryz.prog 33 #[loadedV l k K A r.length cap, .int .i64 lb, .slice B q.length cb] w (NoTwo w) := by
  by_cases hn : 60 < r.length ∨ 60 < q.length
  · refine (law34_two_many w l K k lb A B r.length cap q.length cb hn).mono ?_
    rintro e w' ⟨rfl, hb⟩
    exact ⟨⟨_, _, _, _, _, _, _, _, _, _, _, rfl⟩, hb⟩
  · have h1 : r.length ≤ 60 := by omega
    have h2 : q.length ≤ 60 := by omega
    by_cases hg : goodL l k K r
    · obtain ⟨n, m, rfl, rfl⟩ := goodL_nat hg.2.2
      exact law34_two_bag w n m k lb r A cap q B cb hg hS hI hSb hIb (by have : ¬ (1 ≤ lb ∧ lb ≤ 48) := fun hl => h ⟨hg, hl, h1, h2⟩; omega) h1 h2
    · by_cases hl : 1 ≤ lb ∧ lb ≤ 48
      · obtain ⟨n, rfl⟩ : ∃ n : Nat, lb = n := ⟨lb.toNat, by omega⟩
        exact law34_two_dig_in w l K k n r A cap q B cb hg hS hI hSb hIb (by omega) h1 h2
      · exact law34_two_dig_out w l K k lb r A cap q B cb hg hS hI hSb hIb (by omega) h1 h2
end Go.Proofs.YtajhjbiokbgebaaGreat
/- A list of readings that came in, and one of them. -/
namespace Go.Proofs.YtajhjbiokbgebaaGreat
open Go.ChangeShapes Go.WideShapes Go.ChangeAt Go.RowKit
set_option linter.unusedVariables false
set_option maxRecDepth 100000

section
variable {H : Type} {enc : TypeId × Value → H} {w : World} {base : Nat} {spare : Nat → Bool} {held : Bool} {fuel : Nat} {cs : List Value} {x : DataW H × List MemPlace}
theorem read_of_trod (h : DataW.trod enc Tryz.prog w base spare held fuel 96 cs = some x) : ∃ o : Nd, cs = encN.enc o ∧ i64 o.1 ∧ i64 o.2 := by
  obtain ⟨xs, n, _, _, hlen, hxl, hf⟩ := DataW.trod_struct Tryz.underlying96 h
  have hC : (Tryz.prog).cellsOf 96 = 2 := by kernel_rfl
  have hCi : (Tryz.prog).cellsOf 3 = 1 := by kernel_rfl
  rw [hC] at hlen
  match cs, hlen with
  | [c0, c1], _ =>
    match xs, hxl with
    | [y0, y1], _ =>
      have g0 : DataW.trod enc Tryz.prog w base spare held n 3 (([c0, c1].drop 0).take ((Tryz.prog).cellsOf 3)) = some y0 := hf 0 _ rfl
      have g1 : DataW.trod enc Tryz.prog w base spare held n 3 (([c0, c1].drop 1).take ((Tryz.prog).cellsOf 3)) = some y1 := hf 1 _ rfl
      simp only [hCi] at g0 g1
      obtain ⟨k, e0, _, k0⟩ := DataW.trod_int Tryz.underlying3 g0
      obtain ⟨i, e1, _, k1⟩ := DataW.trod_int Tryz.underlying3 g1
      simp at e0 e1
      subst e0 e1
      exact ⟨(k, i), rfl, i64_of_wf k0, i64_of_wf k1⟩
end
/-- A list of readings that came in. -/
theorem open_Reads {H : Type} {enc : TypeId × Value → H} {w : World} {base : Nat} {spare : Nat → Bool} {held : Bool} {r : Reach} {b0 : Nat} {v : Value} {d : DataW H} {p : List MemPlace}
    (hv : Value.okWide Tryz.prog w r b0 29 v) (h : DataW.Trod enc Tryz.prog w base spare held 29 v d p) :
    ∃ (ks : List Nd) (A : Option Addr) (cap : Nat), v = .slice A ks.length cap ∧ Sl w w.heap.size encN A ks ∧ ints ks ∧ ks.length ≤ maxLen := by
  obtain ⟨A, n, cap, rfl⟩ := okWide_slice Tryz.underlying29 hv
  obtain ⟨fuel, hf⟩ := h
  obtain ⟨l, A', cap', hc, rest⟩ := slice_of_trod encN (fun o => i64 o.1 ∧ i64 o.2) Tryz.underlying29 (by kernel_rfl) (by decide) (fun fuel cs x h => read_of_trod h) hf
  have hc' : Value.slice A n cap = .slice A' l.length cap' := by simpa [Value.cells] using hc
  rw [hc']
  exact ⟨l, A', cap', rfl, rest⟩
end Go.Proofs.YtajhjbiokbgebaaGreat
/- Chapter 34: does a digest stand for a bag: the law. -/
namespace Go.Proofs.YtajhjbiokbgebaaGreat
open Go.ChangeShapes Go.WideShapes Go.ChangeAt Go.RowKit
set_option linter.unusedVariables false
set_option linter.unusedSimpArgs false
set_option maxRecDepth 100000

/-- What stands while a law of chapter 34 runs. -/
structure AudW (w : World) (g K l : Nat) (k : Int) (r : List Nd) (F : Nat → Prop) (gb lb : Nat) (m : List Nd) (A : Option Addr) (cap : Nat) (A2 : Option Addr) (W : World) : Prop where
  d : DigAt W g K l k r F
  b : BagAt W w.heap.size gb lb m
  x : W.heap[w.heap.size]? = some (.cells #[.int .i64 l, .int .i64 k, .int .i64 K, .slice A r.length cap] 48 (0, 0))
  s : Sl W W.heap.size encN A r
  t : Sl W W.heap.size encN A2 m
  blw : Below w.heap.size w W
theorem AudW.below {w : World} {g K l : Nat} {k : Int} {r : List Nd} {F : Nat → Prop} {gb lb : Nat} {m : List Nd} {A : Option Addr} {cap : Nat} {A2 : Option Addr} {W W' : World} (h : AudW w g K l k r F gb lb m A cap A2 W) (hb : Below W.heap.size W W') : AudW w g K l k r F gb lb m A cap A2 W' :=
  ⟨h.d.below hb, h.b.below hb, blk_below h.x hb, h.s.keep hb.size fun p hp => hb.cell hp, h.t.keep hb.size fun p hp => hb.cell hp, h.blw.trans (hb.mono h.blw.size)⟩
theorem AudW.alloc {w : World} {g K l : Nat} {k : Int} {r : List Nd} {F : Nat → Prop} {gb lb : Nat} {m : List Nd} {A : Option Addr} {cap : Nat} {A2 : Option Addr} {W : World} (h : AudW w g K l k r F gb lb m A cap A2 W) (o : Obj) : AudW w g K l k r F gb lb m A cap A2 (W.alloc o) :=
  h.below ((Below.refl _ _).alloc (Nat.le_refl _) o)
set_option maxHeartbeats 8000000 in
theorem law_AuditStands_no (l k K lb : Int) (r : List Nd) (A : Option Addr) (cap : Nat) (q : List Nd) (B : Option Addr) (cb : Nat) (w : World) (h : ¬ (goodL l k K r ∧ (1 ≤ lb ∧ lb ≤ 48) ∧ r.length ≤ 60 ∧ q.length ≤ 60)) (hS : Sl w w.heap.size encN A r) (hI : ints r) (hSb : Sl w w.heap.size encN B q) (hIb : ints q) :
    Calls Tryz.prog 6 #[loadedV l k K A r.length cap, .int .i64 lb, .slice B q.length cb] w fun e w' => e = .returned (.bool true) ∧ Below w.heap.size w w' := by
  have HC := Lib.hid (fun W hS hSb => law34_two_no W l k K lb r A cap q B cb h hS hI hSb hIb)
  have HS := Lib.hid (And.intro hS hSb)
  have BW0 : Hid (Below w.heap.size w (w.alloc (.cells #[.int .i64 l, .int .i64 k, .int .i64 K, .slice A r.length cap] 48))) := Lib.hid (by repeat (first | with_reducible exact Below.refl _ _ | with_reducible assumption | ((with_reducible refine Below.setCell ?_ ?_ _); rotate_left; · (first | omega | exact Nat.le_refl _ | (simp <;> omega))) | (with_reducible refine Below.allocW ?_ _) | (with_reducible refine Below.drew ?_) | (with_reducible refine Below.extW ?_ _)))
  have X0 : Hid ((w.alloc (.cells #[.int .i64 l, .int .i64 k, .int .i64 K, .slice A r.length cap] 48)).heap[w.heap.size]? = some (.cells #[.int .i64 l, .int .i64 k, .int .i64 K, .slice A r.length cap] 48 (0, 0))) := Lib.hid (heap_alloc_new w _)
  unfold loadedV at HC ⊢
  clear h hS hSb
  go_enter Tryz.func6, Tryz.ntmps6
  go_upto_region 1 with fail
  generalize w.alloc (.cells #[.int .i64 l, .int .i64 k, .int .i64 K, .slice A r.length cap] 48) = W0 at X0 BW0 ⊢
  have cx := blk_cell X0.out
  have zx := lt_of_block X0.out
  have S0 := Lib.hid (HS.out.1.keep (B' := W0.heap.size) BW0.out.size fun p hp => BW0.out.cell hp)
  have S1 := Lib.hid (HS.out.2.keep (B' := W0.heap.size) BW0.out.size fun p hp => BW0.out.cell hp)
  go_wp2_with fail
  refine (HC.out _ S0.out S1.out).mono ?_
  rintro e w1 ⟨⟨d, b, a1, a2, A1, n1, c1, b1, A2, n2, c2, rfl⟩, hb1⟩
  have B1 := Lib.hid (Below.then_ BW0.out hb1)
  clear cx zx S0 S1 X0 BW0 HC
  go_wp2_with fail
  refine (alive34 _).mono ?_
  rintro e w2 ⟨rfl, hb2⟩
  have B2 := Lib.hid (Below.then_ ((B1.out.alloc B1.out.size (.cells #[.int .i64 a1, .int .i64 a2, .slice A1 n1 c1] 63)).alloc (by have := B1.out.size; simp; omega) (.cells #[.int .i64 b1, .slice A2 n2 c2] 31)) hb2)
  go_wp2_with fail
  go_ret
  exact ⟨rfl, B2.out⟩
set_option maxHeartbeats 8000000 in
theorem law_AuditStands_ne (l K lb : Nat) (k : Int) (r : List Nd) (A : Option Addr) (cap : Nat) (q : List Nd) (B : Option Addr) (cb : Nat) (w : World) (hg : goodL l k K r) (hlb : 1 ≤ lb ∧ lb ≤ 48) (h1 : r.length ≤ 60) (h2 : q.length ≤ 60) (hne : l ≠ lb) (hS : Sl w w.heap.size encN A r) (hI : ints r) (hSb : Sl w w.heap.size encN B q) (hIb : ints q) :
    Calls Tryz.prog 6 #[loadedV l k K A r.length cap, .int .i64 lb, .slice B q.length cb] w fun e w' => e = .returned (.bool true) ∧ Below w.heap.size w w' := by
  have HC := Lib.hid (fun W hS hSb => law34_two W l K lb k r A cap q B cb hg hS hI hSb hIb hlb h1 h2)
  have HW := Lib.hid (fun W g F gb m (h : DigAt W g K l k r F) (hb : BagAt W w.heap.size gb lb m) => audit_wrong W g K l k r F w.heap.size gb lb m h hb)
  rw [if_neg hne] at HW
  have HS := Lib.hid (And.intro hS hSb)
  have BW0 : Hid (Below w.heap.size w (w.alloc (.cells #[.int .i64 l, .int .i64 k, .int .i64 K, .slice A r.length cap] 48))) := Lib.hid (by repeat (first | with_reducible exact Below.refl _ _ | with_reducible assumption | ((with_reducible refine Below.setCell ?_ ?_ _); rotate_left; · (first | omega | exact Nat.le_refl _ | (simp <;> omega))) | (with_reducible refine Below.allocW ?_ _) | (with_reducible refine Below.drew ?_) | (with_reducible refine Below.extW ?_ _)))
  have X0 : Hid ((w.alloc (.cells #[.int .i64 l, .int .i64 k, .int .i64 K, .slice A r.length cap] 48)).heap[w.heap.size]? = some (.cells #[.int .i64 l, .int .i64 k, .int .i64 K, .slice A r.length cap] 48 (0, 0))) := Lib.hid (heap_alloc_new w _)
  have hne' : ((l : Int) == (lb : Int)) = false := by simp; omega
  unfold loadedV bagV at HC
  unfold loadedV
  clear hS hSb hg hI hIb
  go_enter Tryz.func6, Tryz.ntmps6
  go_upto_region 1 with fail
  generalize w.alloc (.cells #[.int .i64 l, .int .i64 k, .int .i64 K, .slice A r.length cap] 48) = W0 at X0 BW0 ⊢
  have cx := blk_cell X0.out
  have zx := lt_of_block X0.out
  have S0 := Lib.hid (HS.out.1.keep (B' := W0.heap.size) BW0.out.size fun p hp => BW0.out.cell hp)
  have S1 := Lib.hid (HS.out.2.keep (B' := W0.heap.size) BW0.out.size fun p hp => BW0.out.cell hp)
  go_wp2_with fail
  refine (HC.out _ S0.out S1.out).mono ?_
  rintro e w1 ⟨g, F, gb, A2, c2, rfl, hD, hB, hT, hb1⟩
  have R1 : Hid (AudW w g K l k r F gb lb (madeB lb q) A cap A2 w1) := Lib.hid ⟨hD, hB.mono BW0.out.size, blk_below X0.out hb1, S0.out.keep hb1.size (fun p hp => hb1.cell hp), hT.sl, Below.then_ BW0.out hb1⟩
  clear cx zx S0 S1 X0 BW0 HC hD hB hT hb1
  have R2 := Lib.hid ((R1.out.alloc (.cells #[.int .i64 k, .int .i64 l, .slice A r.length cap] 63)).alloc (.cells #[.int .i64 lb, .slice A2 (madeB lb q).length c2] 31))
  go_upto_region 2 with fail
  generalize (w1.alloc (.cells #[.int .i64 k, .int .i64 l, .slice A r.length cap] 63)).alloc (.cells #[.int .i64 lb, .slice A2 (madeB lb q).length c2] 31) = w2 at R2 ⊢
  clear R1
  go_wp2_with fail
  refine (audit_Stands_err w2 (.pointer (some ⟨g, 0, none⟩)) (.pointer (some ⟨gb, 0, none⟩)) 6 (by decide) (HW.out w2 g F gb _ R2.out.d R2.out.b)).mono ?_
  rintro e w3 ⟨rfl, hb3⟩
  have R3 := Lib.hid (R2.out.below hb3)
  clear hb3 R2
  go_wp2_with fail
  refine (audit_Culprit_err w3 (.pointer (some ⟨g, 0, none⟩)) (.pointer (some ⟨gb, 0, none⟩)) 6 (by decide) (HW.out w3 g F gb _ R3.out.d R3.out.b)).mono ?_
  rintro e w4 ⟨rfl, hb4⟩
  have R4 := Lib.hid (R3.out.below hb4)
  clear hb4 R3
  have cx := blk_cell R4.out.x
  have zx := lt_of_block R4.out.x
  go_wp2_with fail
  refine (alive34 _).mono ?_
  rintro e w5 ⟨rfl, hb5⟩
  have R5 := Lib.hid (R4.out.below hb5)
  go_wp2_with fail
  go_ret
  exact ⟨rfl, R5.out.blw⟩
/-- .. and the document's digest and bag. -/
structure AudV (w : World) (g K l : Nat) (k : Int) (r : List Nd) (F : Nat → Prop) (gb lb : Nat) (m : List Nd) (A : Option Addr) (cap : Nat) (A2 : Option Addr) (pv c2 : Nat) (W : World) : Prop where
  a : AudW w g K l k r F gb lb m A cap A2 W
  v : W.heap[pv]? = some (.cells #[.int .i64 k, .int .i64 l, .slice A r.length cap] 63 (0, 0))
  u : W.heap[pv + 1]? = some (.cells #[.int .i64 lb, .slice A2 m.length c2] 31 (0, 0))
theorem AudV.below {w : World} {g K l : Nat} {k : Int} {r : List Nd} {F : Nat → Prop} {gb lb : Nat} {m : List Nd} {A : Option Addr} {cap : Nat} {A2 : Option Addr} {pv c2 : Nat} {W W' : World} (h : AudV w g K l k r F gb lb m A cap A2 pv c2 W) (hb : Below W.heap.size W W') : AudV w g K l k r F gb lb m A cap A2 pv c2 W' :=
  ⟨h.a.below hb, blk_below h.v hb, blk_below h.u hb⟩
theorem AudV.new {w : World} {g K l : Nat} {k : Int} {r : List Nd} {F : Nat → Prop} {gb lb : Nat} {m : List Nd} {A : Option Addr} {cap : Nat} {A2 : Option Addr} {c2 : Nat} {W : World} (h : AudW w g K l k r F gb lb m A cap A2 W) :
    AudV w g K l k r F gb lb m A cap A2 W.heap.size c2 ((W.alloc (.cells #[.int .i64 k, .int .i64 l, .slice A r.length cap] 63)).alloc (.cells #[.int .i64 lb, .slice A2 m.length c2] 31)) :=
  ⟨(h.alloc _).alloc _, (heap_new_lt _ _ _ (by simp)).trans (heap_alloc_new W _), heap_new_at (W.alloc _) _ _ (by simp)⟩
set_option maxHeartbeats 8000000 in
theorem law_AuditStands_yes (l K : Nat) (k : Int) (r : List Nd) (A : Option Addr) (cap : Nat) (q : List Nd) (B : Option Addr) (cb : Nat) (w : World) (hg : goodL l k K r) (hlb : 1 ≤ l ∧ l ≤ 48) (h1 : r.length ≤ 60) (h2 : q.length ≤ 60) (hS : Sl w w.heap.size encN A r) (hI : ints r) (hSb : Sl w w.heap.size encN B q) (hIb : ints q) :
    Calls Tryz.prog 6 #[loadedV l k K A r.length cap, .int .i64 l, .slice B q.length cb] w fun e w' => e = .returned (.bool true) ∧ Below w.heap.size w w' := by
  have hR := (goodL_parts hg.2.2).1
  have hf := right_fits hR
  have hr2 : ∀ x ∈ r, 1 ≤ x.2 := fun x hx => (hf.1.roll.2 x hx).2
  have hr1 : ∀ x ∈ r, 1 ≤ x.1 := fun x hx => (hf.1.roll.2 x hx).1
  have HC := Lib.hid (fun W hS hSb => law34_two W l K l k r A cap q B cb hg hS hI hSb hIb hlb h1 h2)
  have hbag := madeB_bag l q
  have hbl := madeB_len (l := l) q
  generalize madeB l q = m at HC hbag hbl
  have HSt := Lib.hid (fun W g F gb (h : DigAt W g K l k r F) (hb : BagAt W w.heap.size gb l m) => audit_Stands keysC W g K l k r F w.heap.size gb m h hb hbag hI hr2 hr1 hf.1.sum (by omega))
  have HCu := Lib.hid (fun W g F gb (h : DigAt W g K l k r F) (hb : BagAt W w.heap.size gb l m) => audit_Culprit keysC W g K l k r F w.heap.size gb m h hb hbag hI hr2 hr1 hf.1.sum (by omega))
  have HRC := Lib.hid (fun (W : World) (A2 : Option Addr) (c2 : Nat) hS hSb => ref34_Culprit W k l A A2 cap c2 r m hS hSb hI hr2 (fun x hx => (hbag.val x hx).2.2) hf.1.sum hbag.sum hr1 (by omega))
  have HRS := Lib.hid (fun (W : World) (A2 : Option Addr) (c2 : Nat) hS hSb => ref34_Stands W k l A A2 cap c2 r m hS hSb hI hr2 (fun x hx => (hbag.val x hx).2.2) hf.1.sum hbag.sum hr1 (by omega) hf.2)
  have HS := Lib.hid (And.intro hS hSb)
  have BW0 : Hid (Below w.heap.size w (w.alloc (.cells #[.int .i64 l, .int .i64 k, .int .i64 K, .slice A r.length cap] 48))) := Lib.hid (by repeat (first | with_reducible exact Below.refl _ _ | with_reducible assumption | ((with_reducible refine Below.setCell ?_ ?_ _); rotate_left; · (first | omega | exact Nat.le_refl _ | (simp <;> omega))) | (with_reducible refine Below.allocW ?_ _) | (with_reducible refine Below.drew ?_) | (with_reducible refine Below.extW ?_ _)))
  have X0 : Hid ((w.alloc (.cells #[.int .i64 l, .int .i64 k, .int .i64 K, .slice A r.length cap] 48)).heap[w.heap.size]? = some (.cells #[.int .i64 l, .int .i64 k, .int .i64 K, .slice A r.length cap] 48 (0, 0))) := Lib.hid (heap_alloc_new w _)
  unfold loadedV bagV at HC
  unfold bagV at HRC HRS
  unfold loadedV
  clear hS hSb hg hI hIb hR hf hr2 hr1 hbag
  go_enter Tryz.func6, Tryz.ntmps6
  go_upto_region 1 with fail
  generalize w.alloc (.cells #[.int .i64 l, .int .i64 k, .int .i64 K, .slice A r.length cap] 48) = W0 at X0 BW0 ⊢
  have cx := blk_cell X0.out
  have zx := lt_of_block X0.out
  have S0 := Lib.hid (HS.out.1.keep (B' := W0.heap.size) BW0.out.size fun p hp => BW0.out.cell hp)
  have S1 := Lib.hid (HS.out.2.keep (B' := W0.heap.size) BW0.out.size fun p hp => BW0.out.cell hp)
  go_wp2_with fail
  refine (HC.out _ S0.out S1.out).mono ?_
  rintro e w1 ⟨g, F, gb, A2, c2, rfl, hD, hB, hT, hb1⟩
  have R1 : Hid (AudW w g K l k r F gb l m A cap A2 w1) := Lib.hid ⟨hD, hB.mono BW0.out.size, blk_below X0.out hb1, S0.out.keep hb1.size (fun p hp => hb1.cell hp), hT.sl, Below.then_ BW0.out hb1⟩
  clear cx zx S0 S1 X0 BW0 HC hD hB hT hb1
  have R2 := Lib.hid (AudV.new (c2 := c2) R1.out)
  go_upto_region 2 with fail
  generalize (w1.alloc (.cells #[.int .i64 k, .int .i64 l, .slice A r.length cap] 63)).alloc (.cells #[.int .i64 l, .slice A2 m.length c2] 31) = w2 at R2 ⊢
  obtain ⟨pv, hpv⟩ : ∃ pv, pv = w1.heap.size := ⟨_, rfl⟩
  rw [← hpv] at R2 ⊢
  clear R1 hpv
  go_wp2_with fail
  refine (HSt.out w2 g F gb R2.out.a.d R2.out.a.b).mono ?_
  rintro e w3 ⟨a, rfl, hSa, hb3⟩
  have R3 := Lib.hid (R2.out.below hb3)
  have HSa := Lib.hid hSa
  generalize decide (sumR r = sumR m) = is1 at HRS ⊢
  clear hb3 R2 hSa
  go_wp2_with fail
  refine (HCu.out w3 g F gb R3.out.a.d R3.out.a.b).mono ?_
  rintro e w4 ⟨a', rfl, hSa', hb4⟩
  obtain rfl := hSa'.unique HSa.out fun z => Iff.rfl
  have R4 := Lib.hid (R3.out.below hb4)
  clear hb4 R3 hSa'
  have cx := blk_cell R4.out.a.x
  have zx := lt_of_block R4.out.a.x
  have cv := blk_cell R4.out.v
  have zv := lt_of_block R4.out.v
  have cu := blk_cell R4.out.u
  have zu := lt_of_block R4.out.u
  go_wp2_with fail
  refine (HRC.out w4 A2 c2 R4.out.a.s R4.out.a.t).mono ?_
  rintro e w5 ⟨a5, rfl, hSa', hb5⟩
  obtain rfl := hSa'.unique HSa.out fun z => Iff.rfl
  have R5 := Lib.hid (R4.out.below hb5)
  clear hb5 R4 hSa' cx zx cv zv cu zu
  have cv := blk_cell R5.out.v
  have zv := lt_of_block R5.out.v
  have cu := blk_cell R5.out.u
  have zu := lt_of_block R5.out.u
  go_wp2_with fail
  refine (HRS.out w5 A2 c2 R5.out.a.s R5.out.a.t).mono ?_
  rintro e w6 ⟨a6, rfl, hSa', hb6⟩
  obtain rfl := hSa'.unique HSa.out fun z => Iff.rfl
  have R6 := Lib.hid (R5.out.below hb6)
  clear hb6 R5 hSa' cv zv cu zu
  obtain ⟨a1, a2⟩ := a6
  simp only
  generalize (is1 && decide (a1 = 0)) = is
  go_wp2_with fail
  refine (alive34 _).mono ?_
  rintro e w7 ⟨rfl, hb7⟩
  have R7 := Lib.hid (R6.out.below hb7)
  go_wp2_with fail
  go_ret
  exact ⟨rfl, R7.out.a.blw⟩
theorem law_AuditStands (l k K : Int) (r : List Nd) (A : Option Addr) (cap : Nat) (lb : Int) (q : List Nd) (B : Option Addr) (cb : Nat) (W : World) (hS : Sl W W.heap.size encN A r) (hI : ints r) (_ : i64 l) (_ : i64 k) (_ : i64 K) (hm : r.length ≤ maxLen) (_ : (Lit.int IntKind.i64 lb).wf = true) (hSb : Sl W W.heap.size encN B q) (hIb : ints q) (hmb : q.length ≤ maxLen) :
    Calls Tryz.prog 6 #[loadedV l k K A r.length cap, .int .i64 lb, .slice B q.length cb] W fun e W' => e = .returned (.bool true) ∧ Below W.heap.size W W' := by
  by_cases h : goodL l k K r ∧ (1 ≤ lb ∧ lb ≤ 48) ∧ r.length ≤ 60 ∧ q.length ≤ 60
  · obtain ⟨hg, hl, h1, h2⟩ := h
    obtain ⟨n, m, rfl, rfl⟩ := goodL_nat hg.2.2
    obtain ⟨p, rfl⟩ : ∃ p : Nat, lb = p := ⟨lb.toNat, by omega⟩
    by_cases hne : n = p
    · subst hne
      exact law_AuditStands_yes n m k r A cap q B cb W hg (by omega) h1 h2 hS hI hSb hIb
    · exact law_AuditStands_ne n m p k r A cap q B cb W hg (by omega) h1 h2 hne hS hI hSb hIb
  · exact law_AuditStands_no l k K lb r A cap q B cb W h hS hI hSb hIb
end Go.Proofs.YtajhjbiokbgebaaGreat
/- A digest that stands for a bag: its ranks hold. Plain law. -/
namespace Go.Proofs.YtajhjbiokbgebaaGreat
open Go.ChangeShapes Go.WideShapes Go.ChangeAt Go.RowKit
set_option linter.unusedVariables false

theorem Seen.none_more {f : Int → Int} {C : Int → Prop} {a : Int × Int} (h : Seen f C a) (h0 : a.1 = 0) (z : Int) (hz : C z) : f z ≤ 0 := by
  obtain ⟨L, hL, hc, hp⟩ := h
  rcases hc with ⟨_, hc⟩ | ⟨hm, _⟩
  · exact hc z ((hL z).2 hz)
  · have := hp _ hm
    omega
theorem stands_rank {l : Nat} (hl : 1 ≤ l ∧ l ≤ 48) {r m : List Nd} (hr : ∀ x ∈ r, isNode l x.1 = true ∧ 0 ≤ x.2) (hm : BagL l m) {a : Int × Int} (hS : Seen (mrN l r m) (upOf r) a) (h0 : a.1 = 0) (hs : sumR r = sumR m) (y : Int) :
    lowOf l r y ≤ betwB m 0 y ∧ betwB m 0 y ≤ highOf l r y := by
  have hv : ∀ x ∈ m, 0 ≤ x.1 ∧ x.1 < 2 ^ l := fun x hx => ⟨(hm.val x hx).1, (hm.val x hx).2.1⟩
  have hp : ∀ x ∈ m, 1 ≤ x.2 := fun x hx => (hm.val x hx).2.2
  have := stands_bounds hl (r := r) (q := leaves l m) hr (fun x hx => ⟨leaves_node hl hm x hx, by
    have := ((leaves_roll hm).2 x hx).2
    omega⟩) (fun id hid => ?_) (by rw [leaves_sum]; exact hs) y
  · rw [leaves_rank hl hv] at this
    exact this
  · rw [leaves_betw hl hv]
    by_cases hu : upOf r id
    · have := hS.none_more h0 id hu
      simp only [mrN] at this
      simp only [loN, hiN]
      omega
    · have : ownN r id = 0 := wIds_none fun x hx => by
        rw [← Bool.not_eq_true]
        exact fun h => hu ⟨x, hx, h⟩
      rw [this]
      exact (betwB_le hp _ _).1
end Go.Proofs.YtajhjbiokbgebaaGreat
/- Chapter 16's example. -/
namespace Go.Proofs.YtajhjbiokbgebaaGreat
open Go.ChangeShapes Go.WideShapes Go.ChangeAt Go.RowKit
set_option linter.unusedVariables false
set_option maxRecDepth 100000

theorem alive16 (w : World) : Calls Tryz.prog 15 #[] w fun e w' => e = .returned (.bool true) ∧ Below w.heap.size w w' := by
  have HS := Lib.hid (sl_lit w encN nodes16 126 _ rfl)
  have HC := Lib.hid (digest_Load · 2 2 4 (some ⟨w.heap.size, 0, none⟩) 3 nodes16 load16 · nodes16_ints (by decide))
  go_enter Tryz.func15, Tryz.ntmps15
  go_wp2_with fail
  refine (HC.out _ (HS.out.keep (by simp) fun p hp => rfl)).mono ?_
  rintro e w1 ⟨g, F, rfl, hD, _, hb1⟩
  have B1 : Below w.heap.size w w1 := Below.then_ (by repeat (first | with_reducible exact Below.refl _ _ | with_reducible assumption | ((with_reducible refine Below.setCell ?_ ?_ _); rotate_left; · (first | omega | exact Nat.le_refl _ | (simp <;> omega))) | (with_reducible refine Below.allocW ?_ _) | (with_reducible refine Below.drew ?_) | (with_reducible refine Below.extW ?_ _))) hb1
  have s1 : w.heap.size ≤ w1.heap.size := B1.size
  have KD := Lib.hid hD
  clear hD
  go_wp2_with fail
  refine (rank_Low _ g 2 2 4 nodes16 F 0 KD.out (by decide)).mono ?_
  rintro e w2 ⟨rfl, hb2⟩
  have B2 : Below w.heap.size w w2 := Below.then_ (by repeat (first | with_reducible exact Below.refl _ _ | with_reducible assumption | ((with_reducible refine Below.setCell ?_ ?_ _); rotate_left; · (first | omega | exact Nat.le_refl _ | (simp <;> omega))) | (with_reducible refine Below.allocW ?_ _) | (with_reducible refine Below.drew ?_) | (with_reducible refine Below.extW ?_ _))) hb2
  have s2 : w.heap.size ≤ w2.heap.size := B2.size
  rw [low16_0]
  have KD2 := Lib.hid (KD.out.below hb2)
  go_wp2_with fail
  refine (rank_High _ g 2 2 4 nodes16 F 0 KD2.out (by decide)).mono ?_
  rintro e w3 ⟨rfl, hb3⟩
  have B3 : Below w.heap.size w w3 := Below.then_ (by repeat (first | with_reducible exact Below.refl _ _ | with_reducible assumption | ((with_reducible refine Below.setCell ?_ ?_ _); rotate_left; · (first | omega | exact Nat.le_refl _ | (simp <;> omega))) | (with_reducible refine Below.allocW ?_ _) | (with_reducible refine Below.drew ?_) | (with_reducible refine Below.extW ?_ _))) hb3
  have s3 : w.heap.size ≤ w3.heap.size := B3.size
  rw [high16_0]
  have KD3 := Lib.hid (KD2.out.below hb3)
  go_wp2_with fail
  refine (rank_Low _ g 2 2 4 nodes16 F 2 KD3.out (by decide)).mono ?_
  rintro e w4 ⟨rfl, hb4⟩
  have B4 : Below w.heap.size w w4 := Below.then_ (by repeat (first | with_reducible exact Below.refl _ _ | with_reducible assumption | ((with_reducible refine Below.setCell ?_ ?_ _); rotate_left; · (first | omega | exact Nat.le_refl _ | (simp <;> omega))) | (with_reducible refine Below.allocW ?_ _) | (with_reducible refine Below.drew ?_) | (with_reducible refine Below.extW ?_ _))) hb4
  have s4 : w.heap.size ≤ w4.heap.size := B4.size
  rw [low16_2]
  have KD4 := Lib.hid (KD3.out.below hb4)
  go_wp2_with fail
  refine (rank_Low _ g 2 2 4 nodes16 F 3 KD4.out (by decide)).mono ?_
  rintro e w5 ⟨rfl, hb5⟩
  have B5 : Below w.heap.size w w5 := Below.then_ (by repeat (first | with_reducible exact Below.refl _ _ | with_reducible assumption | ((with_reducible refine Below.setCell ?_ ?_ _); rotate_left; · (first | omega | exact Nat.le_refl _ | (simp <;> omega))) | (with_reducible refine Below.allocW ?_ _) | (with_reducible refine Below.drew ?_) | (with_reducible refine Below.extW ?_ _))) hb5
  have s5 : w.heap.size ≤ w5.heap.size := B5.size
  rw [low16_3]
  go_wp2_with fail
  go_ret
  exact ⟨rfl, (by repeat (first | with_reducible exact Below.refl _ _ | with_reducible assumption | ((with_reducible refine Below.setCell ?_ ?_ _); rotate_left; · (first | omega | exact Nat.le_refl _ | (simp <;> omega))) | (with_reducible refine Below.allocW ?_ _) | (with_reducible refine Below.drew ?_) | (with_reducible refine Below.extW ?_ _)))⟩
end Go.Proofs.YtajhjbiokbgebaaGreat
/- Chapter 16: what is told never falls. -/
namespace Go.Proofs.YtajhjbiokbgebaaGreat
open Go.ChangeShapes Go.WideShapes Go.ChangeAt Go.RowKit
set_option linter.unusedVariables false
set_option maxRecDepth 100000

end Go.Proofs.YtajhjbiokbgebaaGreat
/- Chapter 16: what a digest tells is what the document says. -/
namespace Go.Proofs.YtajhjbiokbgebaaGreat
open Go.ChangeShapes Go.WideShapes Go.ChangeAt Go.RowKit
set_option linter.unusedVariables false
set_option maxRecDepth 100000
theorem reckon_Mul (w : World) (a b : Nat) (ha : a ≤ 9223372036854775807) (hb : b ≤ 9223372036854775807) (hab : a * b ≤ 9223372036854775807) : Calls Tryz.prog 124 #[.int .i64 a, .int .i64 b] w fun e w' => e = .returned (.tuple #[.int .i64 (a * b : Nat), .bool true]) ∧ Below w.heap.size w w' := by
  have HC := Lib.hid (show decide (0 ≤ (a : Int) ∧ 0 ≤ (b : Int)) = true by simp)
  have e1 : a * b / 18446744073709551616 = 0 := by omega
  have e2 : a * b % 18446744073709551616 = a * b := by omega
  have HM : Hid (∀ W, Calls Tryz.prog 199 #[.int .u64 a, .int .u64 b] W fun e w' => e = .returned (.tuple #[.int .u64 0, .int .u64 (a * b : Nat)]) ∧ w' = W) := Lib.hid fun W => by
    have := Tryz.bits_Mul64 a b (by omega) (by omega) W
    rw [e1, e2] at this
    exact this
  have HK := Lib.hid (reckon_count · (a * b) hab)
  clear e1 e2
  generalize a * b = p at hab HM HK ⊢
  go_enter Tryz.func124, Tryz.ntmps124
  go_wp2_with fail
  refine (reckon_counts _ a b).mono ?_
  rintro e w1 ⟨rfl, hb1⟩
  have B1 : Below w.heap.size w w1 := Below.then_ (by repeat (first | with_reducible exact Below.refl _ _ | with_reducible assumption | ((with_reducible refine Below.setCell ?_ ?_ _); rotate_left; · (first | omega | exact Nat.le_refl _ | (simp <;> omega))) | (with_reducible refine Below.allocW ?_ _) | (with_reducible refine Below.drew ?_) | (with_reducible refine Below.extW ?_ _))) hb1
  have s1 : w.heap.size ≤ w1.heap.size := B1.size
  rw [HC.out]
  go_wp2_with fail
  refine (HM.out _).mono ?_
  rintro e w2 ⟨rfl, rfl⟩
  go_wp2_with fail
  refine (HK.out _).mono ?_
  rintro e w3 ⟨rfl, hb3⟩
  have B3 : Below w.heap.size w w3 := Below.then_ (by repeat (first | with_reducible exact Below.refl _ _ | with_reducible assumption | ((with_reducible refine Below.setCell ?_ ?_ _); rotate_left; · (first | omega | exact Nat.le_refl _ | (simp <;> omega))) | (with_reducible refine Below.allocW ?_ _) | (with_reducible refine Below.drew ?_) | (with_reducible refine Below.extW ?_ _))) hb3
  have s3 : w.heap.size ≤ w3.heap.size := B3.size
  go_wp2_with fail
  go_ret2
  exact ⟨rfl, (by repeat (first | with_reducible exact Below.refl _ _ | with_reducible assumption | ((with_reducible refine Below.setCell ?_ ?_ _); rotate_left; · (first | omega | exact Nat.le_refl _ | (simp <;> omega))) | (with_reducible refine Below.allocW ?_ _) | (with_reducible refine Below.drew ?_) | (with_reducible refine Below.extW ?_ _)))⟩
theorem digest_Cap (w : World) (g K l : Nat) (k : Int) (r : List Nd) (F : Nat → Prop) (h : DigAt w g K l k r F) : Calls Tryz.prog 125 #[.pointer (some ⟨g, 0, none⟩)] w fun e w' => e = .returned (.int .i64 (sumR r / k)) ∧ Below w.heap.size w w' := by
  have hs0 := sumR_nonneg h.fits.roll
  have hs1 := h.fits.sum
  obtain ⟨h1, h2, p, F0, rfl, hh, hP⟩ := h
  have c := blk_cell hh
  have z := lt_of_block hh
  have HP := Lib.hid hP
  clear hh hP
  go_enter Tryz.func125, Tryz.ntmps125
  go_wp2_with fail
  refine wp_region_ext (by kernel_rfl) (by kernel_rfl) ?_
  repeat (go_big_quiet_step (first | (go_at_call 90; exact quiet_ext (pool_Total _ p K l r F0 (HP.out.below (ext_below _ _)))) | (go_at_call 189; exact quiet_ext (fold_Cap _ (sumR r) k hs0 (by omega) h1 (by omega)))))
  refine wpQuiet_nil ?_
  intro w1 hb1
  replace hb1 := below_of_ext hb1
  have B1 : Below w.heap.size w w1 := Below.then_ (by repeat (first | with_reducible exact Below.refl _ _ | with_reducible assumption | ((with_reducible refine Below.setCell ?_ ?_ _); rotate_left; · (first | omega | exact Nat.le_refl _ | (simp <;> omega))) | (with_reducible refine Below.allocW ?_ _) | (with_reducible refine Below.drew ?_) | (with_reducible refine Below.extW ?_ _))) hb1
  have s1 : w.heap.size ≤ w1.heap.size := B1.size
  go_wp2_with fail
  go_ret
  exact ⟨rfl, (by repeat (first | with_reducible exact Below.refl _ _ | with_reducible assumption | ((with_reducible refine Below.setCell ?_ ?_ _); rotate_left; · (first | omega | exact Nat.le_refl _ | (simp <;> omega))) | (with_reducible refine Below.allocW ?_ _) | (with_reducible refine Below.drew ?_) | (with_reducible refine Below.extW ?_ _)))⟩
theorem rank_Slack (w : World) (g K l : Nat) (k : Int) (r : List Nd) (F : Nat → Prop) (h : DigAt w g K l k r F) : Calls Tryz.prog 52 #[.pointer (some ⟨g, 0, none⟩)] w fun e w' => e = .returned (.int .i64 ((l : Int) * (sumR r / k))) ∧ Below w.heap.size w w' := by
  have hs0 := sumR_nonneg h.fits.roll
  have hs1 := h.fits.sum
  have hl := h.l_le
  have hk := h.1
  obtain ⟨c, hc⟩ := Int.eq_ofNat_of_zero_le (Int.ediv_nonneg hs0 (show 0 ≤ k by omega))
  have hc2 : c ≤ 72057594037927935 := by have := Int.ediv_le_self k hs0; omega
  have hm : l * c ≤ 48 * 72057594037927935 := Nat.mul_le_mul hl.2 hc2
  have HM := Lib.hid (reckon_Mul · l c (by omega) (by omega) (by omega))
  have HC := Lib.hid hc
  have HD := Lib.hid h
  rw [hc]
  clear hc h
  go_enter Tryz.func52, Tryz.ntmps52
  go_wp2_with fail
  refine (digest_Conf _ g K l k r F HD.out).mono ?_
  rintro e w1 ⟨rfl, hb1⟩
  have B1 : Below w.heap.size w w1 := Below.then_ (by repeat (first | with_reducible exact Below.refl _ _ | with_reducible assumption | ((with_reducible refine Below.setCell ?_ ?_ _); rotate_left; · (first | omega | exact Nat.le_refl _ | (simp <;> omega))) | (with_reducible refine Below.allocW ?_ _) | (with_reducible refine Below.drew ?_) | (with_reducible refine Below.extW ?_ _))) hb1
  have s1 : w.heap.size ≤ w1.heap.size := B1.size
  go_wp2_with fail
  refine (digest_Cap _ g K l k r F (HD.out.below B1)).mono ?_
  rintro e w2 ⟨rfl, hb2⟩
  have B2 : Below w.heap.size w w2 := Below.then_ (by repeat (first | with_reducible exact Below.refl _ _ | with_reducible assumption | ((with_reducible refine Below.setCell ?_ ?_ _); rotate_left; · (first | omega | exact Nat.le_refl _ | (simp <;> omega))) | (with_reducible refine Below.allocW ?_ _) | (with_reducible refine Below.drew ?_) | (with_reducible refine Below.extW ?_ _))) hb2
  have s2 : w.heap.size ≤ w2.heap.size := B2.size
  rw [HC.out]
  go_wp2_with fail
  refine (HM.out _).mono ?_
  rintro e w3 ⟨rfl, hb3⟩
  have B3 : Below w.heap.size w w3 := Below.then_ (by repeat (first | with_reducible exact Below.refl _ _ | with_reducible assumption | ((with_reducible refine Below.setCell ?_ ?_ _); rotate_left; · (first | omega | exact Nat.le_refl _ | (simp <;> omega))) | (with_reducible refine Below.allocW ?_ _) | (with_reducible refine Below.drew ?_) | (with_reducible refine Below.extW ?_ _))) hb3
  have s3 : w.heap.size ≤ w3.heap.size := B3.size
  go_wp2_with fail
  go_ret
  exact ⟨ret_int (by push_cast; rfl), (by repeat (first | with_reducible exact Below.refl _ _ | with_reducible assumption | ((with_reducible refine Below.setCell ?_ ?_ _); rotate_left; · (first | omega | exact Nat.le_refl _ | (simp <;> omega))) | (with_reducible refine Below.allocW ?_ _) | (with_reducible refine Below.drew ?_) | (with_reducible refine Below.extW ?_ _)))⟩
theorem digest_Cap_nil (w : World) : Calls Tryz.prog 125 #[.pointer none] w fun e w' => e = .returned (.int .i64 0) ∧ Below w.heap.size w w' := by
  go_enter Tryz.func125, Tryz.ntmps125
  go_wp2_with fail
  go_ret
  exact ⟨rfl, (by repeat (first | with_reducible exact Below.refl _ _ | with_reducible assumption | ((with_reducible refine Below.setCell ?_ ?_ _); rotate_left; · (first | omega | exact Nat.le_refl _ | (simp <;> omega))) | (with_reducible refine Below.allocW ?_ _) | (with_reducible refine Below.drew ?_) | (with_reducible refine Below.extW ?_ _)))⟩
theorem rank_Slack_nil (w : World) : Calls Tryz.prog 52 #[.pointer none] w fun e w' => e = .returned (.int .i64 0) ∧ Below w.heap.size w w' := by
  have HM := Lib.hid (reckon_Mul · 0 0 (by omega) (by omega) (by omega))
  go_enter Tryz.func52, Tryz.ntmps52
  go_wp2_with fail
  refine (digest_Conf_nil _).mono ?_
  rintro e w1 ⟨rfl, hb1⟩
  have B1 : Below w.heap.size w w1 := Below.then_ (by repeat (first | with_reducible exact Below.refl _ _ | with_reducible assumption | ((with_reducible refine Below.setCell ?_ ?_ _); rotate_left; · (first | omega | exact Nat.le_refl _ | (simp <;> omega))) | (with_reducible refine Below.allocW ?_ _) | (with_reducible refine Below.drew ?_) | (with_reducible refine Below.extW ?_ _))) hb1
  have s1 : w.heap.size ≤ w1.heap.size := B1.size
  go_wp2_with fail
  refine (digest_Cap_nil _).mono ?_
  rintro e w2 ⟨rfl, hb2⟩
  have B2 : Below w.heap.size w w2 := Below.then_ (by repeat (first | with_reducible exact Below.refl _ _ | with_reducible assumption | ((with_reducible refine Below.setCell ?_ ?_ _); rotate_left; · (first | omega | exact Nat.le_refl _ | (simp <;> omega))) | (with_reducible refine Below.allocW ?_ _) | (with_reducible refine Below.drew ?_) | (with_reducible refine Below.extW ?_ _))) hb2
  have s2 : w.heap.size ≤ w2.heap.size := B2.size
  go_wp2_with fail
  refine (HM.out _).mono ?_
  rintro e w3 ⟨rfl, hb3⟩
  have B3 : Below w.heap.size w w3 := Below.then_ (by repeat (first | with_reducible exact Below.refl _ _ | with_reducible assumption | ((with_reducible refine Below.setCell ?_ ?_ _); rotate_left; · (first | omega | exact Nat.le_refl _ | (simp <;> omega))) | (with_reducible refine Below.allocW ?_ _) | (with_reducible refine Below.drew ?_) | (with_reducible refine Below.extW ?_ _))) hb3
  have s3 : w.heap.size ≤ w3.heap.size := B3.size
  go_wp2_with fail
  go_ret
  exact ⟨rfl, (by repeat (first | with_reducible exact Below.refl _ _ | with_reducible assumption | ((with_reducible refine Below.setCell ?_ ?_ _); rotate_left; · (first | omega | exact Nat.le_refl _ | (simp <;> omega))) | (with_reducible refine Below.allocW ?_ _) | (with_reducible refine Below.drew ?_) | (with_reducible refine Below.extW ?_ _)))⟩
theorem ref13_Cap (w : World) (k u : Int) (A : Option Addr) (cap : Nat) (l : List Nd) (hS : Sl w w.heap.size encN A l) (hI : ints l) (hm : l.length ≤ maxLen) (h0 : 0 ≤ (totalOf l).1) (h1 : (totalOf l).1 ≤ 72057594037927935) (hk : 1 ≤ k) (hk2 : k ≤ 1048576) :
    Calls Tryz.prog 123 #[.agg #[.int .i64 k, .int .i64 u, .slice A l.length cap]] w fun e w' => e = .returned (.int .i64 ((totalOf l).1 / k)) ∧ Below w.heap.size w w' := by
  have HC := Lib.hid (ref13_Weight · k u A cap l · hI hm)
  have HS := Lib.hid (hS.keep (B' := (w.alloc (.cells #[.int .i64 k, .int .i64 u, .slice A l.length cap] 63)).heap.size) (by simp) fun p hp => ((Below.refl w.heap.size w).alloc (Nat.le_refl _) (.cells #[.int .i64 k, .int .i64 u, .slice A l.length cap] 63)).cell hp)
  clear hS hI hm
  generalize (totalOf l).1 = t at HC h0 h1 ⊢
  have q1 : 0 ≤ t / k := Int.ediv_nonneg (by omega) (by omega)
  have q2 : t / k ≤ t := Int.ediv_le_self _ (by omega)
  go_enter Tryz.func123, Tryz.ntmps123
  go_wp2_with fail
  refine wp_region_ext (by kernel_rfl) (by kernel_rfl) ?_
  repeat (go_big_quiet_step ((go_at_call 47; exact quiet_ext (HC.out _ (HS.out.keep (ext_below _ _).size fun p hp => (ext_below _ _).cell hp)))))
  refine wpQuiet_nil ?_
  intro w1 hb1
  replace hb1 := below_of_ext hb1
  have B1 : Below w.heap.size w w1 := Below.then_ (by repeat (first | with_reducible exact Below.refl _ _ | with_reducible assumption | ((with_reducible refine Below.setCell ?_ ?_ _); rotate_left; · (first | omega | exact Nat.le_refl _ | (simp <;> omega))) | (with_reducible refine Below.allocW ?_ _) | (with_reducible refine Below.drew ?_) | (with_reducible refine Below.extW ?_ _))) hb1
  have s1 : w.heap.size ≤ w1.heap.size := B1.size
  have z1_0 : w.heap.size < w1.heap.size := by have := hb1.size; (try simp at this); omega
  have y1_0 : w.heap.size ≤ w1.heap.size := Nat.le_of_lt z1_0
  have c1_0 := fun o => hb1.cell (p := ⟨w.heap.size, o, none⟩) (by first | omega | (simp <;> omega))
  have f1_0 := fun o => hb1.frozen (p := ⟨w.heap.size, o, none⟩) (by first | omega | (simp <;> omega))
  go_wp2_with fail
  go_ret
  exact ⟨rfl, (by repeat (first | with_reducible exact Below.refl _ _ | with_reducible assumption | ((with_reducible refine Below.setCell ?_ ?_ _); rotate_left; · (first | omega | exact Nat.le_refl _ | (simp <;> omega))) | (with_reducible refine Below.allocW ?_ _) | (with_reducible refine Below.drew ?_) | (with_reducible refine Below.extW ?_ _)))⟩
theorem ref16_Slack (w : World) (k : Int) (u : Nat) (A : Option Addr) (cap : Nat) (l : List Nd) (hS : Sl w w.heap.size encN A l) (hI : ints l) (hm : l.length ≤ maxLen) (h0 : 0 ≤ (totalOf l).1) (h1 : (totalOf l).1 ≤ 72057594037927935) (hk : 1 ≤ k) (hk2 : k ≤ 1048576) (hu : u ≤ 48) :
    Calls Tryz.prog 51 #[.agg #[.int .i64 k, .int .i64 u, .slice A l.length cap]] w fun e w' => e = .returned (.int .i64 ((u : Int) * ((totalOf l).1 / k))) ∧ Below w.heap.size w w' := by
  have HC := Lib.hid (ref13_Cap · k u A cap l · hI hm h0 h1 hk hk2)
  have HS := Lib.hid (hS.keep (B' := (w.alloc (.cells #[.int .i64 k, .int .i64 u, .slice A l.length cap] 63)).heap.size) (by simp) fun p hp => ((Below.refl w.heap.size w).alloc (Nat.le_refl _) (.cells #[.int .i64 k, .int .i64 u, .slice A l.length cap] 63)).cell hp)
  have q1 : 0 ≤ (totalOf l).1 / k := Int.ediv_nonneg (by omega) (by omega)
  have q2 : (totalOf l).1 / k ≤ (totalOf l).1 := Int.ediv_le_self _ (by omega)
  clear hS hI hm
  generalize (totalOf l).1 / k = t at HC q1 q2 ⊢
  obtain ⟨c, rfl⟩ := Int.eq_ofNat_of_zero_le q1
  have hm : u * c ≤ 48 * 72057594037927935 := Nat.mul_le_mul hu (by omega)
  have q3 : (u : Int) * (c : Int) ≤ 3458764513820540880 := by rw [← Int.natCast_mul]; omega
  have q4 : 0 ≤ (u : Int) * (c : Int) := Int.mul_nonneg (by omega) (by omega)
  clear hm
  go_enter Tryz.func51, Tryz.ntmps51
  go_wp2_with fail
  refine wp_region_ext (by kernel_rfl) (by kernel_rfl) ?_
  repeat (go_big_quiet_step ((go_at_call 123; exact quiet_ext (HC.out _ (HS.out.keep (ext_below _ _).size fun p hp => (ext_below _ _).cell hp)))))
  refine wpQuiet_nil ?_
  intro w1 hb1
  replace hb1 := below_of_ext hb1
  have B1 : Below w.heap.size w w1 := Below.then_ (by repeat (first | with_reducible exact Below.refl _ _ | with_reducible assumption | ((with_reducible refine Below.setCell ?_ ?_ _); rotate_left; · (first | omega | exact Nat.le_refl _ | (simp <;> omega))) | (with_reducible refine Below.allocW ?_ _) | (with_reducible refine Below.drew ?_) | (with_reducible refine Below.extW ?_ _))) hb1
  have s1 : w.heap.size ≤ w1.heap.size := B1.size
  have z1_0 : w.heap.size < w1.heap.size := by have := hb1.size; (try simp at this); omega
  have y1_0 : w.heap.size ≤ w1.heap.size := Nat.le_of_lt z1_0
  have c1_0 := fun o => hb1.cell (p := ⟨w.heap.size, o, none⟩) (by first | omega | (simp <;> omega))
  have f1_0 := fun o => hb1.frozen (p := ⟨w.heap.size, o, none⟩) (by first | omega | (simp <;> omega))
  go_wp2_with fail
  go_ret
  exact ⟨rfl, (by repeat (first | with_reducible exact Below.refl _ _ | with_reducible assumption | ((with_reducible refine Below.setCell ?_ ?_ _); rotate_left; · (first | omega | exact Nat.le_refl _ | (simp <;> omega))) | (with_reducible refine Below.allocW ?_ _) | (with_reducible refine Below.drew ?_) | (with_reducible refine Below.extW ?_ _)))⟩
end Go.Proofs.YtajhjbiokbgebaaGreat
/- Chapter 16: what a digest tells is what the document says: the law. -/
namespace Go.Proofs.YtajhjbiokbgebaaGreat
open Go.ChangeShapes Go.WideShapes Go.ChangeAt Go.RowKit
set_option linter.unusedVariables false
set_option maxRecDepth 100000

end Go.Proofs.YtajhjbiokbgebaaGreat
/- Chapter 34: the ranks of a digest that stands for a bag: the law. -/
namespace Go.Proofs.YtajhjbiokbgebaaGreat
open Go.ChangeShapes Go.WideShapes Go.ChangeAt Go.RowKit
set_option linter.unusedVariables false
set_option linter.unusedSimpArgs false
set_option maxRecDepth 100000

set_option maxHeartbeats 8000000 in
theorem law_AuditBounds_no (l k K : Int) (r : List Nd) (A : Option Addr) (cap : Nat) (q : List Nd) (B : Option Addr) (cb : Nat) (y : Int) (w : World) (h : ¬ (goodL l k K r ∧ (1 ≤ l ∧ l ≤ 48) ∧ r.length ≤ 60 ∧ q.length ≤ 60)) (hS : Sl w w.heap.size encN A r) (hI : ints r) (hSb : Sl w w.heap.size encN B q) (hIb : ints q) :
    Calls Tryz.prog 7 #[loadedV l k K A r.length cap, .slice B q.length cb, .int .i64 y] w fun e w' => e = .returned (.bool true) ∧ Below w.heap.size w w' := by
  have HC := Lib.hid (fun W hS hSb => law34_two_no W l k K l r A cap q B cb h hS hI hSb hIb)
  have HS := Lib.hid (And.intro hS hSb)
  have BW0 : Hid (Below w.heap.size w (w.alloc (.cells #[.int .i64 l, .int .i64 k, .int .i64 K, .slice A r.length cap] 48))) := Lib.hid (by repeat (first | with_reducible exact Below.refl _ _ | with_reducible assumption | ((with_reducible refine Below.setCell ?_ ?_ _); rotate_left; · (first | omega | exact Nat.le_refl _ | (simp <;> omega))) | (with_reducible refine Below.allocW ?_ _) | (with_reducible refine Below.drew ?_) | (with_reducible refine Below.extW ?_ _)))
  have X0 : Hid ((w.alloc (.cells #[.int .i64 l, .int .i64 k, .int .i64 K, .slice A r.length cap] 48)).heap[w.heap.size]? = some (.cells #[.int .i64 l, .int .i64 k, .int .i64 K, .slice A r.length cap] 48 (0, 0))) := Lib.hid (heap_alloc_new w _)
  unfold loadedV at HC ⊢
  clear h hS hSb
  go_enter Tryz.func7, Tryz.ntmps7
  go_upto_region 1 with fail
  generalize w.alloc (.cells #[.int .i64 l, .int .i64 k, .int .i64 K, .slice A r.length cap] 48) = W0 at X0 BW0 ⊢
  have cx := blk_cell X0.out
  have zx := lt_of_block X0.out
  have S0 := Lib.hid (HS.out.1.keep (B' := W0.heap.size) BW0.out.size fun p hp => BW0.out.cell hp)
  have S1 := Lib.hid (HS.out.2.keep (B' := W0.heap.size) BW0.out.size fun p hp => BW0.out.cell hp)
  go_wp2_with fail
  refine (HC.out _ S0.out S1.out).mono ?_
  rintro e w1 ⟨⟨d, b, a1, a2, A1, n1, c1, b1, A2, n2, c2, rfl⟩, hb1⟩
  have B1 := Lib.hid (Below.then_ BW0.out hb1)
  clear cx zx S0 S1 X0 BW0 HC
  go_wp2_with fail
  refine (alive34 _).mono ?_
  rintro e w2 ⟨rfl, hb2⟩
  have B2 := Lib.hid (Below.then_ ((B1.out.alloc B1.out.size (.cells #[.int .i64 a1, .int .i64 a2, .slice A1 n1 c1] 63)).alloc (by have := B1.out.size; simp; omega) (.cells #[.int .i64 b1, .slice A2 n2 c2] 31)) hb2)
  go_wp2_with fail
  go_ret
  exact ⟨rfl, B2.out⟩
set_option maxHeartbeats 8000000 in
theorem law_AuditBounds_yes (l K : Nat) (k : Int) (r : List Nd) (A : Option Addr) (cap : Nat) (q : List Nd) (B : Option Addr) (cb : Nat) (y : Int) (w : World) (hg : goodL l k K r) (hlb : 1 ≤ l ∧ l ≤ 48) (h1 : r.length ≤ 60) (h2 : q.length ≤ 60) (hS : Sl w w.heap.size encN A r) (hI : ints r) (hSb : Sl w w.heap.size encN B q) (hIb : ints q) :
    Calls Tryz.prog 7 #[loadedV l k K A r.length cap, .slice B q.length cb, .int .i64 y] w fun e w' => e = .returned (.bool true) ∧ Below w.heap.size w w' := by
  have hR := (goodL_parts hg.2.2).1
  have hf := right_fits hR
  have hr2 : ∀ x ∈ r, 1 ≤ x.2 := fun x hx => (hf.1.roll.2 x hx).2
  have hr1 : ∀ x ∈ r, 1 ≤ x.1 := fun x hx => (hf.1.roll.2 x hx).1
  have hrn := hf.1.nodes hlb
  have HC := Lib.hid (fun W hS hSb => law34_two W l K l k r A cap q B cb hg hS hI hSb hIb hlb h1 h2)
  have hbag := madeB_bag l q
  have hbl := madeB_len (l := l) q
  generalize madeB l q = m at HC hbag hbl
  have HSt := Lib.hid (fun W g F gb (h : DigAt W g K l k r F) (hb : BagAt W w.heap.size gb l m) => audit_Stands keysC W g K l k r F w.heap.size gb m h hb hbag hI hr2 hr1 hf.1.sum (by omega))
  have HRk := Lib.hid (fun W gb (hb : BagAt W w.heap.size gb l m) => bag_Rank W w.heap.size gb l m y hb hbag)
  have HLo := Lib.hid (fun (W : World) g F (h : DigAt W g K l k r F) => rank_Low W g K l k r F y h (by omega))
  have HHi := Lib.hid (fun (W : World) g F (h : DigAt W g K l k r F) => rank_High W g K l k r F y h (by omega))
  have HLaw : Hid (∀ a : Int × Int, Seen (mrN l r m) (upOf r) a → (decide (sumR r = sumR m) && decide (a.1 = 0)) = true → lowOf l r y ≤ betwB m 0 y ∧ betwB m 0 y ≤ highOf l r y) := Lib.hid fun a ha h => by
    simp only [Bool.and_eq_true, decide_eq_true_eq] at h
    exact stands_rank hlb (fun x hx => ⟨hrn x hx, by have := hr2 x hx; omega⟩) hbag ha h.2 h.1 y
  generalize betwB m 0 y = n0 at HRk HLaw
  generalize lowOf l r y = lo at HLo HLaw
  generalize highOf l r y = hi at HHi HLaw
  have HS := Lib.hid (And.intro hS hSb)
  have BW0 : Hid (Below w.heap.size w (w.alloc (.cells #[.int .i64 l, .int .i64 k, .int .i64 K, .slice A r.length cap] 48))) := Lib.hid (by repeat (first | with_reducible exact Below.refl _ _ | with_reducible assumption | ((with_reducible refine Below.setCell ?_ ?_ _); rotate_left; · (first | omega | exact Nat.le_refl _ | (simp <;> omega))) | (with_reducible refine Below.allocW ?_ _) | (with_reducible refine Below.drew ?_) | (with_reducible refine Below.extW ?_ _)))
  have X0 : Hid ((w.alloc (.cells #[.int .i64 l, .int .i64 k, .int .i64 K, .slice A r.length cap] 48)).heap[w.heap.size]? = some (.cells #[.int .i64 l, .int .i64 k, .int .i64 K, .slice A r.length cap] 48 (0, 0))) := Lib.hid (heap_alloc_new w _)
  unfold loadedV bagV at HC
  unfold loadedV
  clear hS hSb hg hI hIb hR hf hr2 hr1 hbag hrn
  go_enter Tryz.func7, Tryz.ntmps7
  go_upto_region 1 with fail
  generalize w.alloc (.cells #[.int .i64 l, .int .i64 k, .int .i64 K, .slice A r.length cap] 48) = W0 at X0 BW0 ⊢
  have cx := blk_cell X0.out
  have zx := lt_of_block X0.out
  have S0 := Lib.hid (HS.out.1.keep (B' := W0.heap.size) BW0.out.size fun p hp => BW0.out.cell hp)
  have S1 := Lib.hid (HS.out.2.keep (B' := W0.heap.size) BW0.out.size fun p hp => BW0.out.cell hp)
  go_wp2_with fail
  refine (HC.out _ S0.out S1.out).mono ?_
  rintro e w1 ⟨g, F, gb, A2, c2, rfl, hD, hB, hT, hb1⟩
  have R1 : Hid (AudW w g K l k r F gb l m A cap A2 w1) := Lib.hid ⟨hD, hB.mono BW0.out.size, blk_below X0.out hb1, S0.out.keep hb1.size (fun p hp => hb1.cell hp), hT.sl, Below.then_ BW0.out hb1⟩
  clear cx zx S0 S1 X0 BW0 HC hD hB hT hb1
  have R2 := Lib.hid ((R1.out.alloc (.cells #[.int .i64 k, .int .i64 l, .slice A r.length cap] 63)).alloc (.cells #[.int .i64 l, .slice A2 m.length c2] 31))
  go_upto_region 2 with fail
  generalize (w1.alloc (.cells #[.int .i64 k, .int .i64 l, .slice A r.length cap] 63)).alloc (.cells #[.int .i64 l, .slice A2 m.length c2] 31) = w2 at R2 ⊢
  clear R1
  go_wp2_with fail
  refine (HSt.out w2 g F gb R2.out.d R2.out.b).mono ?_
  rintro e w3 ⟨a, rfl, hSa, hb3⟩
  have R3 := Lib.hid (R2.out.below hb3)
  have HL2 := Lib.hid (HLaw.out a hSa)
  generalize (decide (sumR r = sumR m) && decide (a.1 = 0)) = is1 at HL2 ⊢
  clear hb3 R2 hSa HLaw
  go_wp2_with fail
  refine (HRk.out w3 gb R3.out.b).mono ?_
  rintro e w4 ⟨rfl, hb4⟩
  have R4 := Lib.hid (R3.out.below hb4)
  clear hb4 R3
  cases is1
  · clear HL2
    go_wp2_with fail
    refine (alive34 _).mono ?_
    rintro e w7 ⟨rfl, hb7⟩
    have R7 := Lib.hid (R4.out.below hb7)
    go_wp2_with fail
    go_ret
    exact ⟨rfl, R7.out.blw⟩
  · have hl := HL2.out rfl
    have hlo := hl.1
    have hhi := hl.2
    clear HL2 hl
    go_wp2_with fail
    refine (HLo.out w4 g F R4.out.d).mono ?_
    rintro e w5 ⟨rfl, hb5⟩
    have R5 := Lib.hid (R4.out.below hb5)
    clear hb5 R4
    go_wp2_with fail
    refine (HHi.out w5 g F R5.out.d).mono ?_
    rintro e w6 ⟨rfl, hb6⟩
    have R6 := Lib.hid (R5.out.below hb6)
    clear hb6 R5
    go_wp2_with fail
    refine (alive34 _).mono ?_
    rintro e w7 ⟨rfl, hb7⟩
    have R7 := Lib.hid (R6.out.below hb7)
    go_wp2_with fail
    go_ret
    exact ⟨rfl, R7.out.blw⟩
theorem law_AuditBounds (l k K : Int) (r : List Nd) (A : Option Addr) (cap : Nat) (q : List Nd) (B : Option Addr) (cb : Nat) (y : Int) (W : World) (hS : Sl W W.heap.size encN A r) (hI : ints r) (_ : i64 l) (_ : i64 k) (_ : i64 K) (hm : r.length ≤ maxLen) (hSb : Sl W W.heap.size encN B q) (hIb : ints q) (hmb : q.length ≤ maxLen) (_ : (Lit.int IntKind.i64 y).wf = true) :
    Calls Tryz.prog 7 #[loadedV l k K A r.length cap, .slice B q.length cb, .int .i64 y] W fun e W' => e = .returned (.bool true) ∧ Below W.heap.size W W' := by
  by_cases h : goodL l k K r ∧ (1 ≤ l ∧ l ≤ 48) ∧ r.length ≤ 60 ∧ q.length ≤ 60
  · obtain ⟨hg, hl, h1, h2⟩ := h
    obtain ⟨n, m, rfl, rfl⟩ := goodL_nat hg.2.2
    exact law_AuditBounds_yes n m k r A cap q B cb y W hg (by omega) h1 h2 hS hI hSb hIb
  · exact law_AuditBounds_no l k K r A cap q B cb y W h hS hI hSb hIb
end Go.Proofs.YtajhjbiokbgebaaGreat
