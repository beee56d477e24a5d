/-
  Texts of this proof, one behind the other: Made31, Float, Sample, Take31, SensorTakesW.
-/
import GoSem.Core.Float
import Derived.Lib.SmallJoins
import Derived.Test.YtgjaopfjffncbaaGreatP1
import Derived.Test.YtgjaopfjffncbaaGreatP6
/- Law 31's made. -/
set_option linter.unusedSimpArgs false namespace Go.Proofs.YtgjaopfjffncbaaGreat
open Go.ChangeShapes Go.WideShapes Go.ChangeAt Go.RowKit
set_option linter.unusedVariables false
set_option linter.unusedSimpArgs false
set_option maxRecDepth 100000

theorem store14_other {W : World} {b q : Nat} (h : q ≠ b) (v0 v1 v2 v3 v4 v5 v6 v7 v8 v9 v10 v11 v12 v13 : Value) : ((((((((((((((W.setCell ⟨b, 0, none⟩ (v0)).setCell ⟨b, 1, none⟩ (v1)).setCell ⟨b, 2, none⟩ (v2)).setCell ⟨b, 3, none⟩ (v3)).setCell ⟨b, 4, none⟩ (v4)).setCell ⟨b, 5, none⟩ (v5)).setCell ⟨b, 6, none⟩ (v6)).setCell ⟨b, 7, none⟩ (v7)).setCell ⟨b, 8, none⟩ (v8)).setCell ⟨b, 9, none⟩ (v9)).setCell ⟨b, 10, none⟩ (v10)).setCell ⟨b, 11, none⟩ (v11)).setCell ⟨b, 12, none⟩ (v12)).setCell ⟨b, 13, none⟩ (v13)).heap[q]? = W.heap[q]? :=
  (Below.heap_setCell _ _ _ _ h).trans ((Below.heap_setCell _ _ _ _ h).trans ((Below.heap_setCell _ _ _ _ h).trans ((Below.heap_setCell _ _ _ _ h).trans ((Below.heap_setCell _ _ _ _ h).trans ((Below.heap_setCell _ _ _ _ h).trans ((Below.heap_setCell _ _ _ _ h).trans ((Below.heap_setCell _ _ _ _ h).trans ((Below.heap_setCell _ _ _ _ h).trans ((Below.heap_setCell _ _ _ _ h).trans ((Below.heap_setCell _ _ _ _ h).trans ((Below.heap_setCell _ _ _ _ h).trans ((Below.heap_setCell _ _ _ _ h).trans ((Below.heap_setCell _ _ _ _ h).trans (rfl))))))))))))))
def zeroR : Value := .agg #[.int .i64 0, .int .i64 0, .int .i64 0, .int .i64 0, .int .i64 0, .int .u64 0, .int .i64 0, .int .i64 0, .int .u64 0, .int .u64 0, .bool false, .int .i64 0, .int .i64 0, .slice none 0 0]
/-- What stands while made runs. -/
structure MdS (w : World) (l k K me wait ep : Int) (kids : Nat) (W : World) : Prop where
  p : W.heap[w.heap.size]? = some (.cells #[.int .i64 l, .int .i64 k, .int .i64 K, .int .i64 me, .int .i64 wait, .int .i64 ep, .int .u64 kids] 26 (0, 0))
  z : W.heap[w.heap.size + 1]? = some (.cells #[.int .i64 0, .int .i64 0, .int .i64 0, .int .i64 0, .int .i64 0, .int .u64 0, .int .i64 0, .int .i64 0, .int .u64 0, .int .u64 0, .bool false, .int .i64 0, .int .i64 0, .slice none 0 0] 43 (0, 0))
  b : Below w.heap.size w W
theorem MdS.below {w W W' : World} {l k K me wait ep : Int} {kids : Nat} (h : MdS w l k K me wait ep kids W) (hb : Below W.heap.size W W') : MdS w l k K me wait ep kids W' := ⟨blk_below h.p hb, blk_below h.z hb, Below.then_ h.b hb⟩
theorem MdS.first (w : World) (l k K me wait ep : Int) (kids : Nat) : MdS w l k K me wait ep kids ((w.alloc (.cells #[.int .i64 l, .int .i64 k, .int .i64 K, .int .i64 me, .int .i64 wait, .int .i64 ep, .int .u64 kids] 26)).alloc (.cells #[.int .i64 0, .int .i64 0, .int .i64 0, .int .i64 0, .int .i64 0, .int .u64 0, .int .i64 0, .int .i64 0, .int .u64 0, .int .u64 0, .bool false, .int .i64 0, .int .i64 0, .slice none 0 0] 43)) :=
  ⟨(heap_new_lt _ _ _ (by simp)).trans (heap_alloc_new w _), heap_new_at (w.alloc _) _ _ (by simp), (by repeat (first | with_reducible exact Below.refl _ _ | with_reducible assumption | ((with_reducible refine Below.setCell ?_ ?_ _); rotate_left; · (first | omega | exact Nat.le_refl _ | (simp <;> omega))) | (with_reducible refine Below.allocW ?_ _) | (with_reducible refine Below.drew ?_) | (with_reducible refine Below.extW ?_ _)))⟩
set_option maxHeartbeats 4000000 in
theorem law31_made_no (w : World) (l k K me wait ep : Int) (kids : Nat) (hkids : kids < 2 ^ 64) (hz : newS l k K ⟨me, kids, wait⟩ ep = false) :
    Calls Tryz.prog 13 #[placeV l k K me wait ep kids] w fun e w' => e = .returned (.tuple #[.pointer none, zeroR]) ∧ Below w.heap.size w w' := by
  have HN := Lib.hid (fun W => sensor_New_no W l k K ⟨me, kids, wait⟩ ep hkids hz)
  have M0 := Lib.hid (MdS.first w l k K me wait ep kids)
  unfold confV plcV at HN
  dsimp only at HN
  unfold placeV zeroR
  clear hz
  go_enter Tryz.func13, Tryz.ntmps13
  go_upto_region 1 with fail
  generalize ((w.alloc (.cells #[.int .i64 l, .int .i64 k, .int .i64 K, .int .i64 me, .int .i64 wait, .int .i64 ep, .int .u64 kids] 26)).alloc (.cells #[.int .i64 0, .int .i64 0, .int .i64 0, .int .i64 0, .int .i64 0, .int .u64 0, .int .i64 0, .int .i64 0, .int .u64 0, .int .u64 0, .bool false, .int .i64 0, .int .i64 0, .slice none 0 0] 43)) = W0 at M0 ⊢
  have c0 := blk_cell M0.out.p
  have z0 := lt_of_block M0.out.p
  go_wp2_with fail
  refine (HN.out W0).mono ?_
  rintro e w1 ⟨rfl, hb⟩
  have M1 := Lib.hid (M0.out.below hb)
  clear hb c0 z0
  have c1 := blk_cell M1.out.z
  have f1 := blk_frozen M1.out.z
  have z1 := lt_of_block M1.out.z
  go_wp2_with fail
  have Y3 : Hid (((((((((((((((w1.setCell ⟨w.heap.size + 1, 0, none⟩ (.int .i64 0)).setCell ⟨w.heap.size + 1, 1, none⟩ (.int .i64 0)).setCell ⟨w.heap.size + 1, 2, none⟩ (.int .i64 0)).setCell ⟨w.heap.size + 1, 3, none⟩ (.int .i64 0)).setCell ⟨w.heap.size + 1, 4, none⟩ (.int .i64 0)).setCell ⟨w.heap.size + 1, 5, none⟩ (.int .u64 0)).setCell ⟨w.heap.size + 1, 6, none⟩ (.int .i64 0)).setCell ⟨w.heap.size + 1, 7, none⟩ (.int .i64 0)).setCell ⟨w.heap.size + 1, 8, none⟩ (.int .u64 0)).setCell ⟨w.heap.size + 1, 9, none⟩ (.int .u64 0)).setCell ⟨w.heap.size + 1, 10, none⟩ (.bool false)).setCell ⟨w.heap.size + 1, 11, none⟩ (.int .i64 0)).setCell ⟨w.heap.size + 1, 12, none⟩ (.int .i64 0)).setCell ⟨w.heap.size + 1, 13, none⟩ (.slice none 0 0)).heap[w.heap.size + 1]? = some (.cells #[.int .i64 0, .int .i64 0, .int .i64 0, .int .i64 0, .int .i64 0, .int .u64 0, .int .i64 0, .int .i64 0, .int .u64 0, .int .u64 0, .bool false, .int .i64 0, .int .i64 0, .slice none 0 0] 43 (0, 0))) := Lib.hid (store14 M1.out.z (.int .i64 0) (.int .i64 0) (.int .i64 0) (.int .i64 0) (.int .i64 0) (.int .u64 0) (.int .i64 0) (.int .i64 0) (.int .u64 0) (.int .u64 0) (.bool false) (.int .i64 0) (.int .i64 0) (.slice none 0 0))
  have B3 : Hid (Below w.heap.size w ((((((((((((((w1.setCell ⟨w.heap.size + 1, 0, none⟩ (.int .i64 0)).setCell ⟨w.heap.size + 1, 1, none⟩ (.int .i64 0)).setCell ⟨w.heap.size + 1, 2, none⟩ (.int .i64 0)).setCell ⟨w.heap.size + 1, 3, none⟩ (.int .i64 0)).setCell ⟨w.heap.size + 1, 4, none⟩ (.int .i64 0)).setCell ⟨w.heap.size + 1, 5, none⟩ (.int .u64 0)).setCell ⟨w.heap.size + 1, 6, none⟩ (.int .i64 0)).setCell ⟨w.heap.size + 1, 7, none⟩ (.int .i64 0)).setCell ⟨w.heap.size + 1, 8, none⟩ (.int .u64 0)).setCell ⟨w.heap.size + 1, 9, none⟩ (.int .u64 0)).setCell ⟨w.heap.size + 1, 10, none⟩ (.bool false)).setCell ⟨w.heap.size + 1, 11, none⟩ (.int .i64 0)).setCell ⟨w.heap.size + 1, 12, none⟩ (.int .i64 0)).setCell ⟨w.heap.size + 1, 13, none⟩ (.slice none 0 0))) := Lib.hid (store14_below M1.out.b (by simp) (.int .i64 0) (.int .i64 0) (.int .i64 0) (.int .i64 0) (.int .i64 0) (.int .u64 0) (.int .i64 0) (.int .i64 0) (.int .u64 0) (.int .u64 0) (.bool false) (.int .i64 0) (.int .i64 0) (.slice none 0 0))
  clear c1 f1 z1
  generalize ((((((((((((((w1.setCell ⟨w.heap.size + 1, 0, none⟩ (.int .i64 0)).setCell ⟨w.heap.size + 1, 1, none⟩ (.int .i64 0)).setCell ⟨w.heap.size + 1, 2, none⟩ (.int .i64 0)).setCell ⟨w.heap.size + 1, 3, none⟩ (.int .i64 0)).setCell ⟨w.heap.size + 1, 4, none⟩ (.int .i64 0)).setCell ⟨w.heap.size + 1, 5, none⟩ (.int .u64 0)).setCell ⟨w.heap.size + 1, 6, none⟩ (.int .i64 0)).setCell ⟨w.heap.size + 1, 7, none⟩ (.int .i64 0)).setCell ⟨w.heap.size + 1, 8, none⟩ (.int .u64 0)).setCell ⟨w.heap.size + 1, 9, none⟩ (.int .u64 0)).setCell ⟨w.heap.size + 1, 10, none⟩ (.bool false)).setCell ⟨w.heap.size + 1, 11, none⟩ (.int .i64 0)).setCell ⟨w.heap.size + 1, 12, none⟩ (.int .i64 0)).setCell ⟨w.heap.size + 1, 13, none⟩ (.slice none 0 0)) = W3 at Y3 B3 ⊢
  have c3 := blk_cell Y3.out
  have f3 := blk_frozen Y3.out
  have z3 := lt_of_block Y3.out
  try go_wp2_with fail
  exact bodyPost_ret (v := .tuple #[.pointer none, .agg #[.int .i64 0, .int .i64 0, .int .i64 0, .int .i64 0, .int .i64 0, .int .u64 0, .int .i64 0, .int .i64 0, .int .u64 0, .int .u64 0, .bool false, .int .i64 0, .int .i64 0, .slice none 0 0]]) (by simp only [results, Tryz.results13]; go_simp) rfl ⟨rfl, B3.out⟩
/-- What made tells of what may be. -/
def MadeIn (w : World) (b a : Nat) (s : Sen) (e : Ending) (W : World) : Prop := ∃ g, e = .returned (.tuple #[.pointer (some ⟨g, 0, none⟩), refV s none 0 0]) ∧ SensIn w g b a s [] W
set_option maxHeartbeats 4000000 in
theorem law31_made (w : World) (a b : Nat) (k me wait ep : Int) (kids : Nat) (hkids : kids < 2 ^ 64) (hz : newS a k b ⟨me, kids, wait⟩ ep = true) :
    Calls Tryz.prog 13 #[placeV a k b me wait ep kids] w (MadeIn w b a (senNew a k b ⟨me, kids, wait⟩ ep)) := by
  have HN := Lib.hid (fun W => sensor_New W a b k ⟨me, kids, wait⟩ ep hkids hz)
  have HIs := Lib.hid (fun W => ref31_Is W a k b ⟨me, kids, wait⟩ ep hkids)
  have HR := Lib.hid (fun W => ref31_New W a k b ⟨me, kids, wait⟩ ep)
  rw [hz] at HIs
  have M0 := Lib.hid (MdS.first w a k b me wait ep kids)
  unfold confV plcV at HN
  unfold confV at HR HIs
  dsimp only at HN HR HIs
  have HE : Hid (∀ g W, SensIn w g b a (senNew a k b ⟨me, kids, wait⟩ ep) [] W → MadeIn w b a (senNew a k b ⟨me, kids, wait⟩ ep) (.returned (.tuple #[.pointer (some ⟨g, 0, none⟩), .agg #[.int .i64 (a : Int), .int .i64 k, .int .i64 (b : Int), .int .i64 me, .int .i64 wait, .int .u64 kids, .int .i64 ep, .int .i64 0, .int .u64 0, .int .u64 ((withC 0 me : Nat) : Int), .bool false, .int .i64 k, .int .i64 (a : Int), .slice none 0 0]])) W) := Lib.hid fun g W h => ⟨g, rfl, h⟩
  unfold refV refC at HR
  have HR2 : Hid (∀ W, Calls Tryz.prog 12 #[.agg #[.int .i64 a, .int .i64 k, .int .i64 b], .int .i64 me, .int .u64 kids, .int .i64 wait, .int .i64 ep] W fun e w' => e = .returned (.agg #[.int .i64 (a : Int), .int .i64 k, .int .i64 (b : Int), .int .i64 me, .int .i64 wait, .int .u64 kids, .int .i64 ep, .int .i64 0, .int .u64 0, .int .u64 ((withC 0 me : Nat) : Int), .bool false, .int .i64 k, .int .i64 (a : Int), .slice none 0 0]) ∧ Below W.heap.size W w') := HR
  clear HR
  generalize senNew a k b ⟨me, kids, wait⟩ ep = sn at HN HE ⊢
  unfold placeV
  clear hz
  go_enter Tryz.func13, Tryz.ntmps13
  go_upto_region 1 with fail
  have Z0 : Hid (((w.alloc (.cells #[.int .i64 a, .int .i64 k, .int .i64 b, .int .i64 me, .int .i64 wait, .int .i64 ep, .int .u64 kids] 26)).alloc (.cells #[.int .i64 0, .int .i64 0, .int .i64 0, .int .i64 0, .int .i64 0, .int .u64 0, .int .i64 0, .int .i64 0, .int .u64 0, .int .u64 0, .bool false, .int .i64 0, .int .i64 0, .slice none 0 0] 43)).heap.size = w.heap.size + 2) := Lib.hid (by simp)
  generalize ((w.alloc (.cells #[.int .i64 a, .int .i64 k, .int .i64 b, .int .i64 me, .int .i64 wait, .int .i64 ep, .int .u64 kids] 26)).alloc (.cells #[.int .i64 0, .int .i64 0, .int .i64 0, .int .i64 0, .int .i64 0, .int .u64 0, .int .i64 0, .int .i64 0, .int .u64 0, .int .u64 0, .bool false, .int .i64 0, .int .i64 0, .slice none 0 0] 43)) = W0 at M0 Z0 ⊢
  have c0 := blk_cell M0.out.p
  have z0 := lt_of_block M0.out.p
  go_wp2_with fail
  refine (HN.out W0).mono ?_
  rintro e w1 ⟨g, F, rfl, hs, hF, hb⟩
  have M1 := Lib.hid (M0.out.below hb)
  have HF : Hid (∀ q, F q → w.heap.size + 2 ≤ q) := Lib.hid fun q hq => Nat.le_trans (by have := Z0.out; omega) (hF q hq)
  have S1 := Lib.hid hs
  clear hb c0 z0 hs hF
  have c1 := blk_cell M1.out.p
  have z1 := lt_of_block M1.out.p
  go_wp2_with fail
  refine (HIs.out w1).mono ?_
  rintro e w2 ⟨rfl, hb⟩
  have M2 := Lib.hid (M1.out.below hb)
  have S2 := Lib.hid (S1.out.below hb)
  clear hb c1 z1
  have c2 := blk_cell M2.out.p
  have z2 := lt_of_block M2.out.p
  go_wp2_with fail
  refine (HR2.out w2).mono ?_
  rintro e w3 ⟨rfl, hb⟩
  have M3 := Lib.hid (M2.out.below hb)
  have S3 := Lib.hid (S2.out.below hb)
  clear hb c2 z2
  have c3 := blk_cell M3.out.z
  have f3 := blk_frozen M3.out.z
  have z3 := lt_of_block M3.out.z
  go_wp2_with fail
  have Y3 : Hid (((((((((((((((w3.setCell ⟨w.heap.size + 1, 0, none⟩ (.int .i64 (a : Int))).setCell ⟨w.heap.size + 1, 1, none⟩ (.int .i64 k)).setCell ⟨w.heap.size + 1, 2, none⟩ (.int .i64 (b : Int))).setCell ⟨w.heap.size + 1, 3, none⟩ (.int .i64 me)).setCell ⟨w.heap.size + 1, 4, none⟩ (.int .i64 wait)).setCell ⟨w.heap.size + 1, 5, none⟩ (.int .u64 kids)).setCell ⟨w.heap.size + 1, 6, none⟩ (.int .i64 ep)).setCell ⟨w.heap.size + 1, 7, none⟩ (.int .i64 0)).setCell ⟨w.heap.size + 1, 8, none⟩ (.int .u64 0)).setCell ⟨w.heap.size + 1, 9, none⟩ (.int .u64 ((withC 0 me : Nat) : Int))).setCell ⟨w.heap.size + 1, 10, none⟩ (.bool false)).setCell ⟨w.heap.size + 1, 11, none⟩ (.int .i64 k)).setCell ⟨w.heap.size + 1, 12, none⟩ (.int .i64 (a : Int))).setCell ⟨w.heap.size + 1, 13, none⟩ (.slice none 0 0)).heap[w.heap.size + 1]? = some (.cells #[.int .i64 (a : Int), .int .i64 k, .int .i64 (b : Int), .int .i64 me, .int .i64 wait, .int .u64 kids, .int .i64 ep, .int .i64 0, .int .u64 0, .int .u64 ((withC 0 me : Nat) : Int), .bool false, .int .i64 k, .int .i64 (a : Int), .slice none 0 0] 43 (0, 0))) := Lib.hid (store14 M3.out.z (.int .i64 (a : Int)) (.int .i64 k) (.int .i64 (b : Int)) (.int .i64 me) (.int .i64 wait) (.int .u64 kids) (.int .i64 ep) (.int .i64 0) (.int .u64 0) (.int .u64 ((withC 0 me : Nat) : Int)) (.bool false) (.int .i64 k) (.int .i64 (a : Int)) (.slice none 0 0))
  have S4 : Hid (SensIn w g b a sn [] ((((((((((((((w3.setCell ⟨w.heap.size + 1, 0, none⟩ (.int .i64 (a : Int))).setCell ⟨w.heap.size + 1, 1, none⟩ (.int .i64 k)).setCell ⟨w.heap.size + 1, 2, none⟩ (.int .i64 (b : Int))).setCell ⟨w.heap.size + 1, 3, none⟩ (.int .i64 me)).setCell ⟨w.heap.size + 1, 4, none⟩ (.int .i64 wait)).setCell ⟨w.heap.size + 1, 5, none⟩ (.int .u64 kids)).setCell ⟨w.heap.size + 1, 6, none⟩ (.int .i64 ep)).setCell ⟨w.heap.size + 1, 7, none⟩ (.int .i64 0)).setCell ⟨w.heap.size + 1, 8, none⟩ (.int .u64 0)).setCell ⟨w.heap.size + 1, 9, none⟩ (.int .u64 ((withC 0 me : Nat) : Int))).setCell ⟨w.heap.size + 1, 10, none⟩ (.bool false)).setCell ⟨w.heap.size + 1, 11, none⟩ (.int .i64 k)).setCell ⟨w.heap.size + 1, 12, none⟩ (.int .i64 (a : Int))).setCell ⟨w.heap.size + 1, 13, none⟩ (.slice none 0 0))) := Lib.hid ⟨F, S3.out.keep fun q hq => store14_other (by have := HF.out q hq; omega) (.int .i64 (a : Int)) (.int .i64 k) (.int .i64 (b : Int)) (.int .i64 me) (.int .i64 wait) (.int .u64 kids) (.int .i64 ep) (.int .i64 0) (.int .u64 0) (.int .u64 ((withC 0 me : Nat) : Int)) (.bool false) (.int .i64 k) (.int .i64 (a : Int)) (.slice none 0 0), fun q hq => by have := HF.out q hq; omega, store14_below M3.out.b (by simp) (.int .i64 (a : Int)) (.int .i64 k) (.int .i64 (b : Int)) (.int .i64 me) (.int .i64 wait) (.int .u64 kids) (.int .i64 ep) (.int .i64 0) (.int .u64 0) (.int .u64 ((withC 0 me : Nat) : Int)) (.bool false) (.int .i64 k) (.int .i64 (a : Int)) (.slice none 0 0)⟩
  clear c3 f3 z3
  generalize ((((((((((((((w3.setCell ⟨w.heap.size + 1, 0, none⟩ (.int .i64 (a : Int))).setCell ⟨w.heap.size + 1, 1, none⟩ (.int .i64 k)).setCell ⟨w.heap.size + 1, 2, none⟩ (.int .i64 (b : Int))).setCell ⟨w.heap.size + 1, 3, none⟩ (.int .i64 me)).setCell ⟨w.heap.size + 1, 4, none⟩ (.int .i64 wait)).setCell ⟨w.heap.size + 1, 5, none⟩ (.int .u64 kids)).setCell ⟨w.heap.size + 1, 6, none⟩ (.int .i64 ep)).setCell ⟨w.heap.size + 1, 7, none⟩ (.int .i64 0)).setCell ⟨w.heap.size + 1, 8, none⟩ (.int .u64 0)).setCell ⟨w.heap.size + 1, 9, none⟩ (.int .u64 ((withC 0 me : Nat) : Int))).setCell ⟨w.heap.size + 1, 10, none⟩ (.bool false)).setCell ⟨w.heap.size + 1, 11, none⟩ (.int .i64 k)).setCell ⟨w.heap.size + 1, 12, none⟩ (.int .i64 (a : Int))).setCell ⟨w.heap.size + 1, 13, none⟩ (.slice none 0 0)) = W3 at Y3 S4 ⊢
  have c4 := blk_cell Y3.out
  have f4 := blk_frozen Y3.out
  have z4 := lt_of_block Y3.out
  try go_wp2_with fail
  exact bodyPost_ret (v := .tuple #[.pointer (some ⟨g, 0, none⟩), .agg #[.int .i64 (a : Int), .int .i64 k, .int .i64 (b : Int), .int .i64 me, .int .i64 wait, .int .u64 kids, .int .i64 ep, .int .i64 0, .int .u64 0, .int .u64 ((withC 0 me : Nat) : Int), .bool false, .int .i64 k, .int .i64 (a : Int), .slice none 0 0]]) (by simp only [results, Tryz.results13]; go_simp) rfl (HE.out _ _ S4.out)
end Go.Proofs.YtgjaopfjffncbaaGreat
/- Plain facts on floats: a whole number from 0 to 2^53 as a float64 is read back as it. -/
namespace Go.Proofs.YtgjaopfjffncbaaGreat
open Ieee

theorem shl_one (n k : Nat) : n <<< k = n * 2 ^ k := Nat.shiftLeft_eq n k

theorem cut_zero_drop (way : Toward) (n : Nat) : way.cut false n 0 = n := by
  cases way <;> simp [Toward.cut, Nat.mod_one]

theorem rung_le (L K : Nat) (hL : L ≤ 52) (hk : K < 2 ^ 53) : (L + 1022) * 2 ^ 52 + K ≤ 2047 * 2 ^ 52 := by
  simp only [Nat.reducePow] at *
  omega

theorem rung_facts (L K : Nat) (hL : L ≤ 52) (hk1 : 2 ^ 52 ≤ K) (hk2 : K < 2 ^ 53) :
    ((L + 1022) * 2 ^ 52 + K) / 2 ^ 63 = 0 ∧ ((L + 1022) * 2 ^ 52 + K) % 2 ^ 63 = (L + 1022) * 2 ^ 52 + K ∧
    ¬ ((L + 1022) * 2 ^ 52 + K < 2 ^ 52) ∧ (L + 1022) * 2 ^ 52 + K < 2047 * 2 ^ 52 ∧
    2 ^ 52 + ((L + 1022) * 2 ^ 52 + K) % 2 ^ 52 = K ∧ ((L + 1022) * 2 ^ 52 + K) / 2 ^ 52 = L + 1023 := by
  simp only [Nat.reducePow] at *
  omega

theorem f64_near (n : Nat) (h0 : 0 < n) (h : n < 2 ^ 53) :
    ∃ k : Nat, k ≤ 52 ∧ FloatKind.f64.decode (FloatKind.f64.nearest (n : Int)) = .number false (n * 2 ^ k) (-(k : Int)) := by
  have hL : n.log2 ≤ 52 := by
    have := (Nat.log2_lt (n := n) (k := 53) (by omega)).2 h
    omega
  refine ⟨52 - n.log2, by omega, ?_⟩
  have hlo : 2 ^ n.log2 ≤ n := Nat.log2_self_le (by omega)
  have hhi : n < 2 ^ (n.log2 + 1) := Nat.lt_log2_self
  have hk1 : 2 ^ 52 ≤ n * 2 ^ (52 - n.log2) := by
    have : 2 ^ 52 = 2 ^ n.log2 * 2 ^ (52 - n.log2) := by rw [← Nat.pow_add]; congr 1; omega
    rw [this]; exact Nat.mul_le_mul_right _ hlo
  have hk2 : n * 2 ^ (52 - n.log2) < 2 ^ 53 := by
    have : 2 ^ 53 = 2 ^ (n.log2 + 1) * 2 ^ (52 - n.log2) := by rw [← Nat.pow_add]; congr 1; omega
    rw [this]; exact Nat.mul_lt_mul_of_pos_right hhi (Nat.two_pow_pos _)
  generalize hK : n * 2 ^ (52 - n.log2) = K at *
  have hw : FloatKind.f64.nearest (n : Int) = (n.log2 + 1022) * 2 ^ 52 + K := by
    have hne : n ≠ 0 := by omega
    have hneg : decide ((n : Int) < 0) = false := by simp
    simp only [FloatKind.nearest, FloatKind.encode, FloatKind.format, Format.write, Format.nearest, Int.natAbs_natCast, hne, if_false, hneg]
    have hleast : double.leastPlace = -1074 := by decide
    have hfb : double.fractionBits = 52 := rfl
    have hbin : double.binade = 2 ^ 52 := rfl
    have hinf : double.infRung = 2047 * 2 ^ 52 := rfl
    simp only [hleast, hfb, hbin, hinf]
    clear hleast hfb hbin hinf
    have hlast : max ((0 : Int) + (n.log2 : Int) - ((52 : Nat) : Int)) (-1074) = (n.log2 : Int) - 52 := by omega
    rw [hlast]
    have e1 : ((0 : Int) - ((n.log2 : Int) - 52)).toNat = 52 - n.log2 := by omega
    have e2 : ((n.log2 : Int) - 52 - 0).toNat = 0 := by omega
    have e3 : ((n.log2 : Int) - 52 - (-1074)).toNat = n.log2 + 1022 := by omega
    rw [e1, e2, e3, cut_zero_drop, shl_one, hK]
    simp only [Format.word, Bool.false_eq_true, if_false]
    rw [Nat.min_eq_left]
    exact rung_le _ _ hL hk2
  rw [hw]
  simp only [FloatKind.decode, FloatKind.format, Format.read]
  have hleast : double.leastPlace = -1074 := by decide
  have hbin : double.binade = 2 ^ 52 := rfl
  have hinf : double.infRung = 2047 * 2 ^ 52 := rfl
  have hsw : double.signWeight = 2 ^ 63 := rfl
  simp only [hleast, hbin, hinf, hsw]
  clear hleast hbin hinf hsw hw
  obtain ⟨r1, r2, r3, r4, r5, r6⟩ := rung_facts n.log2 K hL hk1 hk2
  rw [r1, r2, if_neg r3, if_pos r4, r5, r6]
  simp
  omega

theorem signed_pos (m u : Nat) : signed false m u = ((m * 2 ^ u : Nat) : Int) := by simp [signed, shl_one]

theorem cmp_cast (x y : Nat) : (compare ((x : Nat) : Int) ((y : Nat) : Int)) = compare x y := by
  simp [compare, compareOfLessAndEq, Int.ofNat_inj]

theorem order_whole (n m k i : Nat) (p q : Int) (hp : p = -(k : Int)) (hq : q = -(i : Int)) :
    Datum.order (.number false (n * 2 ^ k) p) (.number false (m * 2 ^ i) q) = some (compare n m) := by
  subst hp hq
  simp only [Datum.order, signed_pos, Option.some.injEq]
  rw [cmp_cast]
  have key : ∃ c : Nat, n * 2 ^ k * 2 ^ (-(k : Int) - min (-(k : Int)) (-(i : Int))).toNat = n * 2 ^ c ∧ m * 2 ^ i * 2 ^ (-(i : Int) - min (-(k : Int)) (-(i : Int))).toNat = m * 2 ^ c := by
    refine ⟨max k i, ?_, ?_⟩
    · rw [Nat.mul_assoc, ← Nat.pow_add]; congr 2; omega
    · rw [Nat.mul_assoc, ← Nat.pow_add]; congr 2; omega
  obtain ⟨c, h1, h2⟩ := key
  rw [h1, h2]
  have hc : 0 < 2 ^ c := Nat.two_pow_pos _
  simp only [compare, compareOfLessAndEq, Nat.mul_lt_mul_right hc]
  by_cases hlt : n < m
  · simp [hlt]
  · by_cases he : n = m
    · simp [he]
    · have : n * 2 ^ c ≠ m * 2 ^ c := fun h => he (Nat.eq_of_mul_eq_mul_right hc h)
      simp [hlt, he, this]

theorem toInt_whole (n k : Nat) (h : 0 < n) : (Datum.number false (n * 2 ^ k) (-(k : Int))).toInt .zero = some (n : Int) := by
  have hl : k ≤ (n * 2 ^ k).log2 + 2 := by
    have : k ≤ (n * 2 ^ k).log2 := (Nat.le_log2 (by have := Nat.two_pow_pos k; exact Nat.ne_of_gt (Nat.mul_pos h this))).2 (by
      calc 2 ^ k = 1 * 2 ^ k := by simp
        _ ≤ n * 2 ^ k := Nat.mul_le_mul_right _ h)
    omega
  have e1 : (-(k : Int)).toNat = 0 := by omega
  have e2 : (-(-(k : Int))).toNat = k := by omega
  simp only [Datum.toInt, Datum.integral, e1, e2, Toward.cut, shl_one, Nat.one_mul, Nat.pow_zero, Nat.mul_one, Nat.min_eq_left hl]
  rw [Nat.mul_div_cancel _ (Nat.two_pow_pos k)]
  simp [signed]



theorem f64_whole (n : Nat) (h0 : n ≠ 0) (h : n < 2 ^ 53) : ∃ k : Nat, FloatKind.f64.decode (FloatKind.f64.nearest (n : Int)) = .number false (n * 2 ^ k) (-(k : Int)) := by
  obtain ⟨k, _, hk⟩ := f64_near n (by omega) h
  exact ⟨k, hk⟩

theorem f64_self (n : Nat) (h : n ≤ 2 ^ 53) : FloatKind.f64.format.order (FloatKind.f64.nearest (n : Int)) (FloatKind.f64.nearest (n : Int)) = some .eq := by
  by_cases ht : n = 2 ^ 53
  · subst ht; decide
  · by_cases hz : n = 0
    · subst hz; decide
    · obtain ⟨k, hk⟩ := f64_whole n hz (by omega)
      have hk' : FloatKind.f64.format.read (FloatKind.f64.nearest (n : Int)) = _ := hk
      simp only [Format.order, hk', order_whole n n k k _ _ rfl rfl]
      simp [compare, compareOfLessAndEq]

theorem f64_ge0 (n : Nat) (h : n ≤ 2 ^ 53) :
    (FloatKind.f64.format.order (FloatKind.f64.nearest (n : Int)) 0 == some .gt || FloatKind.f64.format.order (FloatKind.f64.nearest (n : Int)) 0 == some .eq) = true := by
  by_cases ht : n = 2 ^ 53
  · subst ht; decide
  · by_cases hz : n = 0
    · subst hz; decide
    · obtain ⟨k, hk⟩ := f64_whole n hz (by omega)
      have hk' : FloatKind.f64.format.read (FloatKind.f64.nearest (n : Int)) = _ := hk
      have h0 : FloatKind.f64.format.read 0 = .number false 0 (-1074) := by decide
      simp only [Format.order, hk', h0, Datum.order, signed_pos, cmp_cast, Nat.zero_mul]
      generalize (-(k : Int) - min (-(k : Int)) (-1074)).toNat = u
      have hp : 0 < n * 2 ^ k * 2 ^ u := Nat.mul_pos (Nat.mul_pos (by omega) (Nat.two_pow_pos k)) (Nat.two_pow_pos u)
      have h1 : ¬ n * 2 ^ k * 2 ^ u < 0 := by omega
      have h2 : ¬ n * 2 ^ k * 2 ^ u = 0 := by omega
      simp only [compare, compareOfLessAndEq, h1, h2, if_false]
      decide

theorem f64_le56 (n : Nat) (h : n ≤ 2 ^ 53) :
    (FloatKind.f64.format.order (FloatKind.f64.nearest (n : Int)) 4859383997932765184 == some .lt || FloatKind.f64.format.order (FloatKind.f64.nearest (n : Int)) 4859383997932765184 == some .eq) = true := by
  by_cases ht : n = 2 ^ 53
  · subst ht; decide
  · by_cases hz : n = 0
    · subst hz; decide
    obtain ⟨k, hk⟩ := f64_whole n hz (by omega)
    have hk' : FloatKind.f64.format.read (FloatKind.f64.nearest (n : Int)) = _ := hk
    have h0 : FloatKind.f64.format.read 4859383997932765184 = .number false (2 ^ 52) 4 := by decide
    have e1 : (-(k : Int) - min (-(k : Int)) 4).toNat = 0 := by omega
    have e2 : ((4 : Int) - min (-(k : Int)) 4).toNat = 4 + k := by omega
    simp only [Format.order, hk', h0, Datum.order, signed_pos, cmp_cast, e1, e2]
    have hlt : n * 2 ^ k * 2 ^ 0 < 2 ^ 52 * 2 ^ (4 + k) := by
      rw [Nat.pow_zero, Nat.mul_one, Nat.pow_add, ← Nat.mul_assoc]
      exact Nat.mul_lt_mul_of_pos_right (by omega) (Nat.two_pow_pos k)
    simp only [compare, compareOfLessAndEq, hlt, if_true]
    decide

theorem f64_toInt (n : Nat) (h : n ≤ 2 ^ 53) : (FloatKind.f64.decode (FloatKind.f64.nearest (n : Int))).toInt .zero = some (n : Int) := by
  by_cases ht : n = 2 ^ 53
  · subst ht; decide
  · by_cases hz : n = 0
    · subst hz; decide
    · obtain ⟨k, hk⟩ := f64_whole n hz (by omega)
      rw [hk, toInt_whole n k (by omega)]

end Go.Proofs.YtgjaopfjffncbaaGreat
/- Contracts of package sample (chapter 4), of its reference, and of the chapter's example. Each call only lays new memory. -/
namespace Go.Proofs.YtgjaopfjffncbaaGreat
open Go.ChangeShapes Go.WideShapes Go.ChangeAt Go.RowKit
set_option linter.unusedVariables false
set_option maxRecDepth 100000

/-- Is a reading right? -/
def rightB (v u : Int) : Bool := decide (0 ≤ v) && decide (v ≤ 281474976710655) && decide (1 ≤ u) && decide (u ≤ 72057594037927935)
theorem rightB_pos {v u : Int} (h : rightB v u = true) : (0 ≤ v ∧ v ≤ 281474976710655) ∧ 1 ≤ u ∧ u ≤ 72057594037927935 := by
  simpa [rightB, and_assoc] using h
/-- What is told of a reading that is right, or not: it, true; or nothing, false. -/
def ofV (v u : Int) : Value := if rightB v u then .tuple #[.agg #[.int .i64 v, .int .i64 u], .bool true] else .tuple #[.agg #[.int .i64 0, .int .i64 0], .bool false]

theorem sample_Right (v u : Int) (w : World) :
    Calls Tryz.prog 101 #[.agg #[.int .i64 v, .int .i64 u]] w fun e w' => e = .returned (.bool (rightB v u)) ∧ Below w.heap.size w w' := by
  go_enter Tryz.func101, Tryz.ntmps101
  go_wp2
  all_goals
    go_ret
    refine ⟨ret_bool ?_, (Below.refl _ _).alloc (Nat.le_refl _) _⟩
    rw [Bool.eq_iff_iff]
    simp [rightB]
    omega

attribute [local go_sem] Instr.typeAssert
theorem zvInt (w : World) : (zeroValue 3).run Tryz.prog w = .ok (.int .i64 0) w := by kernel_rfl
theorem zvPair (w : World) : (zeroValue 50).run Tryz.prog w = .ok (.agg #[.int .i64 0, .int .i64 0]) w := by kernel_rfl
theorem zvCplx (w : World) : (zeroValue 56).run Tryz.prog w = .ok (.complex .f64 0 0) w := by kernel_rfl
theorem zvRead (w : World) : (zeroValue 111).run Tryz.prog w = .ok (.agg #[.int .i64 0, .int .i64 0]) w := by kernel_rfl
attribute [local go_sem] zvInt zvPair zvCplx zvRead

/-- The facts on a float's bits by which it is the whole number n. -/
structure IsWhole (b : Nat) (n : Int) : Prop where
  ge : (FloatKind.f64.format.order b 0 == some .gt || FloatKind.f64.format.order b 0 == some .eq) = true
  le : (FloatKind.f64.format.order b 4859383997932765184 == some .lt || FloatKind.f64.format.order b 4859383997932765184 == some .eq) = true
  toInt : floatToIntVal .f64 b .i64 = some n
  eq : (FloatKind.f64.format.order (floatOfInt .f64 n) b == some .eq) = true

theorem isWhole_of (n : Nat) (h : n ≤ 9007199254740992) : IsWhole (floatOfInt .f64 (n : Int)) n := by
  have h' : n ≤ 2 ^ 53 := h
  refine ⟨f64_ge0 n h', f64_le56 n h', ?_, ?_⟩
  · unfold floatToIntVal
    show (match (FloatKind.f64.decode (FloatKind.f64.nearest (n : Int))).toInt .zero with | some n => _ | none => none) = _
    rw [f64_toInt n h']
    simp only [IntKind.min, IntKind.max, IntKind.signed, IntKind.bits]
    rw [if_pos]
    omega
  · show (FloatKind.f64.format.order (FloatKind.f64.nearest (n : Int)) (FloatKind.f64.nearest (n : Int)) == some .eq) = true
    rw [f64_self n h']
    rfl

theorem sample_part (b : Nat) (n : Int) (h : IsWhole b n) (w : World) :
    Calls Tryz.prog 149 #[.float .f64 b] w fun e w' => e = .returned (.int .i64 n) ∧ Below w.heap.size w w' := by
  have h1 := h.ge
  have h2 := h.le
  have h4 := h.eq
  have h3 := fun w : World => run_convert_float_int (P := Tryz.prog) w 49 3 .f64 .i64 b n (by kernel_rfl) Tryz.underlying3 h.toInt
  clear h
  go_enter Tryz.func149, Tryz.ntmps149
  go_wp2
  go_ret
  exact ⟨rfl, Below.refl _ _⟩

theorem read_int (n : Int) (w : World) :
    Calls Tryz.prog 100 #[.iface 3 (.int .i64 n)] w fun e w' => e = .returned (.agg #[.int .i64 n, .int .i64 1]) ∧ Below w.heap.size w w' := by
  go_enter Tryz.func100, Tryz.ntmps100
  go_wp2
  exact bodyPost_ret (v := .agg #[.int .i64 n, .int .i64 1]) (by simp only [results, Tryz.results100]; go_simp) rfl ⟨rfl, (by repeat (first | with_reducible exact Below.refl _ _ | with_reducible assumption | ((with_reducible refine Below.setCell ?_ ?_ _); rotate_left; · (first | omega | exact Nat.le_refl _ | (simp <;> omega))) | (with_reducible refine Below.allocW ?_ _) | (with_reducible refine Below.drew ?_) | (with_reducible refine Below.extW ?_ _)))⟩

theorem read_pair (n m : Int) (w : World) :
    Calls Tryz.prog 100 #[.iface 50 (.agg #[.int .i64 n, .int .i64 m])] w fun e w' => e = .returned (.agg #[.int .i64 n, .int .i64 m]) ∧ Below w.heap.size w w' := by
  go_enter Tryz.func100, Tryz.ntmps100
  go_wp2
  exact bodyPost_ret (v := .agg #[.int .i64 n, .int .i64 m]) (by simp only [results, Tryz.results100]; go_simp) rfl ⟨rfl, (by repeat (first | with_reducible exact Below.refl _ _ | with_reducible assumption | ((with_reducible refine Below.setCell ?_ ?_ _); rotate_left; · (first | omega | exact Nat.le_refl _ | (simp <;> omega))) | (with_reducible refine Below.allocW ?_ _) | (with_reducible refine Below.drew ?_) | (with_reducible refine Below.extW ?_ _)))⟩

theorem read_whole (n m : Int) (w : World) :
    Calls Tryz.prog 100 #[.iface 111 (.agg #[.int .i64 n, .int .i64 m])] w fun e w' => e = .returned (.agg #[.int .i64 n, .int .i64 m]) ∧ Below w.heap.size w w' := by
  go_enter Tryz.func100, Tryz.ntmps100
  go_wp2
  exact bodyPost_ret (v := .agg #[.int .i64 n, .int .i64 m]) (by simp only [results, Tryz.results100]; go_simp) rfl ⟨rfl, (by repeat (first | with_reducible exact Below.refl _ _ | with_reducible assumption | ((with_reducible refine Below.setCell ?_ ?_ _); rotate_left; · (first | omega | exact Nat.le_refl _ | (simp <;> omega))) | (with_reducible refine Below.allocW ?_ _) | (with_reducible refine Below.drew ?_) | (with_reducible refine Below.extW ?_ _)))⟩

theorem read_cplx (a b : Nat) (n m : Int) (ha : IsWhole a n) (hb : IsWhole b m) (w : World) :
    Calls Tryz.prog 100 #[.iface 56 (.complex .f64 a b)] w fun e w' => e = .returned (.agg #[.int .i64 n, .int .i64 m]) ∧ Below w.heap.size w w' := by
  go_enter Tryz.func100, Tryz.ntmps100
  go_wp2_with fail
  refine (sample_part a n ha _).mono ?_
  rintro e w1 ⟨rfl, hb1⟩
  have B1 : Below w.heap.size w w1 := Below.then_ (by repeat (first | with_reducible exact Below.refl _ _ | with_reducible assumption | ((with_reducible refine Below.setCell ?_ ?_ _); rotate_left; · (first | omega | exact Nat.le_refl _ | (simp <;> omega))) | (with_reducible refine Below.allocW ?_ _) | (with_reducible refine Below.drew ?_) | (with_reducible refine Below.extW ?_ _))) hb1
  have s1 : w.heap.size ≤ w1.heap.size := B1.size
  have z1_0 : w.heap.size < w1.heap.size := by have := hb1.size; (try simp at this); omega
  have y1_0 : w.heap.size ≤ w1.heap.size := Nat.le_of_lt z1_0
  have c1_0 := fun o => hb1.cell (p := ⟨w.heap.size, o, none⟩) (by first | omega | (simp <;> omega))
  have f1_0 := fun o => hb1.frozen (p := ⟨w.heap.size, o, none⟩) (by first | omega | (simp <;> omega))
  have z1_1 : w.heap.size + 1 < w1.heap.size := by have := hb1.size; (try simp at this); omega
  have y1_1 : w.heap.size + 1 ≤ w1.heap.size := Nat.le_of_lt z1_1
  have c1_1 := fun o => hb1.cell (p := ⟨w.heap.size + 1, o, none⟩) (by first | omega | (simp <;> omega))
  have f1_1 := fun o => hb1.frozen (p := ⟨w.heap.size + 1, o, none⟩) (by first | omega | (simp <;> omega))
  go_wp2_with fail
  refine (sample_part b m hb _).mono ?_
  rintro e w2 ⟨rfl, hb2⟩
  have B2 : Below w.heap.size w w2 := Below.then_ (by repeat (first | with_reducible exact Below.refl _ _ | with_reducible assumption | ((with_reducible refine Below.setCell ?_ ?_ _); rotate_left; · (first | omega | exact Nat.le_refl _ | (simp <;> omega))) | (with_reducible refine Below.allocW ?_ _) | (with_reducible refine Below.drew ?_) | (with_reducible refine Below.extW ?_ _))) hb2
  have s2 : w.heap.size ≤ w2.heap.size := B2.size
  have z2_0 : w.heap.size < w2.heap.size := by have := hb2.size; (try simp at this); omega
  have y2_0 : w.heap.size ≤ w2.heap.size := Nat.le_of_lt z2_0
  have c2_0 := fun o => hb2.cell (p := ⟨w.heap.size, o, none⟩) (by first | omega | (simp <;> omega))
  have f2_0 := fun o => hb2.frozen (p := ⟨w.heap.size, o, none⟩) (by first | omega | (simp <;> omega))
  go_wp2_with fail
  exact bodyPost_ret (v := .agg #[.int .i64 n, .int .i64 m]) (by simp only [results, Tryz.results100]; go_simp) rfl ⟨rfl, (by repeat (first | with_reducible exact Below.refl _ _ | with_reducible assumption | ((with_reducible refine Below.setCell ?_ ?_ _); rotate_left; · (first | omega | exact Nat.le_refl _ | (simp <;> omega))) | (with_reducible refine Below.allocW ?_ _) | (with_reducible refine Below.drew ?_) | (with_reducible refine Below.extW ?_ _)))⟩

theorem sample_Of (v : Value) (n m : Int)
    (hr : ∀ w : World, Calls Tryz.prog 100 #[v] w fun e w' => e = .returned (.agg #[.int .i64 n, .int .i64 m]) ∧ Below w.heap.size w w') (w : World) :
    Calls Tryz.prog 55 #[v] w fun e w' => e = .returned (ofV n m) ∧ Below w.heap.size w w' := by
  have Hr := Lib.hid hr
  clear hr
  cases hR : rightB n m
  all_goals
    go_enter Tryz.func55, Tryz.ntmps55
    go_wp2_with fail
    refine (Hr.out _).mono ?_
    rintro e w1 ⟨rfl, hb1⟩
    have B1 : Below w.heap.size w w1 := Below.then_ (by repeat (first | with_reducible exact Below.refl _ _ | with_reducible assumption | ((with_reducible refine Below.setCell ?_ ?_ _); rotate_left; · (first | omega | exact Nat.le_refl _ | (simp <;> omega))) | (with_reducible refine Below.allocW ?_ _) | (with_reducible refine Below.drew ?_) | (with_reducible refine Below.extW ?_ _))) hb1
    have s1 : w.heap.size ≤ w1.heap.size := B1.size
    have z1_0 : w.heap.size < w1.heap.size := by have := hb1.size; (try simp at this); omega
    have y1_0 : w.heap.size ≤ w1.heap.size := Nat.le_of_lt z1_0
    have c1_0 := fun o => hb1.cell (p := ⟨w.heap.size, o, none⟩) (by first | omega | (simp <;> omega))
    have f1_0 := fun o => hb1.frozen (p := ⟨w.heap.size, o, none⟩) (by first | omega | (simp <;> omega))
    go_wp2_with fail
    refine (sample_Right _ _ _).mono ?_
    rintro e w2 ⟨rfl, hb2⟩
    have B2 : Below w.heap.size w w2 := Below.then_ (by repeat (first | with_reducible exact Below.refl _ _ | with_reducible assumption | ((with_reducible refine Below.setCell ?_ ?_ _); rotate_left; · (first | omega | exact Nat.le_refl _ | (simp <;> omega))) | (with_reducible refine Below.allocW ?_ _) | (with_reducible refine Below.drew ?_) | (with_reducible refine Below.extW ?_ _))) hb2
    have s2 : w.heap.size ≤ w2.heap.size := B2.size
    have z2_0 : w.heap.size < w2.heap.size := by have := hb2.size; (try simp at this); omega
    have y2_0 : w.heap.size ≤ w2.heap.size := Nat.le_of_lt z2_0
    have c2_0 := fun o => hb2.cell (p := ⟨w.heap.size, o, none⟩) (by first | omega | (simp <;> omega))
    have f2_0 := fun o => hb2.frozen (p := ⟨w.heap.size, o, none⟩) (by first | omega | (simp <;> omega))
    have z2_1 : w1.heap.size < w2.heap.size := by have := hb2.size; (try simp at this); omega
    have y2_1 : w1.heap.size ≤ w2.heap.size := Nat.le_of_lt z2_1
    have c2_1 := fun o => hb2.cell (p := ⟨w1.heap.size, o, none⟩) (by first | omega | (simp <;> omega))
    have f2_1 := fun o => hb2.frozen (p := ⟨w1.heap.size, o, none⟩) (by first | omega | (simp <;> omega))
    go_wp2_with fail
  · exact bodyPost_ret (v := .tuple #[.agg #[.int .i64 0, .int .i64 0], .bool false]) (by simp only [results, Tryz.results55]; go_simp) rfl ⟨by simp [ofV, hR], (by repeat (first | with_reducible exact Below.refl _ _ | with_reducible assumption | ((with_reducible refine Below.setCell ?_ ?_ _); rotate_left; · (first | omega | exact Nat.le_refl _ | (simp <;> omega))) | (with_reducible refine Below.allocW ?_ _) | (with_reducible refine Below.drew ?_) | (with_reducible refine Below.extW ?_ _)))⟩
  · exact bodyPost_ret (v := .tuple #[.agg #[.int .i64 n, .int .i64 m], .bool true]) (by simp only [results, Tryz.results55]; go_simp) rfl ⟨by simp [ofV, hR], (by repeat (first | with_reducible exact Below.refl _ _ | with_reducible assumption | ((with_reducible refine Below.setCell ?_ ?_ _); rotate_left; · (first | omega | exact Nat.le_refl _ | (simp <;> omega))) | (with_reducible refine Below.allocW ?_ _) | (with_reducible refine Below.drew ?_) | (with_reducible refine Below.extW ?_ _)))⟩

theorem read_other (t : TypeId) (x : Value) (h1 : ¬ t = 3) (h2 : ¬ t = 50) (h3 : ¬ t = 56) (h4 : ¬ t = 111) (w : World) :
    Calls Tryz.prog 100 #[.iface t x] w fun e w' => e = .returned (.agg #[.int .i64 0, .int .i64 0]) ∧ Below w.heap.size w w' := by
  go_enter Tryz.func100, Tryz.ntmps100
  go_wp2
  exact bodyPost_ret (v := .agg #[.int .i64 0, .int .i64 0]) (by simp only [results, Tryz.results100]; go_simp) rfl ⟨rfl, (by repeat (first | with_reducible exact Below.refl _ _ | with_reducible assumption | ((with_reducible refine Below.setCell ?_ ?_ _); rotate_left; · (first | omega | exact Nat.le_refl _ | (simp <;> omega))) | (with_reducible refine Below.allocW ?_ _) | (with_reducible refine Below.drew ?_) | (with_reducible refine Below.extW ?_ _)))⟩

theorem read_nil (w : World) :
    Calls Tryz.prog 100 #[.nilIface] w fun e w' => e = .returned (.agg #[.int .i64 0, .int .i64 0]) ∧ Below w.heap.size w w' := by
  go_enter Tryz.func100, Tryz.ntmps100
  go_wp2
  exact bodyPost_ret (v := .agg #[.int .i64 0, .int .i64 0]) (by simp only [results, Tryz.results100]; go_simp) rfl ⟨rfl, (by repeat (first | with_reducible exact Below.refl _ _ | with_reducible assumption | ((with_reducible refine Below.setCell ?_ ?_ _); rotate_left; · (first | omega | exact Nat.le_refl _ | (simp <;> omega))) | (with_reducible refine Below.allocW ?_ _) | (with_reducible refine Below.drew ?_) | (with_reducible refine Below.extW ?_ _)))⟩

theorem Of_int (n : Int) (w : World) : Calls Tryz.prog 55 #[.iface 3 (.int .i64 n)] w fun e w' => e = .returned (ofV n 1) ∧ Below w.heap.size w w' :=
  sample_Of _ n 1 (read_int n) w
theorem Of_pair (n m : Int) (w : World) : Calls Tryz.prog 55 #[.iface 50 (.agg #[.int .i64 n, .int .i64 m])] w fun e w' => e = .returned (ofV n m) ∧ Below w.heap.size w w' :=
  sample_Of _ n m (read_pair n m) w
theorem Of_whole (n m : Int) (w : World) : Calls Tryz.prog 55 #[.iface 111 (.agg #[.int .i64 n, .int .i64 m])] w fun e w' => e = .returned (ofV n m) ∧ Below w.heap.size w w' :=
  sample_Of _ n m (read_whole n m) w
theorem Of_cplx (a b : Nat) (n m : Int) (ha : IsWhole a n) (hb : IsWhole b m) (w : World) : Calls Tryz.prog 55 #[.iface 56 (.complex .f64 a b)] w fun e w' => e = .returned (ofV n m) ∧ Below w.heap.size w w' :=
  sample_Of _ n m (read_cplx a b n m ha hb) w
theorem ofV_zero : ofV 0 0 = .tuple #[.agg #[.int .i64 0, .int .i64 0], .bool false] := rfl
theorem Of_other (t : TypeId) (x : Value) (h1 : ¬ t = 3) (h2 : ¬ t = 50) (h3 : ¬ t = 56) (h4 : ¬ t = 111) (w : World) :
    Calls Tryz.prog 55 #[.iface t x] w fun e w' => e = .returned (.tuple #[.agg #[.int .i64 0, .int .i64 0], .bool false]) ∧ Below w.heap.size w w' :=
  sample_Of _ 0 0 (read_other t x h1 h2 h3 h4) w
theorem Of_nil (w : World) : Calls Tryz.prog 55 #[.nilIface] w fun e w' => e = .returned (.tuple #[.agg #[.int .i64 0, .int .i64 0], .bool false]) ∧ Below w.heap.size w w' :=
  sample_Of _ 0 0 read_nil w

theorem whole5 : IsWhole 4617315517961601024 5 := by
  have h := isWhole_of 5 (by omega)
  have e : floatOfInt .f64 ((5 : Nat) : Int) = 4617315517961601024 := by decide
  rwa [e] at h
theorem whole3 : IsWhole 4613937818241073152 3 := by
  have h := isWhole_of 3 (by omega)
  have e : floatOfInt .f64 ((3 : Nat) : Int) = 4613937818241073152 := by decide
  rwa [e] at h
theorem ofV_51 : ofV 5 1 = .tuple #[.agg #[.int .i64 5, .int .i64 1], .bool true] := rfl
theorem ofV_53 : ofV 5 3 = .tuple #[.agg #[.int .i64 5, .int .i64 3], .bool true] := rfl

def packV (v u : Int) : Value := if rightB v u = true ∧ u ≤ 9007199254740992 then .tuple #[.complex .f64 (floatOfInt .f64 v) (floatOfInt .f64 u), .bool true] else .tuple #[.complex .f64 0 0, .bool false]
def pack4V (v u : Int) : Value := if rightB v u = true ∧ u ≤ 9007199254740992 then .tuple #[.agg #[.float .f64 (floatOfInt .f64 v), .float .f64 (floatOfInt .f64 u)], .bool true] else .tuple #[.agg #[.float .f64 0, .float .f64 0], .bool false]

theorem open_Reading {H : Type} {enc : TypeId × Value → H} {w : World} {base : Nat} {spare : Nat → Bool} {held : Bool} {r : Reach} {b0 : Nat} {v : Value} {d : DataW H} {p : List MemPlace}
    (hv : Value.okWide Tryz.prog w r b0 111 v) (h : DataW.Trod enc Tryz.prog w base spare held 111 v d p) :
    ∃ x u, v = .agg #[.int .i64 x, .int .i64 u] ∧ (Lit.int .i64 x).wf = true ∧ (Lit.int .i64 u).wf = true := by
  obtain ⟨c0, c1, y0, y1, n, rfl, _, _, hy0, hy1⟩ := Joins.open_agg2 Tryz.underlying111 (by kernel_rfl) (by kernel_rfl) hv h
  obtain ⟨a, e0, _, wa⟩ := DataW.trod_int Tryz.underlying3 hy0
  obtain ⟨b, e1, _, wb⟩ := DataW.trod_int Tryz.underlying3 hy1
  simp at e0 e1
  subst e0 e1
  exact ⟨a, b, rfl, wa, wb⟩

/-- A float64 becomes a float32, with a draw or without. -/
theorem conv_f32 (P : Program) (f : Nat) : (∃ A, ∀ w, (Conv.floatToFloat .f64 f .f32).run P w = .ok (.float .f32 A) w) ∨ (∃ A : World → Nat, ∀ w, (Conv.floatToFloat .f64 f .f32).run P w = .ok (.float .f32 (A w)) w.drew) := by
  have hne : (FloatKind.f64 = FloatKind.f32) = False := by simp
  unfold Conv.floatToFloat
  simp only [hne, if_false]
  cases FloatKind.f64.decode f with
  | nan a b => right; exact ⟨_, fun w => rfl⟩
  | infinity s => left; exact ⟨_, fun w => rfl⟩
  | number s m e =>
    simp only
    split
    · right; exact ⟨_, fun w => rfl⟩
    · left; exact ⟨_, fun w => rfl⟩

/-- A thing that comes as no reading. -/
def Strange (v : Value) : Prop := v = .nilIface ∨ ∃ t x, v = .iface t x ∧ ¬ t = 3 ∧ ¬ t = 50 ∧ ¬ t = 56 ∧ ¬ t = 111
theorem Of_strange (v : Value) (h : Strange v) (w : World) :
    Calls Tryz.prog 55 #[v] w fun e w' => e = .returned (.tuple #[.agg #[.int .i64 0, .int .i64 0], .bool false]) ∧ Below w.heap.size w w' := by
  rcases h with rfl | ⟨t, x, rfl, h1, h2, h3, h4⟩
  · exact Of_nil w
  · exact Of_other t x h1 h2 h3 h4 w
theorem strange_cells (W0 W : World) (L : List Value) (t : TypeId) (b : Nat) (hb : b = W0.heap.size) (hW : W.heap = (W0.alloc (.cells L.toArray t)).heap) (h : ∀ v ∈ L, Strange v) (k : Nat) (hk : k < L.length) :
    ∃ v, W.cell? ⟨b, k, none⟩ = some v ∧ Strange v := by
  refine ⟨L[k], ?_, h _ (List.getElem_mem hk)⟩
  subst hb
  rw [cell_of_row _ _ _ _ _ (0, 0) (by rw [hW]; exact heap_alloc_new W0 _)]
  simp [hk]
theorem strange_of (t : TypeId) (x : Value) (h : (decide (t = 3) || decide (t = 50) || decide (t = 56) || decide (t = 111)) = false) : Strange (.iface t x) := by
  simp at h
  exact .inr ⟨t, x, rfl, h.1.1.1, h.1.1.2, h.1.2, h.2⟩
end Go.Proofs.YtgjaopfjffncbaaGreat
/- Package sensor: Take; two sensors that lie apart. -/
namespace Go.Proofs.YtgjaopfjffncbaaGreat
open Go.ChangeShapes Go.WideShapes Go.ChangeAt Go.RowKit
set_option linter.unusedVariables false
set_option linter.unusedSimpArgs false
set_option maxRecDepth 100000

/-- What a thing is taken as. -/
def OfIs (v : Value) (x c : Int) (ok : Bool) : Prop := ∀ W, Calls Tryz.prog 55 #[v] W fun e w' => e = .returned (.tuple #[.agg #[.int .i64 x, .int .i64 c], .bool ok]) ∧ Below W.heap.size W w'
set_option maxHeartbeats 1000000 in
theorem sensor_Take_no (w : World) (g : Nat) (v : Value) (x c : Int) (hv : OfIs v x c false) :
    Calls Tryz.prog 14 #[.pointer (some ⟨g, 0, none⟩), v] w fun e w' => e = .returned (.int .i64 10) ∧ Below w.heap.size w w' := by
  have HV := Lib.hid hv
  clear hv
  go_enter Tryz.func14, Tryz.ntmps14
  go_wp2_with fail
  refine (HV.out _).mono ?_
  rintro e w1 ⟨rfl, hb⟩
  have B1 := Lib.hid hb
  clear hb
  go_wp2_with fail
  have B1 := B1.out
  exact bodyPost_ret (v := .int .i64 10) (by simp only [results, Tryz.results14]; go_simp) rfl ⟨rfl, (by repeat (first | with_reducible exact Below.refl _ _ | with_reducible assumption | ((with_reducible refine Below.setCell ?_ ?_ _); rotate_left; · (first | omega | exact Nat.le_refl _ | (simp <;> omega))) | (with_reducible refine Below.allocW ?_ _) | (with_reducible refine Below.drew ?_) | (with_reducible refine Below.extW ?_ _)))⟩
set_option maxHeartbeats 1000000 in
theorem sensor_Take (w : World) (g K l : Nat) (s : Sen) (r : List Nd) (F : Nat → Prop) (h : SensAt w g K l s r F) (hn : r.length ≤ 67108864) (v : Value) (x c : Int) (hv : OfIs v x c true) :
    Calls Tryz.prog 14 #[.pointer (some ⟨g, 0, none⟩), v] w (SPutPost g K l s r F x c w) := by
  have HV := Lib.hid hv
  have HS := Lib.hid h
  clear hv h
  go_enter Tryz.func14, Tryz.ntmps14
  go_wp2_with fail
  refine (HV.out _).mono ?_
  rintro e w1 ⟨rfl, hb⟩
  have B1 := Lib.hid hb
  have X2 := Lib.hid (heap_alloc_new w1 (.cells #[.int .i64 x, .int .i64 c] 111))
  have B2 : Hid (Below w.heap.size w (w1.alloc (.cells #[.int .i64 x, .int .i64 c] 111))) := Lib.hid (by
    have B1 := B1.out
    exact (by repeat (first | with_reducible exact Below.refl _ _ | with_reducible assumption | ((with_reducible refine Below.setCell ?_ ?_ _); rotate_left; · (first | omega | exact Nat.le_refl _ | (simp <;> omega))) | (with_reducible refine Below.allocW ?_ _) | (with_reducible refine Below.drew ?_) | (with_reducible refine Below.extW ?_ _))))
  clear hb B1
  go_upto_region 6 with fail
  generalize w1.alloc (.cells #[.int .i64 x, .int .i64 c] 111) = w2 at X2 B2 ⊢
  have c2 := blk_cell X2.out
  have z2 := lt_of_block X2.out
  go_wp2_with fail
  refine (sensor_Put w2 g K l s r F (HS.out.below B2.out) hn x c).mono ?_
  rintro e w3 ⟨r', rfl, hp, ht⟩
  have HF := Lib.hid (SPutPost.of hp (ht.from_ B2.out))
  clear hp ht
  generalize putErr l s r x c = n at HF ⊢
  go_wp2_with fail
  exact bodyPost_ret (v := .int .i64 n) (by simp only [results, Tryz.results14]; go_simp) rfl HF.out
/-- Two sensors of the call's own. -/
structure TwoF (w : World) (ga gb K l : Nat) (sa sb : Sen) (ra rb : List Nd) (Fa Fb : Nat → Prop) (W : World) : Prop where
  a : SensAt W ga K l sa ra Fa
  b : SensAt W gb K l sb rb Fb
  ap : ∀ q, Fa q → ¬ Fb q
  fa : ∀ q, Fa q → w.heap.size ≤ q
  fb : ∀ q, Fb q → w.heap.size ≤ q
  le : Below w.heap.size w W
def TwoIn (w : World) (ga gb K l : Nat) (sa sb : Sen) (ra rb : List Nd) (W : World) : Prop := ∃ Fa Fb, TwoF w ga gb K l sa sb ra rb Fa Fb W
section
variable {w W W' : World} {ga gb K l : Nat} {sa sb sa' sb' : Sen} {ra rb r' : List Nd} {Fa Fb : Nat → Prop}
theorem TwoF.toA (h : TwoF w ga gb K l sa sb ra rb Fa Fb W) (ht : SensTo W ga K l sa' r' Fa W') : TwoIn w ga gb K l sa' sb r' rb W' := by
  obtain ⟨F', k1, k2, k3⟩ := ht
  have lb := h.b.lt
  refine ⟨F', Fb, k1, h.b.keep fun q hq => k2.block q (lb q hq) fun hf => h.ap q hf hq, fun q hq hf => ?_, fun q hq => ?_, h.fb, h.le.trans (k2.below h.fa h.le.size)⟩
  · rcases k3 q hq with hq | hq
    · exact h.ap q hq hf
    · have := lb q hf; omega
  · rcases k3 q hq with hq | hq
    · exact h.fa q hq
    · exact Nat.le_trans h.le.size hq
theorem TwoF.swap (h : TwoF w ga gb K l sa sb ra rb Fa Fb W) : TwoF w gb ga K l sb sa rb ra Fb Fa W := ⟨h.b, h.a, fun q hb ha => h.ap q ha hb, h.fb, h.fa, h.le⟩
theorem TwoIn.swap (h : TwoIn w ga gb K l sa sb ra rb W) : TwoIn w gb ga K l sb sa rb ra W := by
  obtain ⟨Fa, Fb, h⟩ := h
  exact ⟨Fb, Fa, h.swap⟩
theorem TwoF.below (h : TwoF w ga gb K l sa sb ra rb Fa Fb W) (hb : Below W.heap.size W W') : TwoF w ga gb K l sa sb ra rb Fa Fb W' := ⟨h.a.below hb, h.b.below hb, h.ap, h.fa, h.fb, Below.then_ h.le hb⟩
theorem TwoIn.below (h : TwoIn w ga gb K l sa sb ra rb W) (hb : Below W.heap.size W W') : TwoIn w ga gb K l sa sb ra rb W' := by
  obtain ⟨Fa, Fb, h⟩ := h
  exact ⟨Fa, Fb, h.below hb⟩
theorem TwoIn.le (h : TwoIn w ga gb K l sa sb ra rb W) : Below w.heap.size w W := by
  obtain ⟨Fa, Fb, h⟩ := h
  exact h.le
theorem TwoIn.fitsA (h : TwoIn w ga gb K l sa sb ra rb W) : Fits l ra := by
  obtain ⟨Fa, Fb, h⟩ := h
  obtain ⟨dg, F0, _, _, _, _, h, _⟩ := h.a
  exact h.fits
theorem TwoIn.putA (h : TwoIn w ga gb K l sa sb ra rb W) (hn : ra.length ≤ 67108864) (x c : Int) : Calls Tryz.prog 15 #[.pointer (some ⟨ga, 0, none⟩), .int .i64 x, .int .i64 c] W fun e W' => ∃ r', e = .returned (.int .i64 (putErr l sa ra x c)) ∧ PutTo l sa ra x c r' ∧ TwoIn w ga gb K l sa sb r' rb W' := by
  obtain ⟨Fa, Fb, h⟩ := h
  refine (sensor_Put W ga K l sa ra Fa h.a hn x c).mono ?_
  rintro e W' ⟨r', he, hp, ht⟩
  exact ⟨r', he, hp, h.toA ht⟩
theorem TwoIn.putB (h : TwoIn w ga gb K l sa sb ra rb W) (hn : rb.length ≤ 67108864) (x c : Int) : Calls Tryz.prog 15 #[.pointer (some ⟨gb, 0, none⟩), .int .i64 x, .int .i64 c] W fun e W' => ∃ r', e = .returned (.int .i64 (putErr l sb rb x c)) ∧ PutTo l sb rb x c r' ∧ TwoIn w ga gb K l sa sb ra r' W' := by
  refine (h.swap.putA hn x c).mono ?_
  rintro e W' ⟨r', he, hp, ht⟩
  exact ⟨r', he, hp, ht.swap⟩
theorem TwoIn.takeA (h : TwoIn w ga gb K l sa sb ra rb W) (hn : ra.length ≤ 67108864) (v : Value) (x c : Int) (hv : OfIs v x c true) : Calls Tryz.prog 14 #[.pointer (some ⟨ga, 0, none⟩), v] W fun e W' => ∃ r', e = .returned (.int .i64 (putErr l sa ra x c)) ∧ PutTo l sa ra x c r' ∧ TwoIn w ga gb K l sa sb r' rb W' := by
  obtain ⟨Fa, Fb, h⟩ := h
  refine (sensor_Take W ga K l sa ra Fa h.a hn v x c hv).mono ?_
  rintro e W' ⟨r', he, hp, ht⟩
  exact ⟨r', he, hp, h.toA ht⟩
theorem TwoIn.digA (h : TwoIn w ga gb K l sa sb ra rb W) : Calls Tryz.prog 17 #[.pointer (some ⟨ga, 0, none⟩)] W (DigestPost K l sa.k ra W) := by
  obtain ⟨Fa, Fb, h⟩ := h
  exact sensor_Digest W ga K l sa ra Fa h.a
theorem TwoIn.digB (h : TwoIn w ga gb K l sa sb ra rb W) : Calls Tryz.prog 17 #[.pointer (some ⟨gb, 0, none⟩)] W (DigestPost K l sb.k rb W) := h.swap.digA
theorem TwoIn.of (h : SensIn w ga K l sa ra W) (h2 : SensIn W gb K l sb rb W') : TwoIn w ga gb K l sa sb ra rb W' := by
  obtain ⟨Fa, a1, a2, a3⟩ := h
  obtain ⟨Fb, b1, b2, b3⟩ := h2
  exact ⟨Fa, Fb, a1.below b3, b1, fun q ha hb => by have := a1.lt q ha; have := b2 q hb; omega, a2, fun q hq => Nat.le_trans a3.size (b2 q hq), Below.then_ a3 b3⟩
/-- Beside a block that is neither's. -/
def TwoX (w : World) (ga gb K l : Nat) (sa sb : Sen) (ra rb : List Nd) (q : Nat) (o : Obj) (W : World) : Prop := ∃ Fa Fb, TwoF w ga gb K l sa sb ra rb Fa Fb W ∧ W.heap[q]? = some o ∧ ¬ Fa q ∧ ¬ Fb q
theorem TwoX.of {W1 W2 : World} {q : Nat} {o : Obj} (h : SensIn w ga K l sa ra W1) (hb : Below W1.heap.size W1 W2) (hq : W1.heap.size ≤ q) (hq2 : W2.heap[q]? = some o) (h2 : SensIn W2 gb K l sb rb W') : TwoX w ga gb K l sa sb ra rb q o W' := by
  obtain ⟨Fa, a1, a2, a3⟩ := h
  obtain ⟨Fb, b1, b2, b3⟩ := h2
  have hs := hb.size
  have hql := lt_of_block hq2
  exact ⟨Fa, Fb, ⟨(a1.below hb).below b3, b1, fun z ha hb => by have := a1.lt z ha; have := b2 z hb; omega, a2, fun z hz => Nat.le_trans a3.size (Nat.le_trans hs (b2 z hz)), Below.then_ (Below.then_ a3 hb) b3⟩, blk_below hq2 b3, fun ha => by have := a1.lt q ha; omega, fun hb => by have := b2 q hb; omega⟩
theorem TwoX.below {q : Nat} {o : Obj} (h : TwoX w ga gb K l sa sb ra rb q o W) (hb : Below W.heap.size W W') : TwoX w ga gb K l sa sb ra rb q o W' := by
  obtain ⟨Fa, Fb, h, h2, h3, h4⟩ := h
  exact ⟨Fa, Fb, h.below hb, blk_below h2 hb, h3, h4⟩
theorem TwoX.two {q : Nat} {o : Obj} (h : TwoX w ga gb K l sa sb ra rb q o W) : TwoIn w ga gb K l sa sb ra rb W := by
  obtain ⟨Fa, Fb, h, _⟩ := h
  exact ⟨Fa, Fb, h⟩
theorem TwoX.blk {q : Nat} {o : Obj} (h : TwoX w ga gb K l sa sb ra rb q o W) : W.heap[q]? = some o := by
  obtain ⟨Fa, Fb, _, h, _⟩ := h
  exact h
theorem TwoX.putB {q : Nat} {o : Obj} (h : TwoX w ga gb K l sa sb ra rb q o W) (hn : rb.length ≤ 67108864) (x c : Int) : Calls Tryz.prog 15 #[.pointer (some ⟨gb, 0, none⟩), .int .i64 x, .int .i64 c] W fun e W' => e = .returned (.int .i64 (putErr l sb rb x c)) ∧ ∃ r', TwoX w ga gb K l sa sb ra r' q o W' := by
  obtain ⟨Fa, Fb, h, h2, h3, h4⟩ := h
  refine (sensor_Put W gb K l sb rb Fb h.b hn x c).mono ?_
  rintro e W' ⟨r', he, hp, F', k1, k2, k3⟩
  have la := h.a.lt
  refine ⟨he, r', Fa, F', ⟨h.a.keep fun z hz => k2.block z (la z hz) fun hf => h.ap z hz hf, k1, fun z ha hb => ?_, h.fa, fun z hz => ?_, h.le.trans (k2.below h.fb h.le.size)⟩, k2.keep h2 h4, h3, fun hf => ?_⟩
  · rcases k3 z hb with hz | hz
    · exact h.ap z ha hz
    · have := la z ha; omega
  · rcases k3 z hz with hz | hz
    · exact h.fb z hz
    · exact Nat.le_trans h.le.size hz
  · rcases k3 q hf with hz | hz
    · exact h4 hz
    · have := lt_of_block h2; omega
theorem TwoX.likeA {q : Nat} {o : Obj} (h : TwoX w ga gb K l sa sb ra rb q o W) (A : Option Addr) (c : Nat) (hS : Sl W W.heap.size encN A ra) (ho : SenOk sa) (hn : ra.length ≤ 67108864) :
    Calls Tryz.prog 11 #[.pointer (some ⟨ga, 0, none⟩), refV sa A ra.length c] W fun e w' => e = .returned (.bool true) ∧ Below W.heap.size W w' := by
  obtain ⟨Fa, Fb, h, _⟩ := h
  exact law31_like W ga K l sa ra Fa A c h.a hS ho hn
theorem PutTo.unique {s s' : Sen} {x c : Int} {ra rb ra' rb' : List Nd} (h1 : PutTo l s ra x c ra') (h2 : PutTo l s' rb x c rb') (hs : s'.sent = s.sent) (hk : s'.k = s.k) (hr : rb = ra) : rb' = ra' := by
  subst hr
  rcases h1 with ⟨a1, rfl⟩ | ⟨a1, a2⟩
  · rcases h2 with ⟨_, rfl⟩ | ⟨b1, _⟩
    · rfl
    · rw [hs, a1] at b1; cases b1
  · rcases h2 with ⟨b1, rfl⟩ | ⟨b1, b2⟩
    · rw [hs, a1] at b1; cases b1
    · rw [hk] at b2
      rcases a2 with ⟨e1, rfl⟩ | ⟨e1, s1, p1, rfl⟩
      · rcases b2 with ⟨_, rfl⟩ | ⟨f1, _⟩
        · rfl
        · exact absurd f1 e1
      · rcases b2 with ⟨f1, _⟩ | ⟨f1, s2, p2, rfl⟩
        · exact absurd e1 f1
        · have : s2 = s1 := by
            rcases p1 with ⟨q1, q2, ps, q3⟩ | ⟨q1, rfl⟩
            · rcases p2 with ⟨_, _, ps2, t3⟩ | ⟨t1, _⟩
              · exact (t3.unique q3).2
              · exact absurd ⟨q1, q2⟩ t1
            · rcases p2 with ⟨t1, t2, _⟩ | ⟨_, rfl⟩
              · exact absurd ⟨t1, t2⟩ q1
              · rfl
          rw [this]
theorem OfIs.no {v : Value} (h : Strange v) : OfIs v 0 0 false := fun W => Of_strange v h W
theorem OfIs.pair (x c : Int) (h : rightB x c = true) : OfIs (.iface 50 (.agg #[.int .i64 x, .int .i64 c])) x c true := fun W => by
  have := Of_pair x c W
  unfold ofV at this
  rwa [if_pos h] at this
theorem OfIs.pair_no (x c : Int) (h : rightB x c = false) : OfIs (.iface 50 (.agg #[.int .i64 x, .int .i64 c])) 0 0 false := fun W => by
  have := Of_pair x c W
  unfold ofV at this
  rwa [if_neg (by rw [h]; simp)] at this
theorem OfIs.int (x : Int) (h : rightB x 1 = true) : OfIs (.iface 3 (.int .i64 x)) x 1 true := fun W => by
  have := Of_int x W
  unfold ofV at this
  rwa [if_pos h] at this
theorem OfIs.cplx (a b : Nat) (x c : Int) (ha : IsWhole a x) (hb : IsWhole b c) (h : rightB x c = true) : OfIs (.iface 56 (.complex .f64 a b)) x c true := fun W => by
  have := Of_cplx a b x c ha hb W
  unfold ofV at this
  rwa [if_pos h] at this
end
end Go.Proofs.YtgjaopfjffncbaaGreat
/- The law SensorTakes's walk. -/
namespace Go.Proofs.YtgjaopfjffncbaaGreat
open Go.ChangeShapes Go.WideShapes Go.ChangeAt Go.RowKit
set_option linter.unusedVariables false
set_option linter.unusedSimpArgs false
set_option maxRecDepth 100000

theorem ins_bad {l : Nat} {x c : Int} (hl : l ≤ 48) (h : rightB x c = false) : insErr l [] x c ≠ 0 := by
  have hp := pow_48 hl
  intro h0
  obtain ⟨v, c1, c2⟩ := ins_ok h0
  obtain ⟨v0, v1⟩ := isVal_iff.1 v
  simp only [sumR] at c2
  have : rightB x c = true := by
    simp only [rightB, Bool.and_eq_true, decide_eq_true_eq]
    omega
  rw [this] at h
  cases h
theorem strange_str (t : ByteArray) : Strange (.iface 9 (.string t)) := strange_of _ _ (by kernel_rfl)
theorem strange_f64 (f : Nat) : Strange (.iface 49 (.float .f64 f)) := strange_of _ _ (by kernel_rfl)
theorem strange_nil : Strange .nilIface := .inl rfl
set_option maxHeartbeats 8000000 in
theorem takes_no (a b : Nat) (k me wait ep : Int) (kids : Nat) (x c : Int) (text : ByteArray) (w : World) (hkids : kids < 2 ^ 64) (hx : i64 x) (hc : i64 c) (hg : ((b : Int) == 1) = false ∨ (((b : Int) == 1) = true ∧ decide (10 < (a : Int)) = false)) (hz : newS a k b ⟨me, kids, wait⟩ ep = true) (hr : rightB x c = false) (hgd : decide (x < 0) = true ∨ (decide (x < 0) = false ∧ (decide (281474976710656 ≤ x) = true ∨ (decide (281474976710656 ≤ x) = false ∧ (decide (c < 1) = true ∨ (decide (c < 1) = false ∧ decide (72057594037927935 < c) = true)))))) :
    Calls Tryz.prog 4 #[placeV a k b me wait ep kids, .int .i64 x, .int .i64 c, .string text] w fun e w' => e = .returned (.bool true) ∧ Below w.heap.size w w' := by
  have hl48 : a ≤ 48 := by
    have h := hz
    simp only [newS, isDig, isPool, Bool.and_eq_true, decide_eq_true_eq] at h
    omega
  have HOk := Lib.hid (SenOk.new hz)
  have HM : Hid (∀ W, Calls Tryz.prog 13 #[.agg #[.int .i64 a, .int .i64 k, .int .i64 b, .int .i64 me, .int .i64 wait, .int .i64 ep, .int .u64 kids]] W fun e W' => ∃ g, e = .returned (.tuple #[.pointer (some ⟨g, 0, none⟩), .agg #[.int .i64 (senNew a k b ⟨me, kids, wait⟩ ep).l, .int .i64 (senNew a k b ⟨me, kids, wait⟩ ep).k, .int .i64 (senNew a k b ⟨me, kids, wait⟩ ep).kd, .int .i64 (senNew a k b ⟨me, kids, wait⟩ ep).p.me, .int .i64 (senNew a k b ⟨me, kids, wait⟩ ep).p.wait, .int .u64 (senNew a k b ⟨me, kids, wait⟩ ep).p.kids, .int .i64 (senNew a k b ⟨me, kids, wait⟩ ep).ep, .int .i64 (senNew a k b ⟨me, kids, wait⟩ ep).ti, .int .u64 (senNew a k b ⟨me, kids, wait⟩ ep).heard, .int .u64 (senNew a k b ⟨me, kids, wait⟩ ep).cover, .bool (senNew a k b ⟨me, kids, wait⟩ ep).sent, .int .i64 (senNew a k b ⟨me, kids, wait⟩ ep).k, .int .i64 (senNew a k b ⟨me, kids, wait⟩ ep).l, .slice none 0 0]]) ∧ SensIn W g b a (senNew a k b ⟨me, kids, wait⟩ ep) [] W') := Lib.hid fun W => law31_made W a b k me wait ep kids hkids hz
  have hsent : (senNew a k b ⟨me, kids, wait⟩ ep).sent = false := rfl
  generalize senNew a k b ⟨me, kids, wait⟩ ep = sn at HM HOk hsent
  have HSent := Lib.hid hsent
  have X0 : Hid ((w.alloc (.cells #[.int .i64 a, .int .i64 k, .int .i64 b, .int .i64 me, .int .i64 wait, .int .i64 ep, .int .u64 kids] 26)).heap[w.heap.size]? = some (.cells #[.int .i64 a, .int .i64 k, .int .i64 b, .int .i64 me, .int .i64 wait, .int .i64 ep, .int .u64 kids] 26 (0, 0))) := Lib.hid (heap_alloc_new w _)
  have B0 : Hid (Below w.heap.size w (w.alloc (.cells #[.int .i64 a, .int .i64 k, .int .i64 b, .int .i64 me, .int .i64 wait, .int .i64 ep, .int .u64 kids] 26))) := Lib.hid (by repeat (first | with_reducible exact Below.refl _ _ | with_reducible assumption | ((with_reducible refine Below.setCell ?_ ?_ _); rotate_left; · (first | omega | exact Nat.le_refl _ | (simp <;> omega))) | (with_reducible refine Below.allocW ?_ _) | (with_reducible refine Below.drew ?_) | (with_reducible refine Below.extW ?_ _)))
  have HA := Lib.hid alive31
  unfold placeV
  clear hz hsent hkids
  go_enter Tryz.func4, Tryz.ntmps4
  rcases hg with hg | ⟨hg, hg2⟩
  all_goals
    go_upto_region 3 with fail
    generalize w.alloc (.cells #[.int .i64 a, .int .i64 k, .int .i64 b, .int .i64 me, .int .i64 wait, .int .i64 ep, .int .u64 kids] 26) = W0 at X0 B0 ⊢
    have c0 := blk_cell X0.out
    have z0 := lt_of_block X0.out
    go_wp2_with fail
    refine (HM.out W0).mono ?_
    rintro e w1 ⟨ga, rfl, hs⟩
    have S1 := Lib.hid hs
    have X1 : Hid (w1.heap[w.heap.size]? = some (.cells #[.int .i64 a, .int .i64 k, .int .i64 b, .int .i64 me, .int .i64 wait, .int .i64 ep, .int .u64 kids] 26 (0, 0))) := Lib.hid (blk_below X0.out hs.le)
    have X2 := Lib.hid (X1.out |> fun h => (heap_new_lt w1 (.cells #[.int .i64 sn.l, .int .i64 sn.k, .int .i64 sn.kd, .int .i64 sn.p.me, .int .i64 sn.p.wait, .int .u64 sn.p.kids, .int .i64 sn.ep, .int .i64 sn.ti, .int .u64 sn.heard, .int .u64 sn.cover, .bool sn.sent, .int .i64 sn.k, .int .i64 sn.l, .slice none 0 0] 43) _ (lt_of_block h)).trans h)
    have Y2 := Lib.hid (heap_alloc_new w1 (.cells #[.int .i64 sn.l, .int .i64 sn.k, .int .i64 sn.kd, .int .i64 sn.p.me, .int .i64 sn.p.wait, .int .u64 sn.p.kids, .int .i64 sn.ep, .int .i64 sn.ti, .int .u64 sn.heard, .int .u64 sn.cover, .bool sn.sent, .int .i64 sn.k, .int .i64 sn.l, .slice none 0 0] 43))
    have A2 : Hid (Below w1.heap.size w1 (w1.alloc (.cells #[.int .i64 sn.l, .int .i64 sn.k, .int .i64 sn.kd, .int .i64 sn.p.me, .int .i64 sn.p.wait, .int .u64 sn.p.kids, .int .i64 sn.ep, .int .i64 sn.ti, .int .u64 sn.heard, .int .u64 sn.cover, .bool sn.sent, .int .i64 sn.k, .int .i64 sn.l, .slice none 0 0] 43))) := Lib.hid (by repeat (first | with_reducible exact Below.refl _ _ | with_reducible assumption | ((with_reducible refine Below.setCell ?_ ?_ _); rotate_left; · (first | omega | exact Nat.le_refl _ | (simp <;> omega))) | (with_reducible refine Below.allocW ?_ _) | (with_reducible refine Below.drew ?_) | (with_reducible refine Below.extW ?_ _)))
    clear hs c0 z0 X1
    go_upto_region 4 with fail
    generalize hw2 : w1.alloc (.cells #[.int .i64 sn.l, .int .i64 sn.k, .int .i64 sn.kd, .int .i64 sn.p.me, .int .i64 sn.p.wait, .int .u64 sn.p.kids, .int .i64 sn.ep, .int .i64 sn.ti, .int .u64 sn.heard, .int .u64 sn.cover, .bool sn.sent, .int .i64 sn.k, .int .i64 sn.l, .slice none 0 0] 43) = w2 at A2 X2 Y2 ⊢
    clear hw2
    have c2 := blk_cell X2.out
    have z2 := lt_of_block X2.out
    go_wp2_with fail
    refine (HM.out w2).mono ?_
    rintro e w3 ⟨gb, rfl, hs⟩
    have T3 := TwoX.of S1.out A2.out (Nat.le_refl _) Y2.out hs
    have T4 := Lib.hid (T3.below (W' := w3.alloc (.cells #[.int .i64 sn.l, .int .i64 sn.k, .int .i64 sn.kd, .int .i64 sn.p.me, .int .i64 sn.p.wait, .int .u64 sn.p.kids, .int .i64 sn.ep, .int .i64 sn.ti, .int .u64 sn.heard, .int .u64 sn.cover, .bool sn.sent, .int .i64 sn.k, .int .i64 sn.l, .slice none 0 0] 43)) ((Below.refl _ _).alloc (Nat.le_refl _) _))
    clear hs c2 z2 S1 X2 Y2 T3 A2
    go_upto_region 5 with fail
    generalize hw4 : w3.alloc (.cells #[.int .i64 sn.l, .int .i64 sn.k, .int .i64 sn.kd, .int .i64 sn.p.me, .int .i64 sn.p.wait, .int .u64 sn.p.kids, .int .i64 sn.ep, .int .i64 sn.ti, .int .u64 sn.heard, .int .u64 sn.cover, .bool sn.sent, .int .i64 sn.k, .int .i64 sn.l, .slice none 0 0] 43) = w4 at T4 ⊢
    clear hw4
    have HS := Lib.hid (fun W => sensor_Take_no W ga (.iface 9 (.string text)) 0 0 (.no (strange_str text)))
    have HNl := Lib.hid (fun W => sensor_Take_no W ga .nilIface 0 0 (.no strange_nil))
    have HFl := Lib.hid (fun W => sensor_Take_no W ga (.iface 49 (.float .f64 4609434218613702656)) 0 0 (.no (strange_f64 _)))
    have HP := Lib.hid (fun W => sensor_Take_no W ga (.iface 50 (.agg #[.int .i64 x, .int .i64 c])) 0 0 (.pair_no x c hr))
    have HBad := Lib.hid (show putErr a sn [] x c ≠ 0 by unfold putErr; rw [if_neg (by rw [HSent.out]; simp)]; exact ins_bad hl48 hr)
    have HGd := Lib.hid hgd
    clear hgd hr hl48
    go_wp2_with fail
    refine (HS.out _).mono ?_
    rintro e w5 ⟨rfl, hb⟩
    have T5 := Lib.hid (T4.out.below hb)
    clear hb T4
    go_wp2_with fail
    refine (HNl.out _).mono ?_
    rintro e w6 ⟨rfl, hb⟩
    have T6 := Lib.hid (T5.out.below hb)
    clear hb T5
    go_wp2_with fail
    refine (HFl.out _).mono ?_
    rintro e w7 ⟨rfl, hb⟩
    have T7 := Lib.hid (T6.out.below hb)
    clear hb T6
    go_wp2_with fail
    refine (HP.out _).mono ?_
    rintro e w8 ⟨rfl, hb⟩
    have T8 := Lib.hid (T7.out.below hb)
    clear hb T7
    clear HS HNl HFl HP
    go_wp2_with fail
    refine (T8.out.putB (by simp) x c).mono ?_
    rintro e w9 ⟨rfl, r', ht⟩
    have T9 := Lib.hid ht
    have hbad : (putErr a sn [] x c != 0) = true := by simpa using HBad.out
    clear ht T8 HBad
    generalize putErr a sn [] x c = n at hbad ⊢
    have cy := blk_cell T9.out.blk
    have zy := lt_of_block T9.out.blk
    have HLk := Lib.hid (T9.out.likeA none 0 .nil HOk.out (by simp))
    unfold refV refC at HLk
    simp only [List.length_nil] at HLk
    rcases HGd.out with h1 | ⟨h1, h2 | ⟨h2, h3 | ⟨h3, h4⟩⟩⟩
    all_goals
      go_wp2_with fail
      refine HLk.out.mono ?_
      rintro e w10 ⟨rfl, hb⟩
      have T10 := Lib.hid (T9.out.below hb)
      clear hb
      go_wp2_with fail
      refine (HA.out w10).mono ?_
      rintro e w11 ⟨rfl, hb⟩
      have B := Lib.hid (Below.then_ B0.out (T10.out.below hb).two.le)
      clear hb
      go_wp2_with fail
      exact bodyPost_ret (v := .bool true) (by simp only [results, Tryz.results4]; go_simp) rfl ⟨rfl, B.out⟩
set_option maxHeartbeats 8000000 in
theorem takes_yes (a b : Nat) (k me wait ep : Int) (kids : Nat) (x c : Int) (text : ByteArray) (w : World) (hkids : kids < 2 ^ 64) (hx : i64 x) (hc : i64 c) (hg : ((b : Int) == 1) = false ∨ (((b : Int) == 1) = true ∧ decide (10 < (a : Int)) = false)) (hz : newS a k b ⟨me, kids, wait⟩ ep = true) (hr : rightB x c = true) :
    Calls Tryz.prog 4 #[placeV a k b me wait ep kids, .int .i64 x, .int .i64 c, .string text] w fun e w' => e = .returned (.bool true) ∧ Below w.heap.size w w' := by
  have hl48 : a ≤ 48 := by
    have h := hz
    simp only [newS, isDig, isPool, Bool.and_eq_true, decide_eq_true_eq] at h
    omega
  have HOk := Lib.hid (SenOk.new hz)
  have HM : Hid (∀ W, Calls Tryz.prog 13 #[.agg #[.int .i64 a, .int .i64 k, .int .i64 b, .int .i64 me, .int .i64 wait, .int .i64 ep, .int .u64 kids]] W fun e W' => ∃ g, e = .returned (.tuple #[.pointer (some ⟨g, 0, none⟩), .agg #[.int .i64 (senNew a k b ⟨me, kids, wait⟩ ep).l, .int .i64 (senNew a k b ⟨me, kids, wait⟩ ep).k, .int .i64 (senNew a k b ⟨me, kids, wait⟩ ep).kd, .int .i64 (senNew a k b ⟨me, kids, wait⟩ ep).p.me, .int .i64 (senNew a k b ⟨me, kids, wait⟩ ep).p.wait, .int .u64 (senNew a k b ⟨me, kids, wait⟩ ep).p.kids, .int .i64 (senNew a k b ⟨me, kids, wait⟩ ep).ep, .int .i64 (senNew a k b ⟨me, kids, wait⟩ ep).ti, .int .u64 (senNew a k b ⟨me, kids, wait⟩ ep).heard, .int .u64 (senNew a k b ⟨me, kids, wait⟩ ep).cover, .bool (senNew a k b ⟨me, kids, wait⟩ ep).sent, .int .i64 (senNew a k b ⟨me, kids, wait⟩ ep).k, .int .i64 (senNew a k b ⟨me, kids, wait⟩ ep).l, .slice none 0 0]]) ∧ SensIn W g b a (senNew a k b ⟨me, kids, wait⟩ ep) [] W') := Lib.hid fun W => law31_made W a b k me wait ep kids hkids hz
  have hsent : (senNew a k b ⟨me, kids, wait⟩ ep).sent = false := rfl
  generalize senNew a k b ⟨me, kids, wait⟩ ep = sn at HM HOk hsent
  have HSent := Lib.hid hsent
  have X0 : Hid ((w.alloc (.cells #[.int .i64 a, .int .i64 k, .int .i64 b, .int .i64 me, .int .i64 wait, .int .i64 ep, .int .u64 kids] 26)).heap[w.heap.size]? = some (.cells #[.int .i64 a, .int .i64 k, .int .i64 b, .int .i64 me, .int .i64 wait, .int .i64 ep, .int .u64 kids] 26 (0, 0))) := Lib.hid (heap_alloc_new w _)
  have B0 : Hid (Below w.heap.size w (w.alloc (.cells #[.int .i64 a, .int .i64 k, .int .i64 b, .int .i64 me, .int .i64 wait, .int .i64 ep, .int .u64 kids] 26))) := Lib.hid (by repeat (first | with_reducible exact Below.refl _ _ | with_reducible assumption | ((with_reducible refine Below.setCell ?_ ?_ _); rotate_left; · (first | omega | exact Nat.le_refl _ | (simp <;> omega))) | (with_reducible refine Below.allocW ?_ _) | (with_reducible refine Below.drew ?_) | (with_reducible refine Below.extW ?_ _)))
  have HA := Lib.hid alive31
  unfold placeV
  clear hz hsent hkids
  go_enter Tryz.func4, Tryz.ntmps4
  rcases hg with hg | ⟨hg, hg2⟩
  all_goals
    go_upto_region 3 with fail
    generalize w.alloc (.cells #[.int .i64 a, .int .i64 k, .int .i64 b, .int .i64 me, .int .i64 wait, .int .i64 ep, .int .u64 kids] 26) = W0 at X0 B0 ⊢
    have c0 := blk_cell X0.out
    have z0 := lt_of_block X0.out
    go_wp2_with fail
    refine (HM.out W0).mono ?_
    rintro e w1 ⟨ga, rfl, hs⟩
    have S1 := Lib.hid hs
    have X1 : Hid (w1.heap[w.heap.size]? = some (.cells #[.int .i64 a, .int .i64 k, .int .i64 b, .int .i64 me, .int .i64 wait, .int .i64 ep, .int .u64 kids] 26 (0, 0))) := Lib.hid (blk_below X0.out hs.le)
    have X2 := Lib.hid (X1.out |> fun h => (heap_new_lt w1 (.cells #[.int .i64 sn.l, .int .i64 sn.k, .int .i64 sn.kd, .int .i64 sn.p.me, .int .i64 sn.p.wait, .int .u64 sn.p.kids, .int .i64 sn.ep, .int .i64 sn.ti, .int .u64 sn.heard, .int .u64 sn.cover, .bool sn.sent, .int .i64 sn.k, .int .i64 sn.l, .slice none 0 0] 43) _ (lt_of_block h)).trans h)
    have Y2 := Lib.hid (heap_alloc_new w1 (.cells #[.int .i64 sn.l, .int .i64 sn.k, .int .i64 sn.kd, .int .i64 sn.p.me, .int .i64 sn.p.wait, .int .u64 sn.p.kids, .int .i64 sn.ep, .int .i64 sn.ti, .int .u64 sn.heard, .int .u64 sn.cover, .bool sn.sent, .int .i64 sn.k, .int .i64 sn.l, .slice none 0 0] 43))
    have A2 : Hid (Below w1.heap.size w1 (w1.alloc (.cells #[.int .i64 sn.l, .int .i64 sn.k, .int .i64 sn.kd, .int .i64 sn.p.me, .int .i64 sn.p.wait, .int .u64 sn.p.kids, .int .i64 sn.ep, .int .i64 sn.ti, .int .u64 sn.heard, .int .u64 sn.cover, .bool sn.sent, .int .i64 sn.k, .int .i64 sn.l, .slice none 0 0] 43))) := Lib.hid (by repeat (first | with_reducible exact Below.refl _ _ | with_reducible assumption | ((with_reducible refine Below.setCell ?_ ?_ _); rotate_left; · (first | omega | exact Nat.le_refl _ | (simp <;> omega))) | (with_reducible refine Below.allocW ?_ _) | (with_reducible refine Below.drew ?_) | (with_reducible refine Below.extW ?_ _)))
    clear hs c0 z0 X1
    go_upto_region 4 with fail
    generalize hw2 : w1.alloc (.cells #[.int .i64 sn.l, .int .i64 sn.k, .int .i64 sn.kd, .int .i64 sn.p.me, .int .i64 sn.p.wait, .int .u64 sn.p.kids, .int .i64 sn.ep, .int .i64 sn.ti, .int .u64 sn.heard, .int .u64 sn.cover, .bool sn.sent, .int .i64 sn.k, .int .i64 sn.l, .slice none 0 0] 43) = w2 at A2 X2 Y2 ⊢
    clear hw2
    have c2 := blk_cell X2.out
    have z2 := lt_of_block X2.out
    go_wp2_with fail
    refine (HM.out w2).mono ?_
    rintro e w3 ⟨gb, rfl, hs⟩
    have T3 := TwoX.of S1.out A2.out (Nat.le_refl _) Y2.out hs
    have T4 := Lib.hid (T3.below (W' := w3.alloc (.cells #[.int .i64 sn.l, .int .i64 sn.k, .int .i64 sn.kd, .int .i64 sn.p.me, .int .i64 sn.p.wait, .int .u64 sn.p.kids, .int .i64 sn.ep, .int .i64 sn.ti, .int .u64 sn.heard, .int .u64 sn.cover, .bool sn.sent, .int .i64 sn.k, .int .i64 sn.l, .slice none 0 0] 43)) ((Below.refl _ _).alloc (Nat.le_refl _) _))
    clear hs c2 z2 S1 X2 Y2 T3 A2
    go_upto_region 5 with fail
    generalize hw4 : w3.alloc (.cells #[.int .i64 sn.l, .int .i64 sn.k, .int .i64 sn.kd, .int .i64 sn.p.me, .int .i64 sn.p.wait, .int .u64 sn.p.kids, .int .i64 sn.ep, .int .i64 sn.ti, .int .u64 sn.heard, .int .u64 sn.cover, .bool sn.sent, .int .i64 sn.k, .int .i64 sn.l, .slice none 0 0] 43) = w4 at T4 ⊢
    clear hw4
    have hrp := rightB_pos hr
    obtain ⟨m, rfl⟩ := Int.eq_ofNat_of_zero_le hrp.1.1
    obtain ⟨u, rfl⟩ := Int.eq_ofNat_of_zero_le (show 0 ≤ c by omega)
    have HS := Lib.hid (fun W => sensor_Take_no W ga (.iface 9 (.string text)) 0 0 (.no (strange_str text)))
    have HNl := Lib.hid (fun W => sensor_Take_no W ga .nilIface 0 0 (.no strange_nil))
    have HFl := Lib.hid (fun W => sensor_Take_no W ga (.iface 49 (.float .f64 4609434218613702656)) 0 0 (.no (strange_f64 _)))
    have HPr := Lib.hid (OfIs.pair (m : Int) (u : Int) hr)
    have HIn := Lib.hid (OfIs.int (m : Int) (by simp only [rightB, Bool.and_eq_true, decide_eq_true_eq]; omega))
    have HCx := Lib.hid (fun (h1 : (m : Int) < 1073741824) (h2 : (u : Int) < 1073741824) => OfIs.cplx _ _ (m : Int) (u : Int) (isWhole_of m (by omega)) (isWhole_of u (by omega)) hr)
    have d1 : decide ((m : Int) < 0) = false := by simp
    have d2 : decide (281474976710656 ≤ (m : Int)) = false := by simp only [decide_eq_false_iff_not]; omega
    have d3 : decide ((u : Int) < 1) = false := by simp only [decide_eq_false_iff_not]; omega
    have d4 : decide (72057594037927935 < (u : Int)) = false := by simp only [decide_eq_false_iff_not]; omega
    have hgx : decide ((m : Int) < 1073741824) = false ∨ (decide ((m : Int) < 1073741824) = true ∧ (decide ((u : Int) < 1073741824) = false ∨ decide ((u : Int) < 1073741824) = true)) := by
      by_cases q1 : (m : Int) < 1073741824
      · by_cases q2 : (u : Int) < 1073741824
        · exact .inr ⟨by simpa using q1, .inr (by simpa using q2)⟩
        · exact .inr ⟨by simpa using q1, .inl (by simpa using q2)⟩
      · exact .inl (by simpa using q1)
    clear hr hl48 hrp hx hc
    go_wp2_with fail
    refine (HS.out _).mono ?_
    rintro e w5 ⟨rfl, hb⟩
    have T5 := Lib.hid (T4.out.below hb)
    clear hb T4
    go_wp2_with fail
    refine (HNl.out _).mono ?_
    rintro e w6 ⟨rfl, hb⟩
    have T6 := Lib.hid (T5.out.below hb)
    clear hb T5
    go_wp2_with fail
    refine (HFl.out _).mono ?_
    rintro e w7 ⟨rfl, hb⟩
    have T7 := Lib.hid (T6.out.below hb)
    clear hb T6
    have U7 := Lib.hid T7.out.two
    clear T7 HS HNl HFl
    go_wp2_with fail
    refine (U7.out.takeA (by simp) _ (m : Int) (u : Int) HPr.out).mono ?_
    rintro e w8 ⟨r1, rfl, hp1, ht⟩
    have hl1 := hp1.len U7.out.fitsA
    have U8 := Lib.hid ht
    have HP1 := Lib.hid hp1
    clear ht hp1 U7
    go_wp2_with fail
    refine (U8.out.putB (by simp) (m : Int) (u : Int)).mono ?_
    rintro e w9 ⟨rx, rfl, hp2, ht⟩
    obtain rfl := (HP1.out.unique hp2 rfl rfl rfl).symm
    have U9 := Lib.hid ht
    clear ht hp2 U8 HP1
    generalize putErr a sn [] (m : Int) (u : Int) = n
    have en : (n != n) = false := by simp
    have fn : (n == n) = true := by simp
    simp only [List.length_nil] at hl1
    go_wp2_with fail
    refine U9.out.digA.mono ?_
    rintro e w10 ⟨dg, F1, rfl, hd, _, hb⟩
    have D9 := Lib.hid hd
    have U10 := Lib.hid (U9.out.below hb)
    clear hd hb U9
    go_wp2_with fail
    refine (digest_Nodes w10 dg b a sn.k r1 F1 D9.out (by omega)).mono ?_
    rintro e w11 ⟨v, rfl, ho, hb⟩
    obtain ⟨Av, cv, rfl, _⟩ := ho.form
    have P9 := Lib.hid ho.sl
    have U11 := Lib.hid (U10.out.below hb)
    clear ho hb U10 D9
    go_wp2_with fail
    refine U11.out.digB.mono ?_
    rintro e w12 ⟨dh, F2, rfl, hd, _, hb⟩
    have D9 := Lib.hid hd
    have Q9 := Lib.hid (P9.out.keep (B' := w12.heap.size) hb.size fun p hp => hb.cell hp)
    have U12 := Lib.hid (U11.out.below hb)
    clear hd hb U11 P9
    go_wp2_with fail
    refine (digest_Nodes w12 dh b a sn.k r1 F2 D9.out (by omega)).mono ?_
    rintro e w13 ⟨v, rfl, ho, hb⟩
    obtain ⟨Av2, cv2, rfl, _⟩ := ho.form
    have P9 := Lib.hid ho.sl
    have R9 := Lib.hid (Q9.out.keep (B' := w13.heap.size) hb.size fun p hp => hb.cell hp)
    have U13 := Lib.hid (U12.out.below hb)
    clear ho hb U12 D9 Q9
    go_wp2_with fail
    refine (ref06_Same w13 Av Av2 cv cv2 r1 R9.out P9.out (by unfold maxLen; omega)).mono ?_
    rintro e w14 ⟨rfl, hb⟩
    have U14 := Lib.hid (U13.out.below hb)
    clear hb U13 P9 R9
    go_wp2_with fail
    refine (U14.out.takeA (by omega) _ (m : Int) 1 HIn.out).mono ?_
    rintro e w15 ⟨r2, rfl, hp1, ht⟩
    have hl2 := hp1.len U14.out.fitsA
    have U15 := Lib.hid ht
    have HP1 := Lib.hid hp1
    clear ht hp1 U14
    go_wp2_with fail
    refine (U15.out.putB (by omega) (m : Int) 1).mono ?_
    rintro e w16 ⟨rx, rfl, hp2, ht⟩
    obtain rfl := (HP1.out.unique hp2 rfl rfl rfl).symm
    have U16 := Lib.hid ht
    clear ht hp2 U15 HP1
    generalize putErr a sn r1 (m : Int) 1 = n2
    have en2 : (n2 != n2) = false := by simp
    have fn2 : (n2 == n2) = true := by simp
    rcases hgx with g1 | ⟨g1, g2 | g2⟩
    · skip
      go_wp2_with fail
      refine U16.out.digA.mono ?_
      rintro e w17 ⟨dg, F1, rfl, hd, _, hb⟩
      have D16 := Lib.hid hd
      have U17 := Lib.hid (U16.out.below hb)
      clear hd hb U16
      go_wp2_with fail
      refine (digest_Nodes w17 dg b a sn.k r2 F1 D16.out (by omega)).mono ?_
      rintro e w18 ⟨v, rfl, ho, hb⟩
      obtain ⟨Av, cv, rfl, _⟩ := ho.form
      have P16 := Lib.hid ho.sl
      have U18 := Lib.hid (U17.out.below hb)
      clear ho hb U17 D16
      go_wp2_with fail
      refine U18.out.digB.mono ?_
      rintro e w19 ⟨dh, F2, rfl, hd, _, hb⟩
      have D16 := Lib.hid hd
      have Q16 := Lib.hid (P16.out.keep (B' := w19.heap.size) hb.size fun p hp => hb.cell hp)
      have U19 := Lib.hid (U18.out.below hb)
      clear hd hb U18 P16
      go_wp2_with fail
      refine (digest_Nodes w19 dh b a sn.k r2 F2 D16.out (by omega)).mono ?_
      rintro e w20 ⟨v, rfl, ho, hb⟩
      obtain ⟨Av2, cv2, rfl, _⟩ := ho.form
      have P16 := Lib.hid ho.sl
      have R16 := Lib.hid (Q16.out.keep (B' := w20.heap.size) hb.size fun p hp => hb.cell hp)
      have U20 := Lib.hid (U19.out.below hb)
      clear ho hb U19 D16 Q16
      go_wp2_with fail
      refine (ref06_Same w20 Av Av2 cv cv2 r2 R16.out P16.out (by unfold maxLen; omega)).mono ?_
      rintro e w21 ⟨rfl, hb⟩
      have U21 := Lib.hid (U20.out.below hb)
      clear hb U20 P16 R16
      go_wp2_with fail
      refine (HA.out w21).mono ?_
      rintro e w22 ⟨rfl, hb⟩
      have B := Lib.hid (Below.then_ B0.out (U21.out.below hb).le)
      clear hb
      go_wp2_with fail
      exact bodyPost_ret (v := .bool true) (by simp only [results, Tryz.results4]; go_simp) rfl ⟨rfl, B.out⟩
    · skip
      go_wp2_with fail
      refine U16.out.digA.mono ?_
      rintro e w17 ⟨dg, F1, rfl, hd, _, hb⟩
      have D16 := Lib.hid hd
      have U17 := Lib.hid (U16.out.below hb)
      clear hd hb U16
      go_wp2_with fail
      refine (digest_Nodes w17 dg b a sn.k r2 F1 D16.out (by omega)).mono ?_
      rintro e w18 ⟨v, rfl, ho, hb⟩
      obtain ⟨Av, cv, rfl, _⟩ := ho.form
      have P16 := Lib.hid ho.sl
      have U18 := Lib.hid (U17.out.below hb)
      clear ho hb U17 D16
      go_wp2_with fail
      refine U18.out.digB.mono ?_
      rintro e w19 ⟨dh, F2, rfl, hd, _, hb⟩
      have D16 := Lib.hid hd
      have Q16 := Lib.hid (P16.out.keep (B' := w19.heap.size) hb.size fun p hp => hb.cell hp)
      have U19 := Lib.hid (U18.out.below hb)
      clear hd hb U18 P16
      go_wp2_with fail
      refine (digest_Nodes w19 dh b a sn.k r2 F2 D16.out (by omega)).mono ?_
      rintro e w20 ⟨v, rfl, ho, hb⟩
      obtain ⟨Av2, cv2, rfl, _⟩ := ho.form
      have P16 := Lib.hid ho.sl
      have R16 := Lib.hid (Q16.out.keep (B' := w20.heap.size) hb.size fun p hp => hb.cell hp)
      have U20 := Lib.hid (U19.out.below hb)
      clear ho hb U19 D16 Q16
      go_wp2_with fail
      refine (ref06_Same w20 Av Av2 cv cv2 r2 R16.out P16.out (by unfold maxLen; omega)).mono ?_
      rintro e w21 ⟨rfl, hb⟩
      have U21 := Lib.hid (U20.out.below hb)
      clear hb U20 P16 R16
      go_wp2_with fail
      refine (HA.out w21).mono ?_
      rintro e w22 ⟨rfl, hb⟩
      have B := Lib.hid (Below.then_ B0.out (U21.out.below hb).le)
      clear hb
      go_wp2_with fail
      exact bodyPost_ret (v := .bool true) (by simp only [results, Tryz.results4]; go_simp) rfl ⟨rfl, B.out⟩
    · skip
      have HC2 := Lib.hid (HCx.out (by simpa using g1) (by simpa using g2))
      clear HCx
      go_wp2_with fail
      refine (U16.out.takeA (by omega) _ (m : Int) (u : Int) HC2.out).mono ?_
      rintro e w17 ⟨r3, rfl, hp1, ht⟩
      have hl3 := hp1.len U16.out.fitsA
      have U17 := Lib.hid ht
      have HP1 := Lib.hid hp1
      clear ht hp1 U16
      go_wp2_with fail
      refine (U17.out.putB (by omega) (m : Int) (u : Int)).mono ?_
      rintro e w18 ⟨rx, rfl, hp2, ht⟩
      obtain rfl := (HP1.out.unique hp2 rfl rfl rfl).symm
      have U18 := Lib.hid ht
      clear ht hp2 U17 HP1
      generalize putErr a sn r2 (m : Int) (u : Int) = n3
      have en3 : (n3 != n3) = false := by simp
      have fn3 : (n3 == n3) = true := by simp
      go_wp2_with fail
      refine U18.out.digA.mono ?_
      rintro e w19 ⟨dg, F1, rfl, hd, _, hb⟩
      have D18 := Lib.hid hd
      have U19 := Lib.hid (U18.out.below hb)
      clear hd hb U18
      go_wp2_with fail
      refine (digest_Nodes w19 dg b a sn.k r3 F1 D18.out (by omega)).mono ?_
      rintro e w20 ⟨v, rfl, ho, hb⟩
      obtain ⟨Av, cv, rfl, _⟩ := ho.form
      have P18 := Lib.hid ho.sl
      have U20 := Lib.hid (U19.out.below hb)
      clear ho hb U19 D18
      go_wp2_with fail
      refine U20.out.digB.mono ?_
      rintro e w21 ⟨dh, F2, rfl, hd, _, hb⟩
      have D18 := Lib.hid hd
      have Q18 := Lib.hid (P18.out.keep (B' := w21.heap.size) hb.size fun p hp => hb.cell hp)
      have U21 := Lib.hid (U20.out.below hb)
      clear hd hb U20 P18
      go_wp2_with fail
      refine (digest_Nodes w21 dh b a sn.k r3 F2 D18.out (by omega)).mono ?_
      rintro e w22 ⟨v, rfl, ho, hb⟩
      obtain ⟨Av2, cv2, rfl, _⟩ := ho.form
      have P18 := Lib.hid ho.sl
      have R18 := Lib.hid (Q18.out.keep (B' := w22.heap.size) hb.size fun p hp => hb.cell hp)
      have U22 := Lib.hid (U21.out.below hb)
      clear ho hb U21 D18 Q18
      go_wp2_with fail
      refine (ref06_Same w22 Av Av2 cv cv2 r3 R18.out P18.out (by unfold maxLen; omega)).mono ?_
      rintro e w23 ⟨rfl, hb⟩
      have U23 := Lib.hid (U22.out.below hb)
      clear hb U22 P18 R18
      go_wp2_with fail
      refine (HA.out w23).mono ?_
      rintro e w24 ⟨rfl, hb⟩
      have B := Lib.hid (Below.then_ B0.out (U23.out.below hb).le)
      clear hb
      go_wp2_with fail
      exact bodyPost_ret (v := .bool true) (by simp only [results, Tryz.results4]; go_simp) rfl ⟨rfl, B.out⟩
set_option maxHeartbeats 4000000 in
theorem law_SensorTakes (l k K me wait ep : Int) (kids : Nat) (x c : Int) (text : ByteArray) (w : World) (hl : i64 l) (hk : i64 k) (hK : i64 K) (hme : i64 me) (hw : i64 wait) (hep : i64 ep) (hkids : kids < 2 ^ 64) (hx : (Lit.int .i64 x).wf = true) (hc : (Lit.int .i64 c).wf = true) (ht : text.size ≤ maxLen) :
    Calls Tryz.prog 4 #[placeV l k K me wait ep kids, .int .i64 x, .int .i64 c, .string text] w fun e w' => e = .returned (.bool true) ∧ Below w.heap.size w w' := by
  have HA := Lib.hid alive31
  by_cases hbig : K = 1 ∧ 10 < l
  · obtain ⟨rfl, h10⟩ := hbig
    have B0 : Hid (Below w.heap.size w (w.alloc (.cells #[.int .i64 l, .int .i64 k, .int .i64 1, .int .i64 me, .int .i64 wait, .int .i64 ep, .int .u64 kids] 26))) := Lib.hid (by repeat (first | with_reducible exact Below.refl _ _ | with_reducible assumption | ((with_reducible refine Below.setCell ?_ ?_ _); rotate_left; · (first | omega | exact Nat.le_refl _ | (simp <;> omega))) | (with_reducible refine Below.allocW ?_ _) | (with_reducible refine Below.drew ?_) | (with_reducible refine Below.extW ?_ _)))
    unfold placeV
    clear hx hc
    go_enter Tryz.func4, Tryz.ntmps4
    go_upto_region 2 with fail
    generalize w.alloc (.cells #[.int .i64 l, .int .i64 k, .int .i64 1, .int .i64 me, .int .i64 wait, .int .i64 ep, .int .u64 kids] 26) = W0 at B0 ⊢
    go_wp2_with fail
    refine (HA.out W0).mono ?_
    rintro e w1 ⟨rfl, hb⟩
    have B1 := Lib.hid (Below.then_ B0.out hb)
    clear hb
    go_wp2_with fail
    exact bodyPost_ret (v := .bool true) (by simp only [results, Tryz.results4]; go_simp) rfl ⟨rfl, B1.out⟩
  · have hg : (K == 1) = false ∨ ((K == 1) = true ∧ decide (10 < l) = false) := by
      by_cases h1 : K = 1
      · refine .inr ⟨by simpa using h1, ?_⟩
        simp only [decide_eq_false_iff_not]
        exact fun h2 => hbig ⟨h1, h2⟩
      · exact .inl (by simpa using h1)
    clear hbig
    cases hz : newS l k K ⟨me, kids, wait⟩ ep
    · have HM := Lib.hid (fun W => law31_made_no W l k K me wait ep kids hkids hz)
      unfold placeV zeroR at HM
      have X0 : Hid ((w.alloc (.cells #[.int .i64 l, .int .i64 k, .int .i64 K, .int .i64 me, .int .i64 wait, .int .i64 ep, .int .u64 kids] 26)).heap[w.heap.size]? = some (.cells #[.int .i64 l, .int .i64 k, .int .i64 K, .int .i64 me, .int .i64 wait, .int .i64 ep, .int .u64 kids] 26 (0, 0))) := Lib.hid (heap_alloc_new w _)
      have B0 : Hid (Below w.heap.size w (w.alloc (.cells #[.int .i64 l, .int .i64 k, .int .i64 K, .int .i64 me, .int .i64 wait, .int .i64 ep, .int .u64 kids] 26))) := Lib.hid (by repeat (first | with_reducible exact Below.refl _ _ | with_reducible assumption | ((with_reducible refine Below.setCell ?_ ?_ _); rotate_left; · (first | omega | exact Nat.le_refl _ | (simp <;> omega))) | (with_reducible refine Below.allocW ?_ _) | (with_reducible refine Below.drew ?_) | (with_reducible refine Below.extW ?_ _)))
      unfold placeV
      clear hz hx hc
      go_enter Tryz.func4, Tryz.ntmps4
      rcases hg with hg | ⟨hg, hg2⟩
      all_goals
        go_upto_region 3 with fail
        generalize w.alloc (.cells #[.int .i64 l, .int .i64 k, .int .i64 K, .int .i64 me, .int .i64 wait, .int .i64 ep, .int .u64 kids] 26) = W0 at X0 B0 ⊢
        have c0 := blk_cell X0.out
        have z0 := lt_of_block X0.out
        go_wp2_with fail
        refine (HM.out W0).mono ?_
        rintro e w1 ⟨rfl, hb⟩
        have X1 := Lib.hid (blk_below (blk_below X0.out hb) ((Below.refl w1.heap.size w1).alloc (Nat.le_refl _) (.cells #[.int .i64 0, .int .i64 0, .int .i64 0, .int .i64 0, .int .i64 0, .int .u64 0, .int .i64 0, .int .i64 0, .int .u64 0, .int .u64 0, .bool false, .int .i64 0, .int .i64 0, .slice none 0 0] 43)))
        have B1 : Hid (Below w.heap.size w (w1.alloc (.cells #[.int .i64 0, .int .i64 0, .int .i64 0, .int .i64 0, .int .i64 0, .int .u64 0, .int .i64 0, .int .i64 0, .int .u64 0, .int .u64 0, .bool false, .int .i64 0, .int .i64 0, .slice none 0 0] 43))) := Lib.hid (Below.allocW (Below.then_ B0.out hb) _)
        clear hb c0 z0
        go_upto_region 4 with fail
        generalize w1.alloc (.cells #[.int .i64 0, .int .i64 0, .int .i64 0, .int .i64 0, .int .i64 0, .int .u64 0, .int .i64 0, .int .i64 0, .int .u64 0, .int .u64 0, .bool false, .int .i64 0, .int .i64 0, .slice none 0 0] 43) = w2 at X1 B1 ⊢
        have c1 := blk_cell X1.out
        have z1 := lt_of_block X1.out
        go_wp2_with fail
        refine (HM.out w2).mono ?_
        rintro e w3 ⟨rfl, hb⟩
        have B3 : Hid (Below w.heap.size w (w3.alloc (.cells #[.int .i64 0, .int .i64 0, .int .i64 0, .int .i64 0, .int .i64 0, .int .u64 0, .int .i64 0, .int .i64 0, .int .u64 0, .int .u64 0, .bool false, .int .i64 0, .int .i64 0, .slice none 0 0] 43))) := Lib.hid (Below.allocW (Below.then_ B1.out hb) _)
        clear hb c1 z1
        go_upto_region 5 with fail
        generalize w3.alloc (.cells #[.int .i64 0, .int .i64 0, .int .i64 0, .int .i64 0, .int .i64 0, .int .u64 0, .int .i64 0, .int .i64 0, .int .u64 0, .int .u64 0, .bool false, .int .i64 0, .int .i64 0, .slice none 0 0] 43) = w4 at B3 ⊢
        go_wp2_with fail
        refine (HA.out w4).mono ?_
        rintro e w5 ⟨rfl, hb⟩
        have B5 := Lib.hid (Below.then_ B3.out hb)
        clear hb
        go_wp2_with fail
        exact bodyPost_ret (v := .bool true) (by simp only [results, Tryz.results4]; go_simp) rfl ⟨rfl, B5.out⟩
    · obtain ⟨a, b, rfl, rfl⟩ := newS_nat hz
      have hx1 := i64_of_wf hx
      have hc1 := i64_of_wf hc
      cases hr : rightB x c
      · refine takes_no a b k me wait ep kids x c text w hkids hx1 hc1 hg hz hr ?_
        by_cases q1 : x < 0
        · exact .inl (by simpa using q1)
        · refine .inr ⟨by simpa using q1, ?_⟩
          by_cases q2 : 281474976710656 ≤ x
          · exact .inl (by simpa using q2)
          · refine .inr ⟨by simpa using q2, ?_⟩
            by_cases q3 : c < 1
            · exact .inl (by simpa using q3)
            · refine .inr ⟨by simpa using q3, ?_⟩
              have : ¬ c ≤ 72057594037927935 := fun q4 => by
                have : rightB x c = true := by
                  simp only [rightB, Bool.and_eq_true, decide_eq_true_eq]; omega
                rw [this] at hr; cases hr
              simp only [decide_eq_true_eq]; omega
      · exact takes_yes a b k me wait ep kids x c text w hkids hx1 hc1 hg hz hr
end Go.Proofs.YtgjaopfjffncbaaGreat
