/-
  Texts of this proof, one behind the other: BinsJoinW.
-/
import Derived.Test.YtbmmkhbdcaokkaaGreatP3
import Derived.Test.YtbmmkhbdcaokkaaGreatP5
/- Chapter 19: with one edge less: the law. -/
set_option linter.unusedSimpArgs false namespace Go.Proofs.YtbmmkhbdcaokkaaGreat
open Go.ChangeShapes Go.WideShapes Go.ChangeAt Go.RowKit
set_option linter.unusedVariables false
set_option maxRecDepth 100000

/-- A list of ints that came in, with its room. -/
theorem open_IntsR {H : Type} {enc : TypeId × Value → H} {w : World} {base : Nat} {spare : Nat → Bool} {held : Bool} {r : Reach} {b0 : Nat} {v : Value} {d : DataW H} {p : List MemPlace}
    (hv : Value.okWide Tryz.prog w r b0 27 v) (h : DataW.Trod enc Tryz.prog w base spare held 27 v d p) :
    ∃ (ks : List Int) (A : Option Addr) (cap : Nat), v = .slice A ks.length cap ∧ Sl w w.heap.size encZ A ks ∧ (∀ x ∈ ks, i64 x) ∧ ks.length ≤ maxLen ∧ ks.length ≤ cap ∧ cap ≤ maxLen := by
  obtain ⟨ks, A, cap, rfl, h1, h2, h3⟩ := open_Ints hv h
  refine ⟨ks, A, cap, rfl, h1, h2, h3, ?_⟩
  obtain ⟨fuel, hf⟩ := h
  rcases DataW.trod_slice Tryz.underlying27 hf with ⟨hc, _⟩ | ⟨a, len, cap', elems, rest, n, _, hc, _, _, k1, k2, _⟩
  · simp [Value.cells] at hc
    obtain ⟨rfl, hl, rfl⟩ := hc
    have : ks.length = 0 := by simpa using hl
    unfold maxLen; omega
  · simp [Value.cells] at hc
    obtain ⟨rfl, hl, rfl⟩ := hc
    exact ⟨by omega, k2⟩
theorem law_BinsJoin_no (l k K : Int) (r : List Nd) (A : Option Addr) (cap : Nat) (es : List Int) (A2 : Option Addr) (cap2 : Nat) (at_ : Int) (w : World) (h : ¬ goodL l k K r) (hS : Sl w w.heap.size encN A r) (hI : ints r) (hm : r.length ≤ maxLen) :
    Calls Tryz.prog 9 #[loadedV l k K A r.length cap, .slice A2 es.length cap2, .int .i64 at_] w fun e w' => e = .returned (.bool true) ∧ Below w.heap.size w w' := by
  have HC := Lib.hid (law16_Load_no · l k K A cap r h · hI hm)
  have HS := Lib.hid hS
  clear h hS
  unfold loadedV refDig at HC
  unfold loadedV
  go_enter Tryz.func9, Tryz.ntmps9
  go_wp2_with fail
  refine (HC.out _ (HS.out.keep (by simp) fun p hp => Go.RowKit.Below.cell (B := w.heap.size) (w := w) (by repeat (first | with_reducible exact Below.refl _ _ | with_reducible assumption | ((with_reducible refine Below.setCell ?_ ?_ _); rotate_left; · (first | omega | exact Nat.le_refl _ | (simp <;> omega))) | (with_reducible refine Below.allocW ?_ _) | (with_reducible refine Below.drew ?_) | (with_reducible refine Below.extW ?_ _))) hp)).mono ?_
  rintro e w2 ⟨rfl, hb2⟩
  have B2 : Below w.heap.size w w2 := Below.then_ (by repeat (first | with_reducible exact Below.refl _ _ | with_reducible assumption | ((with_reducible refine Below.setCell ?_ ?_ _); rotate_left; · (first | omega | exact Nat.le_refl _ | (simp <;> omega))) | (with_reducible refine Below.allocW ?_ _) | (with_reducible refine Below.drew ?_) | (with_reducible refine Below.extW ?_ _))) hb2
  have s2 : w.heap.size ≤ w2.heap.size := B2.size
  have z2_0 : w.heap.size < w2.heap.size := by have := hb2.size; (try simp at this); omega
  have y2_0 : w.heap.size ≤ w2.heap.size := Nat.le_of_lt z2_0
  have c2_0 := fun o => hb2.cell (p := ⟨w.heap.size, o, none⟩) (by first | omega | (simp <;> omega))
  have f2_0 := fun o => hb2.frozen (p := ⟨w.heap.size, o, none⟩) (by first | omega | (simp <;> omega))
  go_wp2_with fail
  refine (alive19 _).mono ?_
  rintro e w3 ⟨rfl, hb3⟩
  have B3 : Below w.heap.size w w3 := Below.then_ (by repeat (first | with_reducible exact Below.refl _ _ | with_reducible assumption | ((with_reducible refine Below.setCell ?_ ?_ _); rotate_left; · (first | omega | exact Nat.le_refl _ | (simp <;> omega))) | (with_reducible refine Below.allocW ?_ _) | (with_reducible refine Below.drew ?_) | (with_reducible refine Below.extW ?_ _))) hb3
  have s3 : w.heap.size ≤ w3.heap.size := B3.size
  go_wp2_with fail
  go_ret
  exact ⟨rfl, (by repeat (first | with_reducible exact Below.refl _ _ | with_reducible assumption | ((with_reducible refine Below.setCell ?_ ?_ _); rotate_left; · (first | omega | exact Nat.le_refl _ | (simp <;> omega))) | (with_reducible refine Below.allocW ?_ _) | (with_reducible refine Below.drew ?_) | (with_reducible refine Below.extW ?_ _)))⟩
/-- A stretch of a slice that reads as a list. -/
theorem sl_take {w : World} {B : Nat} {A : Option Addr} {l : List Int} (h : Sl w B encZ A l) (a : Nat) : Sl w B encZ A (l.take a) := by
  rcases h with h | ⟨b, off, rfl, hb, hc⟩
  · subst h; exact .inl (by simp)
  · refine .inr ⟨b, off, rfl, hb, fun i x hi j u hj => ?_⟩
    rw [List.getElem?_take] at hi
    split at hi
    · exact hc i x hi j u hj
    · cases hi
theorem sl_drop {w : World} {B b off : Nat} {l : List Int} (h : Sl w B encZ (some ⟨b, off, none⟩) l) (a : Nat) : Sl w B encZ (some ⟨b, off + a, none⟩) (l.drop a) := by
  rcases h with h | ⟨b', off', hA, hb, hc⟩
  · subst h; exact .inl (by simp)
  · cases hA
    refine .inr ⟨b, off + a, rfl, hb, fun i x hi j u hj => ?_⟩
    rw [List.getElem?_drop] at hi
    have := hc (a + i) x hi j u hj
    rw [show off + a + i * 1 + j = off + (a + i) * 1 + j by omega]
    exact this
theorem sl_cellJ {w : World} {B b off i : Nat} {l : List Int} {x : Int} (h : Sl w B encZ (some ⟨b, off, none⟩) l) (hi : l[i]? = some x) : b < B ∧ w.cell? ⟨b, off + i, none⟩ = some (.int .i64 x) := by
  rcases h with h | ⟨b', off', hA, hb, hc⟩
  · subst h; simp at hi
  · cases hA
    exact ⟨hb, by have := hc i x hi 0 (.int .i64 x) rfl; simpa using this⟩
/-- An address of two, told by a test: no 'if' that the walk would part on. -/
def pickA (c : Prop) [Decidable c] (x y : Option Addr) : Option Addr := if c then x else y
theorem slice_pick (c : Prop) [Decidable c] (x y : Option Addr) (n m : Nat) : Value.slice (if c then x else y) n m = Value.slice (pickA c x y) n m := rfl
theorem sl_pick {w : World} {B : Nat} {c : Prop} [Decidable c] {x y : Option Addr} {l : List Int} (h : c → l = []) (h2 : Sl w B encZ y l) : Sl w B encZ (pickA c x y) l := by
  unfold pickA
  by_cases hc : c
  · rw [if_pos hc]; exact .inl (h hc)
  · rw [if_neg hc]; exact h2
section
attribute [local go_sem] slice_pick
set_option maxHeartbeats 4000000 in
theorem law_BinsJoin_yes (l K : Nat) (k : Int) (r : List Nd) (A : Option Addr) (cap : Nat) (es : List Int) (A2 : Option Addr) (cap2 : Nat) (at_ : Int) (w : World) (h : goodL l k K r) (hS : Sl w w.heap.size encN A r) (hI : ints r) (hS2 : Sl w w.heap.size encZ A2 es) (hc1 : es.length ≤ cap2) (hc2 : cap2 ≤ maxLen) :
    Calls Tryz.prog 9 #[loadedV l k K A r.length cap, .slice A2 es.length cap2, .int .i64 at_] w fun e w' => e = .returned (.bool true) ∧ Below w.heap.size w w' := by
  have hn : r.length ≤ 67108864 := by have := h.1; omega
  have hr := (goodL_parts h.2.2).1
  have HC := Lib.hid (law16_Load · l K k A cap r h · hI)
  have HS := Lib.hid hS
  have HS2 := Lib.hid hS2
  have HRr := Lib.hid hr
  have hfr := (right_fits hr).1
  unfold maxLen at hc2
  clear h hS hr hI hS2
  unfold loadedV refDig at HC
  unfold loadedV
  go_enter Tryz.func9, Tryz.ntmps9
  go_wp2_with fail
  refine (HC.out _ (HS.out.keep (by simp) fun p hp => Go.RowKit.Below.cell (B := w.heap.size) (w := w) (by repeat (first | with_reducible exact Below.refl _ _ | with_reducible assumption | ((with_reducible refine Below.setCell ?_ ?_ _); rotate_left; · (first | omega | exact Nat.le_refl _ | (simp <;> omega))) | (with_reducible refine Below.allocW ?_ _) | (with_reducible refine Below.drew ?_) | (with_reducible refine Below.extW ?_ _))) hp)).mono ?_
  rintro e w2 ⟨g, F, rfl, hD, _, hb2⟩
  have B2 : Below w.heap.size w w2 := Below.then_ (by repeat (first | with_reducible exact Below.refl _ _ | with_reducible assumption | ((with_reducible refine Below.setCell ?_ ?_ _); rotate_left; · (first | omega | exact Nat.le_refl _ | (simp <;> omega))) | (with_reducible refine Below.allocW ?_ _) | (with_reducible refine Below.drew ?_) | (with_reducible refine Below.extW ?_ _))) hb2
  have s2 : w.heap.size ≤ w2.heap.size := B2.size
  have z2_0 : w.heap.size < w2.heap.size := by have := hb2.size; (try simp at this); omega
  have y2_0 : w.heap.size ≤ w2.heap.size := Nat.le_of_lt z2_0
  have c2_0 := fun o => hb2.cell (p := ⟨w.heap.size, o, none⟩) (by first | omega | (simp <;> omega))
  have f2_0 := fun o => hb2.frozen (p := ⟨w.heap.size, o, none⟩) (by first | omega | (simp <;> omega))
  have hl := hD.l_le
  have KD := Lib.hid (hD.alloc (.cells #[.int .i64 k, .int .i64 l, .slice A r.length cap] 37))
  clear hD
  by_cases hlong : 30 < es.length
  · have hlong' : (30 : Int) < (es.length : Int) := by omega
    go_wp2_with fail
    refine (alive19 _).mono ?_
    rintro e w3 ⟨rfl, hb3⟩
    have B3 : Below w.heap.size w w3 := Below.then_ (by repeat (first | with_reducible exact Below.refl _ _ | with_reducible assumption | ((with_reducible refine Below.setCell ?_ ?_ _); rotate_left; · (first | omega | exact Nat.le_refl _ | (simp <;> omega))) | (with_reducible refine Below.allocW ?_ _) | (with_reducible refine Below.drew ?_) | (with_reducible refine Below.extW ?_ _))) hb3
    have s3 : w.heap.size ≤ w3.heap.size := B3.size
    go_wp2_with fail
    go_ret
    exact ⟨rfl, (by repeat (first | with_reducible exact Below.refl _ _ | with_reducible assumption | ((with_reducible refine Below.setCell ?_ ?_ _); rotate_left; · (first | omega | exact Nat.le_refl _ | (simp <;> omega))) | (with_reducible refine Below.allocW ?_ _) | (with_reducible refine Below.drew ?_) | (with_reducible refine Below.extW ?_ _)))⟩
  · have hk60 : es.length ≤ 30 := by omega
    have hlong' : decide (30 < es.length) = false := by simpa using hlong
    clear hlong
    by_cases ha0 : at_ < 0
    · go_wp2_with fail
      refine (alive19 _).mono ?_
      rintro e w3 ⟨rfl, hb3⟩
      have B3 : Below w.heap.size w w3 := Below.then_ (by repeat (first | with_reducible exact Below.refl _ _ | with_reducible assumption | ((with_reducible refine Below.setCell ?_ ?_ _); rotate_left; · (first | omega | exact Nat.le_refl _ | (simp <;> omega))) | (with_reducible refine Below.allocW ?_ _) | (with_reducible refine Below.drew ?_) | (with_reducible refine Below.extW ?_ _))) hb3
      have s3 : w.heap.size ≤ w3.heap.size := B3.size
      go_wp2_with fail
      go_ret
      exact ⟨rfl, (by repeat (first | with_reducible exact Below.refl _ _ | with_reducible assumption | ((with_reducible refine Below.setCell ?_ ?_ _); rotate_left; · (first | omega | exact Nat.le_refl _ | (simp <;> omega))) | (with_reducible refine Below.allocW ?_ _) | (with_reducible refine Below.drew ?_) | (with_reducible refine Below.extW ?_ _)))⟩
    · obtain ⟨a, rfl⟩ := Int.eq_ofNat_of_zero_le (show 0 ≤ at_ by omega)
      have ha1 : decide ((a : Int) < 0) = false := by simp
      clear ha0
      by_cases hae : es.length ≤ a
      · go_wp2_with fail
        refine (alive19 _).mono ?_
        rintro e w3 ⟨rfl, hb3⟩
        have B3 : Below w.heap.size w w3 := Below.then_ (by repeat (first | with_reducible exact Below.refl _ _ | with_reducible assumption | ((with_reducible refine Below.setCell ?_ ?_ _); rotate_left; · (first | omega | exact Nat.le_refl _ | (simp <;> omega))) | (with_reducible refine Below.allocW ?_ _) | (with_reducible refine Below.drew ?_) | (with_reducible refine Below.extW ?_ _))) hb3
        have s3 : w.heap.size ≤ w3.heap.size := B3.size
        go_wp2_with fail
        go_ret
        exact ⟨rfl, (by repeat (first | with_reducible exact Below.refl _ _ | with_reducible assumption | ((with_reducible refine Below.setCell ?_ ?_ _); rotate_left; · (first | omega | exact Nat.le_refl _ | (simp <;> omega))) | (with_reducible refine Below.allocW ?_ _) | (with_reducible refine Below.drew ?_) | (with_reducible refine Below.extW ?_ _)))⟩
      · have hal : a < es.length := by omega
        have hae' : decide (es.length ≤ a) = false := by simpa using hae
        clear hae
        have BA2 : Below w.heap.size w (w2.alloc (.cells #[.int .i64 k, .int .i64 l, .slice A r.length cap] 37)) := (by repeat (first | with_reducible exact Below.refl _ _ | with_reducible assumption | ((with_reducible refine Below.setCell ?_ ?_ _); rotate_left; · (first | omega | exact Nat.le_refl _ | (simp <;> omega))) | (with_reducible refine Below.allocW ?_ _) | (with_reducible refine Below.drew ?_) | (with_reducible refine Below.extW ?_ _)))
        have E2 := Lib.hid (HS2.out.keep BA2.size fun p hp => BA2.cell hp)
        clear BA2
        go_wp2_with fail
        refine (bins_Of _ g K l k r F A2 cap2 es KD.out hn E2.out (by omega) HRr.out).mono ?_
        rintro e w3 ⟨v3, rfl, o3, hb3⟩
        have B3 : Below w.heap.size w w3 := Below.then_ (by repeat (first | with_reducible exact Below.refl _ _ | with_reducible assumption | ((with_reducible refine Below.setCell ?_ ?_ _); rotate_left; · (first | omega | exact Nat.le_refl _ | (simp <;> omega))) | (with_reducible refine Below.allocW ?_ _) | (with_reducible refine Below.drew ?_) | (with_reducible refine Below.extW ?_ _))) hb3
        have s3 : w.heap.size ≤ w3.heap.size := B3.size
        by_cases hE : binErr l es = 0
        · have hre : rightE l (-1) es = true := by unfold binErr at hE; split at hE <;> simp_all
          have hre2 := rightE_less es (-1) a hre
          have hE2 : binErr l (lessE es a) = 0 := by unfold binErr; rw [hre2]; rfl
          have he1 : ofBins l r es = binsL l r es := by unfold ofBins; rw [if_pos hE]
          have he2 : ofBins l r (lessE es a) = binsL l r (lessE es a) := by unfold ofBins; rw [if_pos hE2]
          have HE2 := Lib.hid hE2
          have HE3 := Lib.hid he2
          rw [he1] at o3
          rw [hE]
          have hbl := binsL_len l r es
          have J := Lib.hid (bins_join (l := (l : Int)) (r := r) hal)
          have ea : (binsL (l : Int) r es)[a]? = some (binAt l r es a) := by rw [List.getElem?_eq_getElem (by omega), binsL_at]
          have eb : (binsL (l : Int) r es)[a + 1]? = some (binAt l r es (a + 1)) := by rw [List.getElem?_eq_getElem (by omega), binsL_at]
          have E3 := Lib.hid (E2.out.keep hb3.size fun p hp => hb3.cell hp)
          obtain ⟨A3, c3, rfl, hc31, hc32, hS3, _⟩ := o3.form
          have O3 := Lib.hid o3
          have HEL := Lib.hid (lessE_len hal)
          have KD3 := Lib.hid (KD.out.below hb3)
          have r1 := lowN_range (l := l) hfr.roll es
          clear hre hre2 hE2 he1 he2 hE o3
          obtain ⟨L, hL⟩ : ∃ L, L = binsL (l : Int) r es := ⟨_, rfl⟩
          obtain ⟨x, hx⟩ : ∃ x, x = binAt (l : Int) r es a := ⟨_, rfl⟩
          obtain ⟨y, hy⟩ : ∃ y, y = binAt (l : Int) r es (a + 1) := ⟨_, rfl⟩
          have g0 := r1 a
          have g1 := r1 (a + 1)
          have g2 := r1 (a + 1 + 1)
          have hsum := hfr.sum
          have hx1 : -72057594037927936 ≤ x ∧ x ≤ 72057594037927936 := by rw [hx]; unfold binAt; omega
          have hy1 : -72057594037927936 ≤ y ∧ y ≤ 72057594037927936 := by rw [hy]; unfold binAt; omega
          clear r1 g0 g1 g2 hsum
          simp only [← hL, ← hx, ← hy] at O3 J hbl ea eb hS3 hc31 ⊢
          have HBL := Lib.hid hbl
          obtain ⟨M, hM⟩ : ∃ M, M = es.take a := ⟨_, rfl⟩
          obtain ⟨D, hD⟩ : ∃ D, D = es.drop (a + 1) := ⟨_, rfl⟩
          obtain ⟨P, hP⟩ : ∃ P, P = L.take a := ⟨_, rfl⟩
          obtain ⟨Q, hQ⟩ : ∃ Q, Q = L.drop (a + 2) := ⟨_, rfl⟩
          have HM := Lib.hid (show M.length = a by rw [hM, List.length_take]; omega)
          have HDl := Lib.hid (show D.length = es.length - (a + 1) by rw [hD, List.length_drop])
          have HP := Lib.hid (show P.length = a by rw [hP, List.length_take]; omega)
          have HQ := Lib.hid (show Q.length = L.length - (a + 2) by rw [hQ, List.length_drop])
          have HLS := Lib.hid (show lessE es a = M ++ D by unfold lessE; rw [hM, hD])
          rw [HLS.out, ← hP, ← hQ] at J
          rw [HLS.out] at HE2 HE3
          obtain ⟨b, off, rfl, hb, _⟩ := E3.out.at_ hal
          obtain ⟨b3, off3, rfl, hb3', hcl3⟩ := hS3.at_ (show a < L.length by omega)
          have TM := Lib.hid (hM ▸ sl_take E3.out a)
          have TD := Lib.hid (hD ▸ sl_drop E3.out (a + 1))
          have TD0 : Hid (cap2 = a + 1 → D = []) := Lib.hid (fun h => List.eq_nil_of_length_eq_zero (by rw [HDl.out]; omega))
          have TQ0 : Hid (c3 = a + 2 → Q = []) := Lib.hid (fun h => List.eq_nil_of_length_eq_zero (by rw [HQ.out]; omega))
          have TP : Hid (∀ W B, Sl W B encZ (some ⟨b3, off3, none⟩) L → Sl W B encZ (some ⟨b3, off3, none⟩) P) := Lib.hid (fun W B h => hP ▸ sl_take h a)
          have TQ : Hid (∀ W B, Sl W B encZ (some ⟨b3, off3, none⟩) L → Sl W B encZ (some ⟨b3, off3 + (a + 2), none⟩) Q) := Lib.hid (fun W B h => hQ ▸ sl_drop h (a + 2))
          have ea' := Lib.hid ea
          have eb' := Lib.hid eb
          clear hL hx hy hM hD hP hQ ea eb hbl hcl3 hS3 hb3 E2 E3 hb hb3'
          have i1 : a ≤ cap2 := by omega
          have i2 : a + 1 ≤ es.length := by omega
          go_wp2_with ((at_builtin; refine wpList_app tyZ rfl _ _ rfl encZ w3.heap.size (.slice none 0 0) [] rfl (Own.nil _ _ _ _) (some ⟨b, off, none⟩) cap2 M w3.heap.size ?hx TM.out ?c1 ?c2 ?c3 ?c4))
          case hx => rw [HM.out]; rfl
          case c1 => have := HM.out; simp only [List.length_nil]; omega
          case c2 => have := HM.out; simp only [maxLen, List.length_nil]; omega
          case c3 => exact Nat.le_refl _
          case c4 =>
            intro v4 w4 ho4 hg4 _ hb4 _
            have K4 := Lib.hid (KD3.out.below hb4)
            have s4 := hb4.size
            have O4 := Lib.hid (show Own w4 w3.heap.size 3 encZ v4 M from ho4)
            have TD4 := Lib.hid (TD.out.keep (B' := w4.heap.size) hb4.size fun p hp => hb4.cell hp)
            have O34 := Lib.hid (O3.out.below hb4)
            have BB4 := Lib.hid hb4
            clear ho4 hg4 hb4
            obtain ⟨A4, c4, rfl, _⟩ := O4.out.form
            have i3 : a + 1 ≤ cap2 := by omega
            have TDx := Lib.hid (sl_pick (c := cap2 = a + 1) (x := some ⟨b, off, none⟩) TD0.out TD4.out)
            go_wp2_with ((at_builtin; refine wpList_app tyZ rfl _ _ rfl encZ w3.heap.size (.slice A4 M.length c4) M rfl O4.out (pickA (cap2 = a + 1) (some ⟨b, off, none⟩) (some ⟨b, off + (a + 1), none⟩)) (cap2 - (a + 1)) D w4.heap.size ?hx TDx.out ?c1 ?c2 ?c3 ?c4))
            case hx => rw [HDl.out]; rfl
            case c1 => have := HM.out; have := HDl.out; omega
            case c2 => have := HM.out; have := HDl.out; simp only [maxLen]; omega
            case c3 => exact s4
            case c4 =>
              intro v5 w5 ho5 hg5 _ hb5 _
              have BB5 := Lib.hid (BB4.out.trans hb5)
              have K5 := Lib.hid (KD3.out.below BB5.out)
              have s5 := BB5.out.size
              have hmd : (M ++ D).length ≤ 60 := by have := HM.out; have := HDl.out; rw [List.length_append]; omega
              obtain ⟨E, hE⟩ : ∃ E, E = M ++ D := ⟨_, rfl⟩
              have HE2 : Hid (binErr l E = 0) := Lib.hid (hE ▸ HE2.out)
              obtain ⟨Z, hZ⟩ : ∃ Z, Z = P ++ [x + y] ++ Q := ⟨_, rfl⟩
              have HZ := Lib.hid hZ
              have HE3 : Hid (ofBins l r E = Z) := Lib.hid (hE ▸ (HE3.out.trans (J.out.trans hZ.symm)))
              rw [← hE] at ho5 hmd
              have O5 := Lib.hid ho5
              clear hE J hZ
              obtain ⟨A5, c5, rfl, _⟩ := ho5.form
              clear ho5 hg5 hb5
              go_wp2_with fail
              refine (bins_Of _ g K l k r F A5 c5 E K5.out hn O5.out.sl (by omega) HRr.out).mono ?_
              rintro e w6 ⟨v6, rfl, o6, hb6⟩
              rw [HE2.out]
              rw [HE3.out] at o6
              have BB6 := Lib.hid (BB5.out.trans (hb6.mono s5))
              have OL6 := Lib.hid (O3.out.below BB6.out)
              have O6 := Lib.hid (o6.base_le (b := w3.heap.size) s5)
              have s6 := BB6.out.size
              have P6 := Lib.hid (TP.out w6 w6.heap.size (OL6.out.sl))
              have i4 : a ≤ c3 := by have := HBL.out; omega
              have i5 : a < L.length := by have := HBL.out; omega
              have i6 : a + 1 < L.length := by have := HBL.out; omega
              have i7 : a + 2 ≤ L.length := by omega
              have i8 : a + 2 ≤ c3 := by omega
              obtain ⟨A6, c6, rfl, _⟩ := o6.form
              clear o6 hb6
              go_wp2_with ((at_builtin; refine wpList_app tyZ rfl _ _ rfl encZ w6.heap.size (.slice none 0 0) [] rfl (Own.nil _ _ _ _) (some ⟨b3, off3, none⟩) c3 P w6.heap.size ?hx P6.out ?c1 ?c2 ?c3 ?c4))
              case hx => rw [HP.out]; rfl
              case c1 => have := HP.out; simp only [List.length_nil]; omega
              case c2 => have := HP.out; simp only [maxLen, List.length_nil]; omega
              case c3 => exact Nat.le_refl _
              case c4 =>
                intro v7 w7 ho7 hg7 _ hb7 _
                have O7 := Lib.hid ho7
                have BB7 := Lib.hid (BB6.out.trans (hb7.mono s6))
                have s7 := hb7.size
                have OL7 := Lib.hid (O3.out.below BB7.out)
                have B67 := Lib.hid hb7
                obtain ⟨A7, c7, rfl, _⟩ := ho7.form
                obtain ⟨lb7, cx⟩ := sl_cellJ OL7.out.sl ea'.out
                obtain ⟨_, cy⟩ := sl_cellJ OL7.out.sl eb'.out
                have lb6 : b3 < w6.heap.size := (O3.out.below BB6.out |>.sl |> fun h => (sl_cellJ h ea'.out).1)
                clear ho7 hg7 hb7
                go_wp2_with fail
                refine wp_region_noPanic ?_
                refine wp_region_N (fun W => W.cell? ⟨b3, off3 + a, none⟩ = some (.int .i64 x) ∧ W.cell? ⟨b3, off3 + (a + 1), none⟩ = some (.int .i64 y)) [] (by kernel_rfl) ⟨cx, cy⟩ (fun hHeld => ?_)
                refine wpAnyN_pure (i := 0) (v := .slice A7 P.length c7) rfl (by kernel_rfl) (by kernel_rfl) (by kernel_rfl) (fun _ _ _ h => h) (Or.inl ⟨by rfl, fun W _ => by go_simp⟩) ?_
                try simp only [Act.put, List.setIfInBounds_toArray, List.set_cons_zero, List.set_cons_succ]
                refine wpAnyN_pure (i := 1) (v := .slice (some ⟨b3, off3, none⟩) L.length c3) rfl (by kernel_rfl) (by kernel_rfl) (by kernel_rfl) (fun _ _ _ h => h) (Or.inl ⟨by rfl, fun W _ => by go_simp⟩) ?_
                try simp only [Act.put, List.setIfInBounds_toArray, List.set_cons_zero, List.set_cons_succ]
                refine wpAnyN_pure (i := 2) (v := .int .i64 a) rfl (by kernel_rfl) (by kernel_rfl) (by kernel_rfl) (fun _ _ _ h => h) (Or.inl ⟨by rfl, fun W _ => by go_simp⟩) ?_
                try simp only [Act.put, List.setIfInBounds_toArray, List.set_cons_zero, List.set_cons_succ]
                refine wpAnyN_pure (i := 3) (v := .pointer (some ⟨b3, off3 + a, none⟩)) rfl (by kernel_rfl) (by kernel_rfl) (by kernel_rfl) (fun _ _ _ h => h) (Or.inl ⟨by rfl, fun W _ => by go_simp⟩) ?_
                try simp only [Act.put, List.setIfInBounds_toArray, List.set_cons_zero, List.set_cons_succ]
                refine wpAnyN_take (i := 4) (v := .int .i64 x) rfl (by kernel_rfl) (by kernel_rfl) (by kernel_rfl) (by kernel_rfl) (fun _ _ _ h => h) (Or.inl ⟨by rfl, fun W hW => by obtain ⟨q1, q2⟩ := hW; go_simp⟩) hHeld ?_
                try simp only [Act.put, List.setIfInBounds_toArray, List.set_cons_zero, List.set_cons_succ]
                refine wpAnyN_pure (i := 5) (v := .slice (some ⟨b3, off3, none⟩) L.length c3) rfl (by kernel_rfl) (by kernel_rfl) (by kernel_rfl) (fun _ _ _ h => h) (Or.inl ⟨by rfl, fun W _ => by go_simp⟩) ?_
                try simp only [Act.put, List.setIfInBounds_toArray, List.set_cons_zero, List.set_cons_succ]
                refine wpAnyN_pure (i := 6) (v := .int .i64 a) rfl (by kernel_rfl) (by kernel_rfl) (by kernel_rfl) (fun _ _ _ h => h) (Or.inl ⟨by rfl, fun W _ => by go_simp⟩) ?_
                try simp only [Act.put, List.setIfInBounds_toArray, List.set_cons_zero, List.set_cons_succ]
                refine wpAnyN_pure (i := 7) (v := .int .i64 ((a : Int) + 1)) rfl (by kernel_rfl) (by kernel_rfl) (by kernel_rfl) (fun _ _ _ h => h) (Or.inl ⟨by rfl, fun W _ => by go_simp; try (rw [IntKind.wrap_i64]; omega)⟩) ?_
                try simp only [Act.put, List.setIfInBounds_toArray, List.set_cons_zero, List.set_cons_succ]
                refine wpAnyN_pure (i := 8) (v := .pointer (some ⟨b3, off3 + (a + 1), none⟩)) rfl (by kernel_rfl) (by kernel_rfl) (by kernel_rfl) (fun _ _ _ h => h) (Or.inl ⟨by rfl, fun W _ => by go_simp; try (intro h; exfalso; have := h (by omega); omega)⟩) ?_
                try simp only [Act.put, List.setIfInBounds_toArray, List.set_cons_zero, List.set_cons_succ]
                refine wpAnyN_take (i := 9) (v := .int .i64 y) rfl (by kernel_rfl) (by kernel_rfl) (by kernel_rfl) (by kernel_rfl) (fun _ _ _ h => h) (Or.inl ⟨by rfl, fun W hW => by obtain ⟨q1, q2⟩ := hW; go_simp⟩) hHeld ?_
                try simp only [Act.put, List.setIfInBounds_toArray, List.set_cons_zero, List.set_cons_succ]
                refine wpAnyN_pure (i := 10) (v := .int .i64 (x + y)) rfl (by kernel_rfl) (by kernel_rfl) (by kernel_rfl) (fun _ _ _ h => h) (Or.inl ⟨by rfl, fun W _ => by go_simp; try (rw [IntKind.wrap_i64]; omega)⟩) ?_
                try simp only [Act.put, List.setIfInBounds_toArray, List.set_cons_zero, List.set_cons_succ]
                refine wpAnyN_one (i := 11) (by kernel_rfl) rfl (fun K hK => ?_)
                go_simp
                have BD : Below w7.heap.size w7 (w7.drew.alloc (.cells #[.int .i64 (x + y)] 3)) := (Below.drew (Below.refl _ w7)).alloc (Nat.le_refl _) _
                have dx := (BD.cell (p := ⟨b3, off3 + a, none⟩) lb7).trans cx
                have dy := (BD.cell (p := ⟨b3, off3 + (a + 1), none⟩) lb7).trans cy
                refine hK.out _ _ (fun _ _ => ⟨dx, dy⟩) ?_
                clear hK K hHeld
                try simp only [Act.put, List.setIfInBounds_toArray, List.set_cons_zero, List.set_cons_succ]
                refine wpAnyN_one (i := 12) (by kernel_rfl) rfl (fun K hK => ?_)
                refine step_app (o := ⟨some 81, _, _, _, _, _⟩) tyZ (by rfl) _ _ (by rfl) encZ w6.heap.size (.slice A7 P.length c7) P (by rfl) (O7.out.drew.alloc _) (some ⟨w7.heap.size, 0, none⟩) 1 [x + y] (w7.heap.size + 1) (by rfl) (sl_lit w7.drew encZ [x + y] 3 _ rfl) (by have := HP.out; simp; omega) (by have := HP.out; simp [maxLen]; omega) (by simp; omega) ?_
                intro v8 w8 ho8 hg8 _ hb8 _
                obtain ⟨E8, hE8⟩ : ∃ E8, E8 = P ++ [x + y] := ⟨_, rfl⟩
                rw [← hE8] at ho8
                have HE8 := Lib.hid (show E8.length = a + 1 by rw [hE8, List.length_append, HP.out]; rfl)
                have HZ8 := Lib.hid (show E8 ++ Q = Z by rw [hE8]; exact HZ.out.symm)
                have O8 := Lib.hid ho8
                have B78 : Below w6.heap.size w7 w8 := (BD.mono s7).trans hb8
                have BB8 := Lib.hid (BB7.out.trans (B78.mono s6))
                have s8 := BB8.out.size
                obtain ⟨A8, c8, rfl, _⟩ := ho8.form
                have OL8 := Lib.hid (O3.out.below BB8.out)
                have ex := (hb8.cell (p := ⟨b3, off3 + a, none⟩) lb6).trans dx
                have ey := (hb8.cell (p := ⟨b3, off3 + (a + 1), none⟩) lb6).trans dy
                refine hK.out _ _ (fun _ _ => ⟨ex, ey⟩) ?_
                clear hK K ho8 hg8 hb8 cx cy dx dy hE8
                try simp only [Act.put, List.setIfInBounds_toArray, List.set_cons_zero, List.set_cons_succ]
                refine wpAnyN_one (i := 13) (by kernel_rfl) rfl (fun K hK => ?_)
                go_simp
                refine hK.out _ _ (fun _ _ => ⟨ex, ey⟩) ?_
                clear hK K ex ey
                try simp only [Act.put, List.setIfInBounds_toArray, List.set_cons_zero, List.set_cons_succ]
                refine wpAnyN_done (by kernel_rfl) ?_ _
                refine NoPanic.normal ?_
                have TQx := Lib.hid (sl_pick (c := c3 = a + 2) (x := some ⟨b3, off3, none⟩) TQ0.out (TQ.out w8 w8.heap.size OL8.out.sl))
                go_wp2_with ((at_builtin; refine wpList_app tyZ rfl _ _ rfl encZ w6.heap.size (.slice A8 E8.length c8) E8 rfl O8.out (pickA (c3 = a + 2) (some ⟨b3, off3, none⟩) (some ⟨b3, off3 + (a + 2), none⟩)) (c3 - (a + 2)) Q w8.heap.size ?hx TQx.out ?c1 ?c2 ?c3 ?c4))
                case hx => rw [HQ.out]; rfl
                case c1 => have := HE8.out; have := HQ.out; have := HBL.out; omega
                case c2 => have := HE8.out; have := HQ.out; have := HBL.out; simp only [maxLen]; omega
                case c3 => exact Nat.le_trans s7 B78.size
                case c4 =>
                  intro v9 w9 ho9 hg9 _ hb9 _
                  rw [HZ8.out] at ho9
                  have B69 : Below w6.heap.size w6 w9 := (B67.out.trans B78).trans hb9
                  have OZ9 := Lib.hid (O6.out.below B69).sl
                  have B9 : Below w.heap.size w w9 := B3.trans ((BB6.out.trans (B69.mono s6)).mono s3)
                  have s9 := B9.size
                  have hzl : Z.length ≤ 67108864 := by rw [HZ.out, List.length_append, List.length_append, HP.out, HQ.out, HBL.out]; simp only [List.length_singleton]; omega
                  obtain ⟨A9, c9, rfl, _⟩ := ho9.form
                  have O9 := Lib.hid ho9.sl
                  have HSm := Lib.hid (ref5_Same w9 A6 A9 c6 c9 Z OZ9.out O9.out hzl)
                  clear ho9 hg9 hb9 B69 B78
                  go_wp2_with fail
                  refine HSm.out.mono ?_
                  rintro e w10 ⟨rfl, hb10⟩
                  go_wp2_with fail
                  refine (alive19 _).mono ?_
                  rintro e w11 ⟨rfl, hb11⟩
                  go_wp2_with fail
                  go_ret
                  exact ⟨rfl, (B9.trans (hb10.mono s9)).trans (hb11.mono (Nat.le_trans s9 hb10.size))⟩
        · have hne : (binErr l es == 0) = false := by simpa using hE
          clear hE o3
          generalize binErr l es = er at hne
          go_wp2_with fail
          refine (alive19 _).mono ?_
          rintro e w4 ⟨rfl, hb4⟩
          have B4 : Below w.heap.size w w4 := Below.then_ (by repeat (first | with_reducible exact Below.refl _ _ | with_reducible assumption | ((with_reducible refine Below.setCell ?_ ?_ _); rotate_left; · (first | omega | exact Nat.le_refl _ | (simp <;> omega))) | (with_reducible refine Below.allocW ?_ _) | (with_reducible refine Below.drew ?_) | (with_reducible refine Below.extW ?_ _))) hb4
          have s4 : w.heap.size ≤ w4.heap.size := B4.size
          go_wp2_with fail
          go_ret
          exact ⟨rfl, (by repeat (first | with_reducible exact Below.refl _ _ | with_reducible assumption | ((with_reducible refine Below.setCell ?_ ?_ _); rotate_left; · (first | omega | exact Nat.le_refl _ | (simp <;> omega))) | (with_reducible refine Below.allocW ?_ _) | (with_reducible refine Below.drew ?_) | (with_reducible refine Below.extW ?_ _)))⟩
end
theorem law_BinsJoin (l k K : Int) (r : List Nd) (A : Option Addr) (cap : Nat) (es : List Int) (A2 : Option Addr) (cap2 : Nat) (at_ : Int) (W : World) (hS : Sl W W.heap.size encN A r) (hI : ints r) (_ : i64 l) (_ : i64 k) (_ : i64 K) (hm : r.length ≤ maxLen) (hS2 : Sl W W.heap.size encZ A2 es) (_ : ∀ x ∈ es, i64 x) (_ : es.length ≤ maxLen) (h1 : es.length ≤ cap2) (h2 : cap2 ≤ maxLen) (_ : (Lit.int .i64 at_).wf = true) :
    Calls Tryz.prog 9 #[loadedV l k K A r.length cap, .slice A2 es.length cap2, .int .i64 at_] W fun e W' => e = .returned (.bool true) ∧ Below W.heap.size W W' := by
  by_cases h : goodL l k K r
  · obtain ⟨n, m, rfl, rfl⟩ := goodL_nat h.2.2
    exact law_BinsJoin_yes n m k r A cap es A2 cap2 at_ W h hS hI hS2 h1 h2
  · exact law_BinsJoin_no l k K r A cap es A2 cap2 at_ W h hS hI hm
end Go.Proofs.YtbmmkhbdcaokkaaGreat
