/-
  Texts of this proof, one behind the other: Open, Load16, RankPlain, TilesLaw, FitsP, Flow, TellsA, Digits, Times, Quot, DivLaw, Div64, Part, Reach, ReachLaw, FlowRank.
-/
import Derived.Deep.CutBlock
import Derived.Deep.DeepCutAuto
import Derived.Test.YtcjnchjmpkapmaaGreatP1
import Derived.Test.YtcjnchjmpkapmaaGreatP2
/- What the laws are given: a conf, a list of nodes, and both. -/
set_option linter.unusedSimpArgs false namespace Go.Proofs.YtcjnchjmpkapmaaGreat
open Go.ChangeShapes Go.WideShapes Go.ChangeAt Go.RowKit
set_option linter.unusedVariables false
set_option maxRecDepth 100000

/-- A list of elements that comes in. -/
theorem slice_of_trod {α : Type} [Inhabited α] {size : Nat} (E : Enc α size) (ok : α → Prop) {t e : TypeId} (ht : (Tryz.prog).underlying t = some (.slice e)) (hC : (Tryz.prog).cellsOf e = size) (hs : 0 < size)
    {H : Type} {enc : TypeId × Value → H} {w : World} {base : Nat} {spare : Nat → Bool} {held : Bool} {fuel : Nat} {cs : List Value} {x : DataW H × List MemPlace}
    (el : ∀ (fuel : Nat) (cs : List Value) (x : DataW H × List MemPlace), DataW.trod enc Tryz.prog w base spare held fuel e cs = some x → ∃ o : α, cs = E.enc o ∧ ok o) (h : DataW.trod enc Tryz.prog w base spare held fuel t cs = some x) :
    ∃ (l : List α) (A : Option Addr) (cap : Nat), cs = [.slice A l.length cap] ∧ Sl w w.heap.size E A l ∧ (∀ o ∈ l, ok o) ∧ l.length ≤ maxLen := by
  rcases Deep.open_slice ht h with ⟨hcs, _⟩ | ⟨a, len, cap, m, n, D, Pl, hcs, _, hl, hm, hmm, _, hx⟩
  · exact ⟨[], none, 0, hcs, .nil, by simp, by simp⟩
  · subst hcs
    have hle : len ≤ m := by rw [hmm]; split <;> omega
    have each : ∀ i, i < len → ∃ o : α, ok o ∧ ∀ j u, (E.enc o)[j]? = some u → w.cell? (a.add (i * size + j)) = some u := by
      intro i hi
      obtain ⟨cs', hc, ht'⟩ := hx i (by omega)
      rw [hC] at hc
      obtain ⟨o, rfl, hk⟩ := el _ _ _ ht'
      obtain ⟨_, hcl, hat⟩ := World.cells?_some hc
      refine ⟨o, hk, fun j u hj => ?_⟩
      have hj6 : j < size := by have := (List.getElem?_eq_some_iff.1 hj).1; rwa [E.len] at this
      rw [← Go.Deep.add_add, hat j hj6, hj]
    obtain ⟨f, hF⟩ := Deep.choose_lt each
    refine ⟨(List.range len).map f, some a, cap, by simp, ?_, ?_, by simp; omega⟩
    · by_cases h0 : len = 0
      · subst h0; exact .inl rfl
      · obtain ⟨b, off, spot⟩ := a
        obtain ⟨u0, hu0⟩ : ∃ u, (E.enc (f 0))[0]? = some u := ⟨_, List.getElem?_eq_getElem (by rw [E.len]; exact hs)⟩
        have hc0 := (hF 0 (by omega)).2 0 _ hu0
        have hspot : spot = none := by simpa [Addr.add] using World.cell?_spot hc0
        subst hspot
        have hb : b < w.heap.size := by
          simp only [add_plain, Nat.zero_mul, Nat.add_zero] at hc0
          exact lt_of_cell hc0
        refine .inr ⟨b, off, rfl, hb, fun i x hi j u hj => ?_⟩
        have hlt : i < len := by
          have := (List.getElem?_eq_some_iff.1 hi).1
          simpa using this
        simp [hlt] at hi
        subst hi
        have := (hF i hlt).2 j u hj
        rw [add_plain, ← Nat.add_assoc] at this
        exact this
    · intro o ho
      obtain ⟨i, hi, rfl⟩ := List.mem_map.1 ho
      exact (hF i (List.mem_range.1 hi)).1
theorem i64_of_wf {n : Int} (h : (Lit.int .i64 n).wf = true) : i64 n := by
  simp only [Lit.wf, Bool.and_eq_true, decide_eq_true_eq] at h
  have hmn : IntKind.i64.min = -9223372036854775808 := by decide
  have hmx : IntKind.i64.max = 9223372036854775807 := by decide
  rw [hmn, hmx] at h
  exact h
section
variable {H : Type} {enc : TypeId × Value → H} {w : World} {base : Nat} {spare : Nat → Bool} {held : Bool} {fuel : Nat} {cs : List Value} {x : DataW H × List MemPlace}
theorem node_of_trod (h : DataW.trod enc Tryz.prog w base spare held fuel 153 cs = some x) : ∃ o : Nd, cs = encN.enc o ∧ i64 o.1 ∧ i64 o.2 := by
  obtain ⟨xs, n, _, _, hlen, hxl, hf⟩ := DataW.trod_struct Tryz.underlying153 h
  have hC : (Tryz.prog).cellsOf 153 = 2 := by kernel_rfl
  have hCi : (Tryz.prog).cellsOf 3 = 1 := by kernel_rfl
  rw [hC] at hlen
  match cs, hlen with
  | [c0, c1], _ =>
    match xs, hxl with
    | [y0, y1], _ =>
      have g0 : DataW.trod enc Tryz.prog w base spare held n 3 (([c0, c1].drop 0).take ((Tryz.prog).cellsOf 3)) = some y0 := hf 0 _ rfl
      have g1 : DataW.trod enc Tryz.prog w base spare held n 3 (([c0, c1].drop 1).take ((Tryz.prog).cellsOf 3)) = some y1 := hf 1 _ rfl
      simp only [hCi] at g0 g1
      obtain ⟨k, e0, _, k0⟩ := DataW.trod_int Tryz.underlying3 g0
      obtain ⟨i, e1, _, k1⟩ := DataW.trod_int Tryz.underlying3 g1
      simp at e0 e1
      subst e0 e1
      exact ⟨(k, i), rfl, i64_of_wf k0, i64_of_wf k1⟩
theorem conf_of_trod (h : DataW.trod enc Tryz.prog w base spare held fuel 23 cs = some x) : ∃ l k K : Int, cs = [.int .i64 l, .int .i64 k, .int .i64 K] ∧ i64 l ∧ i64 k ∧ i64 K := by
  obtain ⟨xs, n, _, _, hlen, hxl, hf⟩ := DataW.trod_struct Tryz.underlying23 h
  have hC : (Tryz.prog).cellsOf 23 = 3 := by kernel_rfl
  have hCi : (Tryz.prog).cellsOf 3 = 1 := by kernel_rfl
  rw [hC] at hlen
  match cs, hlen with
  | [c0, c1, c2], _ =>
    match xs, hxl with
    | [y0, y1, y2], _ =>
      have g0 : DataW.trod enc Tryz.prog w base spare held n 3 (([c0, c1, c2].drop 0).take ((Tryz.prog).cellsOf 3)) = some y0 := hf 0 _ rfl
      have g1 : DataW.trod enc Tryz.prog w base spare held n 3 (([c0, c1, c2].drop 1).take ((Tryz.prog).cellsOf 3)) = some y1 := hf 1 _ rfl
      have g2 : DataW.trod enc Tryz.prog w base spare held n 3 (([c0, c1, c2].drop 2).take ((Tryz.prog).cellsOf 3)) = some y2 := hf 2 _ rfl
      simp only [hCi] at g0 g1 g2
      obtain ⟨k, e0, _, k0⟩ := DataW.trod_int Tryz.underlying3 g0
      obtain ⟨i, e1, _, k1⟩ := DataW.trod_int Tryz.underlying3 g1
      obtain ⟨j, e2, _, k2⟩ := DataW.trod_int Tryz.underlying3 g2
      simp at e0 e1 e2
      subst e0 e1 e2
      exact ⟨k, i, j, rfl, i64_of_wf k0, i64_of_wf k1, i64_of_wf k2⟩
theorem nodes_of_trod (h : DataW.trod enc Tryz.prog w base spare held fuel 46 cs = some x) : ∃ (l : List Nd) (A : Option Addr) (cap : Nat), cs = [.slice A l.length cap] ∧ Sl w w.heap.size encN A l ∧ ints l ∧ l.length ≤ maxLen := by
  obtain ⟨l, A, cap, h1, h2, h3, h4⟩ := slice_of_trod encN (fun o => i64 o.1 ∧ i64 o.2) Tryz.underlying46 (by kernel_rfl) (by decide) (fun _ _ _ h => node_of_trod h) h
  exact ⟨l, A, cap, h1, h2, h3, h4⟩
theorem loaded_of_trod (h : DataW.trod enc Tryz.prog w base spare held fuel 48 cs = some x) :
    ∃ (l k K : Int) (r : List Nd) (A : Option Addr) (cap : Nat), cs = [.int .i64 l, .int .i64 k, .int .i64 K, .slice A r.length cap] ∧ Sl w w.heap.size encN A r ∧ ints r ∧ i64 l ∧ i64 k ∧ i64 K ∧ r.length ≤ maxLen := by
  obtain ⟨xs, n, _, _, hlen, hxl, hf⟩ := DataW.trod_struct Tryz.underlying48 h
  have hC : (Tryz.prog).cellsOf 48 = 4 := by kernel_rfl
  have hCi : (Tryz.prog).cellsOf 23 = 3 := by kernel_rfl
  have hCs : (Tryz.prog).cellsOf 46 = 1 := by kernel_rfl
  rw [hC] at hlen
  match cs, hlen with
  | [c0, c1, c2, c3], _ =>
    match xs, hxl with
    | [y0, y1], _ =>
      have g0 : DataW.trod enc Tryz.prog w base spare held n 23 (([c0, c1, c2, c3].drop 0).take ((Tryz.prog).cellsOf 23)) = some y0 := hf 0 _ rfl
      have g1 : DataW.trod enc Tryz.prog w base spare held n 46 (([c0, c1, c2, c3].drop 3).take ((Tryz.prog).cellsOf 46)) = some y1 := hf 1 _ rfl
      rw [hCi] at g0
      rw [hCs] at g1
      obtain ⟨l, k, K, e0, w0, w1, w2⟩ := conf_of_trod g0
      obtain ⟨r, A, cap, e1, hS, hI, hm⟩ := nodes_of_trod g1
      simp at e0 e1
      obtain ⟨rfl, rfl, rfl⟩ := e0
      subst e1
      exact ⟨l, k, K, r, A, cap, rfl, hS, hI, w0, w1, w2, hm⟩
end
/-- A conf and nodes, by value. -/
def loadedV (l k K : Int) (A : Option Addr) (n cap : Nat) : Value := .agg #[.int .i64 l, .int .i64 k, .int .i64 K, .slice A n cap]
theorem open_Loaded {H : Type} {enc : TypeId × Value → H} {w : World} {base : Nat} {spare : Nat → Bool} {held : Bool} {r : Reach} {b0 : Nat} {v : Value} {d : DataW H} {p : List MemPlace}
    (hv : Value.okWide Tryz.prog w r b0 48 v) (h : DataW.Trod enc Tryz.prog w base spare held 48 v d p) :
    ∃ (l k K : Int) (r : List Nd) (A : Option Addr) (cap : Nat), v = loadedV l k K A r.length cap ∧ Sl w w.heap.size encN A r ∧ ints r ∧ i64 l ∧ i64 k ∧ i64 K ∧ r.length ≤ maxLen := by
  obtain ⟨cs, rfl, hsz⟩ := okWide_struct Tryz.underlying48 hv
  obtain ⟨fuel, hf⟩ := h
  obtain ⟨l, k, K, r, A, cap, hc, rest⟩ := loaded_of_trod hf
  refine ⟨l, k, K, r, A, cap, ?_, rest⟩
  obtain ⟨c⟩ := cs
  have : c = [.int .i64 l, .int .i64 k, .int .i64 K, .slice A r.length cap] := by simpa [Value.cells] using hc
  subst this
  rfl
end Go.Proofs.YtcjnchjmpkapmaaGreat
/- Chapter 16: a digest out of a conf and nodes; the chapter's example. -/
namespace Go.Proofs.YtcjnchjmpkapmaaGreat
open Go.ChangeShapes Go.WideShapes Go.ChangeAt Go.RowKit
set_option linter.unusedVariables false
set_option maxRecDepth 100000

theorem DigAt.set {w : World} {g K l : Nat} {k : Int} {r : List Nd} {F : Nat → Prop} {q o : Nat} {u : Value} (h : DigAt w g K l k r F) (hp : ∀ b, F b → b ≠ q) : DigAt (w.setCell ⟨q, o, none⟩ u) g K l k r F := h.keep fun b hb => Below.heap_setCell _ _ _ _ (hp b hb)
theorem DigAt.alloc {w : World} {g K l : Nat} {k : Int} {r : List Nd} {F : Nat → Prop} (h : DigAt w g K l k r F) (o : Obj) : DigAt (w.alloc o) g K l k r F := h.below ((Below.refl _ _).alloc (Nat.le_refl _) o)
theorem DigAt.drew {w : World} {g K l : Nat} {k : Int} {r : List Nd} {F : Nat → Prop} (h : DigAt w g K l k r F) : DigAt w.drew g K l k r F := h.keep fun b hb => rfl
/-- There is such a digest, and it isn't too big. -/
def goodL (l k K : Int) (r : List Nd) : Prop := r.length ≤ 150 ∧ ¬ (K = 1 ∧ 10 < l) ∧ loadErr l k K r = 0
theorem goodL_dig {l k K : Int} {r : List Nd} (h : loadErr l k K r = 0) : isDig l k K = true := by
  cases hd : isDig l k K
  · simp only [loadErr] at h; rw [if_pos hd] at h; cases h
  · rfl
theorem goodL_nat {l k K : Int} {r : List Nd} (h : loadErr l k K r = 0) : ∃ n m : Nat, l = n ∧ K = m := by
  have hd := goodL_dig h
  simp only [isDig, isPool, Bool.and_eq_true, decide_eq_true_eq] at hd
  obtain ⟨n, rfl⟩ := Int.eq_ofNat_of_zero_le (show 0 ≤ l by omega)
  obtain ⟨m, rfl⟩ := Int.eq_ofNat_of_zero_le (show 0 ≤ K by omega)
  exact ⟨n, m, rfl, rfl⟩
theorem goodL_parts {l k K : Int} {r : List Nd} (h : loadErr l k K r = 0) : rightOf l r = true ∧ ¬ 8 * k < r.length ∧ lightOf l r k = true := by
  have hd := goodL_dig h
  have hr : rightOf l r = true := by
    cases hr : rightOf l r
    · simp only [loadErr] at h; rw [if_neg (by simp [hd]), if_pos hr] at h; cases h
    · rfl
  have h8 : ¬ 8 * k < r.length := by
    intro h8
    simp only [loadErr] at h
    rw [if_neg (by simp [hd]), if_neg (by simp [hr]), if_pos h8] at h
    cases h
  refine ⟨hr, h8, ?_⟩
  cases hl : lightOf l r k
  · simp only [loadErr] at h; rw [if_neg (by simp [hd]), if_neg (by simp [hr]), if_neg h8, if_pos hl] at h; cases h
  · rfl
theorem law16_Load_no (w : World) (l k K : Int) (A : Option Addr) (cap : Nat) (r : List Nd) (h : ¬ goodL l k K r) (hS : Sl w w.heap.size encN A r) (hI : ints r) (hm : r.length ≤ maxLen) :
    Calls Tryz.prog 25 #[loadedV l k K A r.length cap] w fun e w' => e = .returned (.tuple #[.pointer none, refDig 0 0 none 0 0]) ∧ Below w.heap.size w w' := by
  unfold loadedV refDig
  unfold maxLen at hm
  by_cases h1 : 150 < r.length
  · have h1' : (150 : Int) < (r.length : Int) := by omega
    clear h hS
    go_enter Tryz.func25, Tryz.ntmps25
    go_wp2_with fail
    exact bodyPost_ret (v := .tuple #[.pointer none, .agg #[.int .i64 0, .int .i64 0, .slice none 0 0]]) (by simp only [results, Tryz.results25]; go_simp) rfl ⟨rfl, (by repeat (first | with_reducible exact Below.refl _ _ | with_reducible assumption | ((with_reducible refine Below.setCell ?_ ?_ _); rotate_left; · (first | omega | exact Nat.le_refl _ | (simp <;> omega))) | (with_reducible refine Below.allocW ?_ _) | (with_reducible refine Below.drew ?_) | (with_reducible refine Below.extW ?_ _)))⟩
  · have h1' : ¬ (150 : Int) < (r.length : Int) := by omega
    by_cases h2 : K = 1 ∧ 10 < l
    · obtain ⟨rfl, h2⟩ := h2
      clear h hS
      go_enter Tryz.func25, Tryz.ntmps25
      go_wp2_with fail
      exact bodyPost_ret (v := .tuple #[.pointer none, .agg #[.int .i64 0, .int .i64 0, .slice none 0 0]]) (by simp only [results, Tryz.results25]; go_simp) rfl ⟨rfl, (by repeat (first | with_reducible exact Below.refl _ _ | with_reducible assumption | ((with_reducible refine Below.setCell ?_ ?_ _); rotate_left; · (first | omega | exact Nat.le_refl _ | (simp <;> omega))) | (with_reducible refine Below.allocW ?_ _) | (with_reducible refine Below.drew ?_) | (with_reducible refine Below.extW ?_ _)))⟩
    · have he : loadErr l k K r ≠ 0 := fun he => h ⟨by omega, h2, he⟩
      have HC := Lib.hid (digest_Load_no · l k K A cap r he · hI (by omega))
      have HS := Lib.hid hS
      have he' : (loadErr l k K r == 0) = false := by simpa using he
      generalize loadErr l k K r = er at HC he he'
      clear h hS hI
      by_cases h3 : K = 1
      · subst h3
        have h4 : ¬ 10 < l := fun h4 => h2 ⟨rfl, h4⟩
        clear h2
        go_enter Tryz.func25, Tryz.ntmps25
        go_wp2_with fail
        refine (HC.out _ (HS.out.keep (by simp; omega) fun p hp => Go.RowKit.Below.cell (B := w.heap.size) (w := w) (by repeat (first | with_reducible exact Below.refl _ _ | with_reducible assumption | ((with_reducible refine Below.setCell ?_ ?_ _); rotate_left; · (first | omega | exact Nat.le_refl _ | (simp <;> omega))) | (with_reducible refine Below.allocW ?_ _) | (with_reducible refine Below.drew ?_) | (with_reducible refine Below.extW ?_ _))) hp)).mono ?_
        rintro e w1 ⟨rfl, hb1⟩
        have B1 : Below w.heap.size w w1 := Below.then_ (by repeat (first | with_reducible exact Below.refl _ _ | with_reducible assumption | ((with_reducible refine Below.setCell ?_ ?_ _); rotate_left; · (first | omega | exact Nat.le_refl _ | (simp <;> omega))) | (with_reducible refine Below.allocW ?_ _) | (with_reducible refine Below.drew ?_) | (with_reducible refine Below.extW ?_ _))) hb1
        have s1 : w.heap.size ≤ w1.heap.size := B1.size
        have z1_0 : w.heap.size < w1.heap.size := by have := hb1.size; (try simp at this); omega
        have y1_0 : w.heap.size ≤ w1.heap.size := Nat.le_of_lt z1_0
        have c1_0 := fun o => hb1.cell (p := ⟨w.heap.size, o, none⟩) (by first | omega | (simp <;> omega))
        have f1_0 := fun o => hb1.frozen (p := ⟨w.heap.size, o, none⟩) (by first | omega | (simp <;> omega))
        have z1_1 : w.heap.size + 1 < w1.heap.size := by have := hb1.size; (try simp at this); omega
        have y1_1 : w.heap.size + 1 ≤ w1.heap.size := Nat.le_of_lt z1_1
        have c1_1 := fun o => hb1.cell (p := ⟨w.heap.size + 1, o, none⟩) (by first | omega | (simp <;> omega))
        have f1_1 := fun o => hb1.frozen (p := ⟨w.heap.size + 1, o, none⟩) (by first | omega | (simp <;> omega))
        go_wp2_with fail
        exact bodyPost_ret (v := .tuple #[.pointer none, .agg #[.int .i64 0, .int .i64 0, .slice none 0 0]]) (by simp only [results, Tryz.results25]; go_simp) rfl ⟨rfl, (by repeat (first | with_reducible exact Below.refl _ _ | with_reducible assumption | ((with_reducible refine Below.setCell ?_ ?_ _); rotate_left; · (first | omega | exact Nat.le_refl _ | (simp <;> omega))) | (with_reducible refine Below.allocW ?_ _) | (with_reducible refine Below.drew ?_) | (with_reducible refine Below.extW ?_ _)))⟩
      · have h4 : (K == 1) = false := by simpa using h3
        clear h2
        go_enter Tryz.func25, Tryz.ntmps25
        go_wp2_with fail
        refine (HC.out _ (HS.out.keep (by simp; omega) fun p hp => Go.RowKit.Below.cell (B := w.heap.size) (w := w) (by repeat (first | with_reducible exact Below.refl _ _ | with_reducible assumption | ((with_reducible refine Below.setCell ?_ ?_ _); rotate_left; · (first | omega | exact Nat.le_refl _ | (simp <;> omega))) | (with_reducible refine Below.allocW ?_ _) | (with_reducible refine Below.drew ?_) | (with_reducible refine Below.extW ?_ _))) hp)).mono ?_
        rintro e w1 ⟨rfl, hb1⟩
        have B1 : Below w.heap.size w w1 := Below.then_ (by repeat (first | with_reducible exact Below.refl _ _ | with_reducible assumption | ((with_reducible refine Below.setCell ?_ ?_ _); rotate_left; · (first | omega | exact Nat.le_refl _ | (simp <;> omega))) | (with_reducible refine Below.allocW ?_ _) | (with_reducible refine Below.drew ?_) | (with_reducible refine Below.extW ?_ _))) hb1
        have s1 : w.heap.size ≤ w1.heap.size := B1.size
        have z1_0 : w.heap.size < w1.heap.size := by have := hb1.size; (try simp at this); omega
        have y1_0 : w.heap.size ≤ w1.heap.size := Nat.le_of_lt z1_0
        have c1_0 := fun o => hb1.cell (p := ⟨w.heap.size, o, none⟩) (by first | omega | (simp <;> omega))
        have f1_0 := fun o => hb1.frozen (p := ⟨w.heap.size, o, none⟩) (by first | omega | (simp <;> omega))
        have z1_1 : w.heap.size + 1 < w1.heap.size := by have := hb1.size; (try simp at this); omega
        have y1_1 : w.heap.size + 1 ≤ w1.heap.size := Nat.le_of_lt z1_1
        have c1_1 := fun o => hb1.cell (p := ⟨w.heap.size + 1, o, none⟩) (by first | omega | (simp <;> omega))
        have f1_1 := fun o => hb1.frozen (p := ⟨w.heap.size + 1, o, none⟩) (by first | omega | (simp <;> omega))
        go_wp2_with fail
        exact bodyPost_ret (v := .tuple #[.pointer none, .agg #[.int .i64 0, .int .i64 0, .slice none 0 0]]) (by simp only [results, Tryz.results25]; go_simp) rfl ⟨rfl, (by repeat (first | with_reducible exact Below.refl _ _ | with_reducible assumption | ((with_reducible refine Below.setCell ?_ ?_ _); rotate_left; · (first | omega | exact Nat.le_refl _ | (simp <;> omega))) | (with_reducible refine Below.allocW ?_ _) | (with_reducible refine Below.drew ?_) | (with_reducible refine Below.extW ?_ _)))⟩
/-- What Load hands back. -/
def LPost (K l : Nat) (k : Int) (r : List Nd) (d : Value) (w : World) (e : Ending) (w' : World) : Prop := ∃ g F, e = .returned (.tuple #[.pointer (some ⟨g, 0, none⟩), d]) ∧ DigAt w' g K l k r F ∧ (∀ b, F b → w.heap.size ≤ b) ∧ Below w.heap.size w w'
set_option maxHeartbeats 2000000 in
theorem law16_Load (w : World) (l K : Nat) (k : Int) (A : Option Addr) (cap : Nat) (r : List Nd) (h : goodL l k K r) (hS : Sl w w.heap.size encN A r) (hI : ints r) :
    Calls Tryz.prog 25 #[loadedV l k K A r.length cap] w (LPost K l k r (refDig k l A r.length cap) w) := by
  unfold loadedV refDig
  obtain ⟨h1, h2, h3⟩ := h
  have h1' : ¬ (150 : Int) < (r.length : Int) := by omega
  have HC := Lib.hid (digest_Load · l K k A cap r h3 · hI (by omega))
  have HS := Lib.hid hS
  have hp := goodL_parts h3
  have HR : Hid (∀ W, Sl W W.heap.size encN A r → Calls Tryz.prog 99 #[.agg #[.int .i64 l, .int .i64 k, .int .i64 K], .slice A r.length cap] W fun e w' => e = .returned (.tuple #[.agg #[.int .i64 k, .int .i64 l, .slice A r.length cap], .int .i64 0]) ∧ Below W.heap.size W w') := Lib.hid fun W hW => by
    have := ref13_Load_l W l k K A cap r (goodL_dig h3) hp.1 hp.2.1 hW hI (by omega)
    rw [hp.2.2] at this
    exact this
  clear hS hI h3 hp
  by_cases h3 : K = 1
  · subst h3
    have h4 : ¬ (10 : Int) < (l : Int) := fun h4 => h2 ⟨rfl, h4⟩
    clear h2
    go_enter Tryz.func25, Tryz.ntmps25
    go_wp2_with fail
    refine (HC.out _ (HS.out.keep (by simp; omega) fun p hp => Go.RowKit.Below.cell (B := w.heap.size) (w := w) (by repeat (first | with_reducible exact Below.refl _ _ | with_reducible assumption | ((with_reducible refine Below.setCell ?_ ?_ _); rotate_left; · (first | omega | exact Nat.le_refl _ | (simp <;> omega))) | (with_reducible refine Below.allocW ?_ _) | (with_reducible refine Below.drew ?_) | (with_reducible refine Below.extW ?_ _))) hp)).mono ?_
    rintro e w1 ⟨g, F, rfl, hD, hF, hb1⟩
    have B1 : Below w.heap.size w w1 := Below.then_ (by repeat (first | with_reducible exact Below.refl _ _ | with_reducible assumption | ((with_reducible refine Below.setCell ?_ ?_ _); rotate_left; · (first | omega | exact Nat.le_refl _ | (simp <;> omega))) | (with_reducible refine Below.allocW ?_ _) | (with_reducible refine Below.drew ?_) | (with_reducible refine Below.extW ?_ _))) hb1
    have s1 : w.heap.size ≤ w1.heap.size := B1.size
    have z1_0 : w.heap.size < w1.heap.size := by have := hb1.size; (try simp at this); omega
    have y1_0 : w.heap.size ≤ w1.heap.size := Nat.le_of_lt z1_0
    have c1_0 := fun o => hb1.cell (p := ⟨w.heap.size, o, none⟩) (by first | omega | (simp <;> omega))
    have f1_0 := fun o => hb1.frozen (p := ⟨w.heap.size, o, none⟩) (by first | omega | (simp <;> omega))
    have z1_1 : w.heap.size + 1 < w1.heap.size := by have := hb1.size; (try simp at this); omega
    have y1_1 : w.heap.size + 1 ≤ w1.heap.size := Nat.le_of_lt z1_1
    have c1_1 := fun o => hb1.cell (p := ⟨w.heap.size + 1, o, none⟩) (by first | omega | (simp <;> omega))
    have f1_1 := fun o => hb1.frozen (p := ⟨w.heap.size + 1, o, none⟩) (by first | omega | (simp <;> omega))
    have KD := Lib.hid hD
    simp only [World.size_alloc] at hF
    have KF := Lib.hid hF
    clear hD hF
    go_wp2_with fail
    refine (HR.out _ (HS.out.keep s1 fun p hp => B1.cell hp)).mono ?_
    rintro e w2 ⟨rfl, hb2⟩
    have B2 : Below w.heap.size w w2 := Below.then_ (by repeat (first | with_reducible exact Below.refl _ _ | with_reducible assumption | ((with_reducible refine Below.setCell ?_ ?_ _); rotate_left; · (first | omega | exact Nat.le_refl _ | (simp <;> omega))) | (with_reducible refine Below.allocW ?_ _) | (with_reducible refine Below.drew ?_) | (with_reducible refine Below.extW ?_ _))) hb2
    have s2 : w.heap.size ≤ w2.heap.size := B2.size
    have z2_0 : w.heap.size < w2.heap.size := by have := hb2.size; (try simp at this); omega
    have y2_0 : w.heap.size ≤ w2.heap.size := Nat.le_of_lt z2_0
    have c2_0 := fun o => hb2.cell (p := ⟨w.heap.size, o, none⟩) (by first | omega | (simp <;> omega))
    have f2_0 := fun o => hb2.frozen (p := ⟨w.heap.size, o, none⟩) (by first | omega | (simp <;> omega))
    have z2_1 : w.heap.size + 1 < w2.heap.size := by have := hb2.size; (try simp at this); omega
    have y2_1 : w.heap.size + 1 ≤ w2.heap.size := Nat.le_of_lt z2_1
    have c2_1 := fun o => hb2.cell (p := ⟨w.heap.size + 1, o, none⟩) (by first | omega | (simp <;> omega))
    have f2_1 := fun o => hb2.frozen (p := ⟨w.heap.size + 1, o, none⟩) (by first | omega | (simp <;> omega))
    have KD2 := Lib.hid (KD.out.below hb2)
    go_wp2_with fail
    go_region
    go_wp2_with fail
    refine bodyPost_ret (v := .tuple #[.pointer (some ⟨g, 0, none⟩), .agg #[.int .i64 k, .int .i64 l, .slice A r.length cap]]) (by simp only [results, Tryz.results25]; go_simp) rfl ⟨g, F, rfl, ?_, fun b hb => by have := KF.out b hb; omega, (by repeat (first | with_reducible exact Below.refl _ _ | with_reducible assumption | ((with_reducible refine Below.setCell ?_ ?_ _); rotate_left; · (first | omega | exact Nat.le_refl _ | (simp <;> omega))) | (with_reducible refine Below.allocW ?_ _) | (with_reducible refine Below.drew ?_) | (with_reducible refine Below.extW ?_ _)))⟩
    have hne : ∀ b, F b → b ≠ w.heap.size + 1 := fun b hb => by have := KF.out b hb; omega
    exact ((((KD2.out.set hne).set hne).set hne).alloc _).drew
  · have h4 : ((K : Int) == 1) = false := by simpa using (fun h => h3 (by omega))
    clear h2
    go_enter Tryz.func25, Tryz.ntmps25
    go_wp2_with fail
    refine (HC.out _ (HS.out.keep (by simp; omega) fun p hp => Go.RowKit.Below.cell (B := w.heap.size) (w := w) (by repeat (first | with_reducible exact Below.refl _ _ | with_reducible assumption | ((with_reducible refine Below.setCell ?_ ?_ _); rotate_left; · (first | omega | exact Nat.le_refl _ | (simp <;> omega))) | (with_reducible refine Below.allocW ?_ _) | (with_reducible refine Below.drew ?_) | (with_reducible refine Below.extW ?_ _))) hp)).mono ?_
    rintro e w1 ⟨g, F, rfl, hD, hF, hb1⟩
    have B1 : Below w.heap.size w w1 := Below.then_ (by repeat (first | with_reducible exact Below.refl _ _ | with_reducible assumption | ((with_reducible refine Below.setCell ?_ ?_ _); rotate_left; · (first | omega | exact Nat.le_refl _ | (simp <;> omega))) | (with_reducible refine Below.allocW ?_ _) | (with_reducible refine Below.drew ?_) | (with_reducible refine Below.extW ?_ _))) hb1
    have s1 : w.heap.size ≤ w1.heap.size := B1.size
    have z1_0 : w.heap.size < w1.heap.size := by have := hb1.size; (try simp at this); omega
    have y1_0 : w.heap.size ≤ w1.heap.size := Nat.le_of_lt z1_0
    have c1_0 := fun o => hb1.cell (p := ⟨w.heap.size, o, none⟩) (by first | omega | (simp <;> omega))
    have f1_0 := fun o => hb1.frozen (p := ⟨w.heap.size, o, none⟩) (by first | omega | (simp <;> omega))
    have z1_1 : w.heap.size + 1 < w1.heap.size := by have := hb1.size; (try simp at this); omega
    have y1_1 : w.heap.size + 1 ≤ w1.heap.size := Nat.le_of_lt z1_1
    have c1_1 := fun o => hb1.cell (p := ⟨w.heap.size + 1, o, none⟩) (by first | omega | (simp <;> omega))
    have f1_1 := fun o => hb1.frozen (p := ⟨w.heap.size + 1, o, none⟩) (by first | omega | (simp <;> omega))
    have KD := Lib.hid hD
    simp only [World.size_alloc] at hF
    have KF := Lib.hid hF
    clear hD hF
    go_wp2_with fail
    refine (HR.out _ (HS.out.keep s1 fun p hp => B1.cell hp)).mono ?_
    rintro e w2 ⟨rfl, hb2⟩
    have B2 : Below w.heap.size w w2 := Below.then_ (by repeat (first | with_reducible exact Below.refl _ _ | with_reducible assumption | ((with_reducible refine Below.setCell ?_ ?_ _); rotate_left; · (first | omega | exact Nat.le_refl _ | (simp <;> omega))) | (with_reducible refine Below.allocW ?_ _) | (with_reducible refine Below.drew ?_) | (with_reducible refine Below.extW ?_ _))) hb2
    have s2 : w.heap.size ≤ w2.heap.size := B2.size
    have z2_0 : w.heap.size < w2.heap.size := by have := hb2.size; (try simp at this); omega
    have y2_0 : w.heap.size ≤ w2.heap.size := Nat.le_of_lt z2_0
    have c2_0 := fun o => hb2.cell (p := ⟨w.heap.size, o, none⟩) (by first | omega | (simp <;> omega))
    have f2_0 := fun o => hb2.frozen (p := ⟨w.heap.size, o, none⟩) (by first | omega | (simp <;> omega))
    have z2_1 : w.heap.size + 1 < w2.heap.size := by have := hb2.size; (try simp at this); omega
    have y2_1 : w.heap.size + 1 ≤ w2.heap.size := Nat.le_of_lt z2_1
    have c2_1 := fun o => hb2.cell (p := ⟨w.heap.size + 1, o, none⟩) (by first | omega | (simp <;> omega))
    have f2_1 := fun o => hb2.frozen (p := ⟨w.heap.size + 1, o, none⟩) (by first | omega | (simp <;> omega))
    have KD2 := Lib.hid (KD.out.below hb2)
    go_wp2_with fail
    go_region
    go_wp2_with fail
    refine bodyPost_ret (v := .tuple #[.pointer (some ⟨g, 0, none⟩), .agg #[.int .i64 k, .int .i64 l, .slice A r.length cap]]) (by simp only [results, Tryz.results25]; go_simp) rfl ⟨g, F, rfl, ?_, fun b hb => by have := KF.out b hb; omega, (by repeat (first | with_reducible exact Below.refl _ _ | with_reducible assumption | ((with_reducible refine Below.setCell ?_ ?_ _); rotate_left; · (first | omega | exact Nat.le_refl _ | (simp <;> omega))) | (with_reducible refine Below.allocW ?_ _) | (with_reducible refine Below.drew ?_) | (with_reducible refine Below.extW ?_ _)))⟩
    have hne : ∀ b, F b → b ≠ w.heap.size + 1 := fun b hb => by have := KF.out b hb; omega
    exact ((((KD2.out.set hne).set hne).set hne).alloc _).drew

/-- The chapter's digest. -/
def nodes16 : List Nd := [(1, 1), (4, 2), (7, 3)]
theorem nodes16_ints : ints nodes16 := by
  intro x hx
  simp only [nodes16, List.mem_cons, List.not_mem_nil, or_false] at hx
  rcases hx with rfl | rfl | rfl <;> (unfold i64; simp)
theorem load16 : loadErr 2 4 2 nodes16 = 0 := by decide +kernel
theorem low16_0 : lowOf ((2 : Nat) : Int) nodes16 0 = 2 := by decide +kernel
theorem high16_0 : highOf ((2 : Nat) : Int) nodes16 0 = 3 := by decide +kernel
theorem low16_2 : lowOf ((2 : Nat) : Int) nodes16 2 = 2 := by decide +kernel
theorem low16_3 : lowOf ((2 : Nat) : Int) nodes16 3 = 6 := by decide +kernel
end Go.Proofs.YtcjnchjmpkapmaaGreat
/- Chapter 16: plain laws of what weighs up to a number. -/
namespace Go.Proofs.YtcjnchjmpkapmaaGreat
open Go.ChangeShapes Go.WideShapes Go.ChangeAt Go.RowKit
set_option linter.unusedVariables false
set_option maxRecDepth 100000

theorem weighR_mono {l : Int} {f g : Int → Int → Bool} {r : List Nd} (h : Roll r) (hfg : ∀ x ∈ r, f (endsOf l x.1).1 (endsOf l x.1).2.1 = true → g (endsOf l x.1).1 (endsOf l x.1).2.1 = true) : weighR l f r ≤ weighR l g r := by
  induction r with
  | nil => simp [weighR]
  | cons x r ih =>
    have hx := h.2 x (by simp)
    have h1 := hfg x (by simp)
    have h2 := ih h.tail fun y hy => hfg y (by simp [hy])
    simp only [weighR]
    by_cases hf : f (endsOf l x.1).1 (endsOf l x.1).2.1 = true
    · rw [if_pos hf, if_pos (h1 hf)]; omega
    · rw [if_neg hf]; split <;> omega
theorem weighR_all {l : Int} {f : Int → Int → Bool} {r : List Nd} (h : ∀ x ∈ r, f (endsOf l x.1).1 (endsOf l x.1).2.1 = true) : weighR l f r = sumR r := by
  induction r with
  | nil => rfl
  | cons x r ih =>
    simp only [weighR, sumR]
    rw [if_pos (h x (by simp)), ih fun y hy => h y (by simp [hy])]
theorem weighR_none {l : Int} {f : Int → Int → Bool} {r : List Nd} (h : ∀ x ∈ r, f (endsOf l x.1).1 (endsOf l x.1).2.1 = false) : weighR l f r = 0 := by
  induction r with
  | nil => rfl
  | cons x r ih =>
    simp only [weighR]
    rw [if_neg (by rw [h x (by simp)]; simp), ih fun y hy => h y (by simp [hy])]; rfl
/-- The ends of a node are values of the universe, the first one is not above the last one. -/
theorem ends_bounds {l : Nat} {id : Int} (h : isNode l id = true) : 0 ≤ (endsOf l id).1 ∧ (endsOf l id).1 ≤ (endsOf l id).2.1 ∧ (endsOf l id).2.1 ≤ 2 ^ l - 1 := by
  obtain ⟨n, x, hn, rfl, hn1, hn2, hx1, hx2⟩ := isNode_nat h
  obtain rfl : n = l := by omega
  obtain ⟨d, b, t, hd, hb, hdb, hxt, htd, hprod⟩ := node_facts hn2 hx1 hx2
  have e1 : endsOf n x = ((t : Int) * 2 ^ b, (t : Int) * 2 ^ b + 2 ^ b - 1, true) := by
    simp only [endsOf, h, if_true, Int.toNat_natCast, hd, hb]
    have : (x : Int) - 2 ^ d = t := by rw [hxt]; push_cast; omega
    rw [this]
  rw [e1]
  have q3 := pow_pos' b
  have q8 : (t : Int) * 2 ^ b + 2 ^ b ≤ 2 ^ n := by
    have h : (((t + 1) * 2 ^ b : Nat) : Int) ≤ ((2 ^ n : Nat) : Int) := by exact_mod_cast hprod
    push_cast at h
    rw [Int.add_mul, Int.one_mul] at h
    exact h
  have q9 : 0 ≤ (t : Int) * 2 ^ b := Int.mul_nonneg (by omega) (by omega)
  simp only
  omega
theorem right_node {l : Int} {r : List Nd} (h : rightOf l r = true) : ∀ x ∈ r, isNode l x.1 = true := by
  simp only [rightOf, Bool.and_eq_true] at h
  intro x hx
  exact ((rises_roll h.1.1).1 x hx).2.1
theorem low_le {l : Int} {r : List Nd} (h : Roll r) {a b : Int} (hab : a ≤ b) : lowOf l r a ≤ lowOf l r b := weighR_mono h fun x _ hx => by simp at hx ⊢; omega
theorem high_le {l : Int} {r : List Nd} (h : Roll r) {a b : Int} (hab : a ≤ b) : highOf l r a ≤ highOf l r b := weighR_mono h fun x _ hx => by simp at hx ⊢; omega
theorem low_high {l : Nat} {r : List Nd} (h : Roll r) (hr : rightOf l r = true) (a : Int) : lowOf l r a ≤ highOf l r a := weighR_mono h fun x hx h1 => by
  have := ends_bounds (right_node hr x hx)
  simp at h1 ⊢; omega
theorem low_top {l : Nat} {r : List Nd} (hr : rightOf l r = true) {a : Int} (ha : 2 ^ l - 1 ≤ a) : lowOf l r a = sumR r := weighR_all fun x hx => by
  have := ends_bounds (right_node hr x hx)
  simp; omega
theorem high_top {l : Nat} {r : List Nd} (hr : rightOf l r = true) {a : Int} (ha : 2 ^ l - 1 ≤ a) : highOf l r a = sumR r := weighR_all fun x hx => by
  have := ends_bounds (right_node hr x hx)
  simp; omega
theorem low_zero {l : Nat} {r : List Nd} (hr : rightOf l r = true) {a : Int} (ha : a < 0) : lowOf l r a = 0 := weighR_none fun x hx => by
  have := ends_bounds (right_node hr x hx)
  simp; omega
theorem high_zero {l : Nat} {r : List Nd} (hr : rightOf l r = true) {a : Int} (ha : a < 0) : highOf l r a = 0 := weighR_none fun x hx => by
  have := ends_bounds (right_node hr x hx)
  simp; omega

end Go.Proofs.YtcjnchjmpkapmaaGreat
/- Tiles: nodes and what they hold: plain laws. -/
namespace Go.Proofs.YtcjnchjmpkapmaaGreat
open Go.ChangeShapes Go.WideShapes Go.ChangeAt Go.RowKit
set_option linter.unusedVariables false

/-- The first and the last value that a node holds. -/
def loN (l : Nat) (x : Int) : Int := (endsOf l x).1
def hiN (l : Nat) (x : Int) : Int := (endsOf l x).2.1
/-- Is one above another one, or the same? -/
def abv (p q : Int) : Bool := decide (1 ≤ p ∧ 1 ≤ q ∧ p.toNat.log2 ≤ q.toNat.log2 ∧ q.toNat / 2 ^ (q.toNat.log2 - p.toNat.log2) = p.toNat)
theorem node_shape {l : Nat} {id : Int} (h : isNode l id = true) : ∃ d b t : Nat, d + b = l ∧ id = ((2 ^ d + t : Nat) : Int) ∧ t < 2 ^ d ∧ (2 ^ d + t).log2 = d ∧ loN l id = (t : Int) * 2 ^ b ∧ hiN l id = (t : Int) * 2 ^ b + 2 ^ b - 1 := by
  obtain ⟨n, x, hn, rfl, hn1, hn2, hx1, hx2⟩ := isNode_nat h
  obtain rfl : n = l := by omega
  obtain ⟨d, b, t, hd, hb, hdb, hxt, htd, hprod⟩ := node_facts hn2 hx1 hx2
  have e1 : endsOf n x = ((t : Int) * 2 ^ b, (t : Int) * 2 ^ b + 2 ^ b - 1, true) := by
    simp only [endsOf, h, if_true, Int.toNat_natCast, hd, hb]
    have : (x : Int) - 2 ^ d = t := by rw [hxt]; push_cast; omega
    rw [this]
  exact ⟨d, b, t, hdb, by rw [hxt], htd, by rw [← hxt]; exact hd, by unfold loN; rw [e1], by unfold hiN; rw [e1]⟩
theorem log2_shape {d t : Nat} (h : t < 2 ^ d) : (2 ^ d + t).log2 = d := by
  rw [Nat.log2_eq_iff (by have := Nat.two_pow_pos d; omega)]
  rw [Nat.pow_succ]; omega
theorem node_of_shape {l d b t : Nat} (hl : 1 ≤ l ∧ l ≤ 48) (hdb : d + b = l) (ht : t < 2 ^ d) : isNode l ((2 ^ d + t : Nat) : Int) = true := by
  have h1 := Nat.two_pow_pos d
  have h2 : (2 : Nat) ^ d ≤ 2 ^ l := Nat.pow_le_pow_right (by decide) (by omega)
  have h3 : ((2 ^ l : Nat) : Int) = 2 ^ l := by simp
  simp only [isNode, decide_eq_true_eq, Int.toNat_natCast]
  omega
section
variable {l : Nat} {p q : Int}
/-- Two nodes: one is above the other one just if it holds what that does; and if both hold a value, one is above the other one. -/
theorem lam_core {d k c t u : Nat} : ((t : Int) * 2 ^ (k + c) < (u : Int) * 2 ^ c + 2 ^ c ↔ t * 2 ^ k ≤ u) ∧ ((u : Int) * 2 ^ c < (t : Int) * 2 ^ (k + c) + 2 ^ (k + c) ↔ u < (t + 1) * 2 ^ k) ∧ ((t : Int) * 2 ^ (k + c) ≤ (u : Int) * 2 ^ c ↔ t * 2 ^ k ≤ u) ∧ ((u : Int) * 2 ^ c + 2 ^ c ≤ (t : Int) * 2 ^ (k + c) + 2 ^ (k + c) ↔ u < (t + 1) * 2 ^ k) := by
  have hc := Nat.two_pow_pos c
  have e1 : (t : Int) * 2 ^ (k + c) = ((t * 2 ^ k * 2 ^ c : Nat) : Int) := by rw [Int.pow_add]; push_cast; rw [Int.mul_assoc]
  have e2 : (t : Int) * 2 ^ (k + c) + 2 ^ (k + c) = (((t + 1) * 2 ^ k * 2 ^ c : Nat) : Int) := by
    rw [e1]; push_cast; rw [Int.pow_add, Int.add_mul, Int.add_mul, Int.one_mul]
  have e3 : (u : Int) * 2 ^ c + 2 ^ c = (((u + 1) * 2 ^ c : Nat) : Int) := by push_cast; rw [Int.add_mul, Int.one_mul]
  have e4 : (u : Int) * 2 ^ c = ((u * 2 ^ c : Nat) : Int) := by push_cast; rfl
  rw [e2, e3, e1, e4]
  simp only [Int.ofNat_lt, Int.ofNat_le]
  refine ⟨?_, ?_, ?_, ?_⟩
  · rw [Nat.mul_lt_mul_right hc]; omega
  · rw [Nat.mul_lt_mul_right hc]
  · exact Nat.mul_le_mul_right_iff hc
  · rw [Nat.mul_le_mul_right_iff hc]; omega
theorem div_shape {d k u t : Nat} (hu : u < 2 ^ (d + k)) : (2 ^ (d + k) + u) / 2 ^ k = 2 ^ d + t ↔ t * 2 ^ k ≤ u ∧ u < (t + 1) * 2 ^ k := by
  have hk := Nat.two_pow_pos k
  rw [Nat.pow_add, Nat.mul_comm (2 ^ d), Nat.mul_add_div hk]
  rw [show (2 ^ d + u / 2 ^ k = 2 ^ d + t) ↔ u / 2 ^ k = t by omega]
  rw [Nat.div_eq_iff hk]
  have e : (t + 1) * 2 ^ k = t * 2 ^ k + 2 ^ k := by rw [Nat.add_mul, Nat.one_mul]
  rw [e, Nat.mul_comm]
  omega
/-- Where one has fewer bits. -/
theorem lam_le (hp : isNode l p = true) (hq : isNode l q = true) (hd : p.toNat.log2 ≤ q.toNat.log2) : (abv p q = true ↔ loN l p ≤ loN l q ∧ hiN l q ≤ hiN l p) ∧ (loN l p ≤ hiN l q → loN l q ≤ hiN l p → abv p q = true) := by
  obtain ⟨d, b, t, h1, rfl, h2, h3, h4, h5⟩ := node_shape hp
  obtain ⟨e, c, u, k1, rfl, k2, k3, k4, k5⟩ := node_shape hq
  rw [Int.toNat_natCast, Int.toNat_natCast, h3, k3] at hd
  obtain ⟨k, rfl⟩ : ∃ k, e = d + k := ⟨e - d, by omega⟩
  obtain rfl : b = k + c := by omega
  obtain ⟨c1, c2, c3, c4⟩ := lam_core (d := d) (k := k) (c := c) (t := t) (u := u)
  have hpd := Nat.two_pow_pos d
  have hpe := Nat.two_pow_pos (d + k)
  have ea : abv ((2 ^ d + t : Nat) : Int) ((2 ^ (d + k) + u : Nat) : Int) = true ↔ t * 2 ^ k ≤ u ∧ u < (t + 1) * 2 ^ k := by
    rw [← div_shape k2]
    simp only [abv, decide_eq_true_eq, Int.toNat_natCast, h3, k3, Nat.add_sub_cancel_left]
    omega
  rw [ea, h4, h5, k4, k5]
  constructor
  · constructor
    · rintro ⟨a1, a2⟩
      have := c3.2 a1
      have := c4.2 a2
      omega
    · rintro ⟨a1, a2⟩
      exact ⟨c3.1 a1, c4.1 (by omega)⟩
  · intro a1 a2
    exact ⟨c1.1 (by omega), c2.1 (by omega)⟩
theorem abv_log (h : abv p q = true) : p.toNat.log2 ≤ q.toNat.log2 := by
  simp only [abv, decide_eq_true_eq] at h
  exact h.2.2.1
theorem abv_iff (hp : isNode l p = true) (hq : isNode l q = true) : abv p q = true ↔ loN l p ≤ loN l q ∧ hiN l q ≤ hiN l p := by
  by_cases hd : p.toNat.log2 ≤ q.toNat.log2
  · exact (lam_le hp hq hd).1
  · constructor
    · exact fun h => absurd (abv_log h) hd
    · rintro ⟨a1, a2⟩
      exfalso
      obtain ⟨d, b, t, h1, rfl, h2, h3, h4, h5⟩ := node_shape hp
      obtain ⟨e, c, u, k1, rfl, k2, k3, k4, k5⟩ := node_shape hq
      rw [Int.toNat_natCast, Int.toNat_natCast, h3, k3] at hd
      have : (2 : Int) ^ (b + 1) ≤ 2 ^ c := pow_le' (by omega)
      rw [Int.pow_succ] at this
      have := pow_pos' b
      omega
theorem lam (hp : isNode l p = true) (hq : isNode l q = true) (h1 : loN l p ≤ hiN l q) (h2 : loN l q ≤ hiN l p) : abv p q = true ∨ abv q p = true := by
  by_cases hd : p.toNat.log2 ≤ q.toNat.log2
  · exact .inl ((lam_le hp hq hd).2 h1 h2)
  · exact .inr ((lam_le hq hp (by omega)).2 h2 h1)
theorem lo_hi (hp : isNode l p = true) : loN l p ≤ hiN l p := (ends_bounds hp).2.1
theorem lo_0 (hp : isNode l p = true) : 0 ≤ loN l p := (ends_bounds hp).1
theorem hi_top (hp : isNode l p = true) : hiN l p ≤ 2 ^ l - 1 := (ends_bounds hp).2.2
theorem isNode_l (hp : isNode l p = true) : 1 ≤ l ∧ l ≤ 48 := by
  simp only [isNode, decide_eq_true_eq] at hp; omega
/-- A node's children. -/
theorem node_kids (hp : isNode l p = true) (hb : p.toNat.log2 < l) : isNode l (2 * p) = true ∧ isNode l (2 * p + 1) = true ∧ loN l (2 * p) = loN l p ∧ hiN l (2 * p + 1) = hiN l p ∧ loN l (2 * p + 1) = hiN l (2 * p) + 1 ∧ (2 * p).toNat.log2 = p.toNat.log2 + 1 ∧ (2 * p + 1).toNat.log2 = p.toNat.log2 + 1 := by
  have hl := isNode_l hp
  obtain ⟨d, b, t, h1, rfl, h2, h3, h4, h5⟩ := node_shape hp
  rw [Int.toNat_natCast, h3] at hb
  obtain ⟨c, rfl⟩ : ∃ c, b = c + 1 := ⟨b - 1, by omega⟩
  have e1 : 2 * ((2 ^ d + t : Nat) : Int) = ((2 ^ (d + 1) + 2 * t : Nat) : Int) := by rw [Nat.pow_succ]; push_cast; omega
  have e2 : 2 * ((2 ^ d + t : Nat) : Int) + 1 = ((2 ^ (d + 1) + (2 * t + 1) : Nat) : Int) := by rw [Nat.pow_succ]; push_cast; omega
  have q1 : 2 * t < 2 ^ (d + 1) := by rw [Nat.pow_succ]; omega
  have q2 : 2 * t + 1 < 2 ^ (d + 1) := by rw [Nat.pow_succ]; omega
  have n1 := node_of_shape (b := c) hl (by omega) q1
  have n2 := node_of_shape (b := c) hl (by omega) q2
  rw [e2, e1]
  refine ⟨n1, n2, ?_⟩
  obtain ⟨d', b', t', g1, g2, g3, g4, g5, g6⟩ := node_shape n1
  obtain ⟨d'', b'', t'', f1, f2, f3, f4, f5, f6⟩ := node_shape n2
  have i1 := log2_shape q1
  have i2 := log2_shape q2
  have g2' := Int.ofNat.inj g2
  have f2' := Int.ofNat.inj f2
  rw [← g2', i1] at g4
  rw [← f2', i2] at f4
  subst g4 f4
  obtain rfl : b' = c := by omega
  obtain rfl : b'' = b' := by omega
  obtain rfl : t' = 2 * t := by omega
  obtain rfl : t'' = 2 * t + 1 := by omega
  rw [g5, g6, f5, f6, h4, h5, Int.toNat_natCast, Int.toNat_natCast, Int.toNat_natCast, h3, i1, i2, Int.pow_succ]
  push_cast
  refine ⟨?_, ?_, ?_, rfl, rfl⟩
  · rw [Int.mul_comm 2 (t : Int), Int.mul_assoc, Int.mul_comm 2]
  · rw [Int.add_mul, Int.mul_comm 2 (t : Int), Int.mul_assoc, Int.mul_comm 2]; omega
  · rw [Int.add_mul]; omega
/-- A leaf holds one value. -/
theorem leaf_one (hp : isNode l p = true) (hb : p.toNat.log2 = l) : loN l p = hiN l p := by
  obtain ⟨d, b, t, h1, rfl, h2, h3, h4, h5⟩ := node_shape hp
  rw [Int.toNat_natCast, h3] at hb
  obtain rfl : b = 0 := by omega
  rw [h4, h5]; simp
theorem log2_le (hp : isNode l p = true) : p.toNat.log2 ≤ l := by
  obtain ⟨d, b, t, h1, rfl, h2, h3, h4, h5⟩ := node_shape hp
  rw [Int.toNat_natCast, h3]; omega
/-- With the same first value the greater one has the lesser number. -/
theorem lo_same (hp : isNode l p = true) (hq : isNode l q = true) (h : loN l p = loN l q) (hpq : p ≤ q) : abv p q = true := by
  refine ((lam_le hp hq ?_).2 ?_ ?_)
  · refine Classical.byContradiction fun hd => ?_
    obtain ⟨d, b, t, h1, rfl, h2, h3, h4, h5⟩ := node_shape hp
    obtain ⟨e, c, u, k1, rfl, k2, k3, k4, k5⟩ := node_shape hq
    rw [Int.toNat_natCast, Int.toNat_natCast, h3, k3] at hd
    have : (2 : Nat) ^ (e + 1) ≤ 2 ^ d := Nat.pow_le_pow_right (by decide) (by omega)
    rw [Nat.pow_succ] at this
    omega
  · have := lo_hi hq; omega
  · have := lo_hi hp; omega
theorem abv_eq (hp : isNode l p = true) (hq : isNode l q = true) (h : abv p q = true) (k : abv q p = true) : p = q := by
  have h1 := abv_log h
  have h2 := abv_log k
  simp only [abv, decide_eq_true_eq] at h
  have e : q.toNat.log2 - p.toNat.log2 = 0 := by omega
  have h3 := h.2.2.2
  rw [e, Nat.pow_zero, Nat.div_one] at h3
  omega
end
/-- A value that one of some nodes holds. -/
def held (l : Nat) (ids : List Int) (v : Int) : Prop := ∃ t ∈ ids, loN l t ≤ v ∧ v ≤ hiN l t
/-- The other one of a pair. -/
def sibN (t : Int) : Int := if t % 2 = 0 then t + 1 else t - 1
/-- A pair's left one and right one. -/
theorem sib_pair {l : Nat} {t x : Int} (ht : isNode l t = true) (hx : isNode l x = true) (h : sibN t = x) (hlt : hiN l t < loN l x) : isNode l (x / 2) = true ∧ t = 2 * (x / 2) ∧ x = 2 * (x / 2) + 1 ∧ loN l (x / 2) = loN l t ∧ hiN l (x / 2) = hiN l x ∧ loN l x = hiN l t + 1 := by
  have h1 : 1 ≤ t := by simp only [isNode, decide_eq_true_eq] at ht; omega
  have h2 : 1 ≤ x := by simp only [isNode, decide_eq_true_eq] at hx; omega
  have hxl : x < 2 * 2 ^ l := by simp only [isNode, decide_eq_true_eq, Int.toNat_natCast] at hx; omega
  have htl : t < 2 * 2 ^ l := by simp only [isNode, decide_eq_true_eq, Int.toNat_natCast] at ht; omega
  have hl := isNode_l hx
  unfold sibN at h
  have par : ∀ y : Int, 1 ≤ y → 2 * y + 1 < 2 * 2 ^ l → isNode l y = true ∧ y.toNat.log2 < l := by
    intro y hy1 hy2
    have hn : isNode l y = true := by simp only [isNode, decide_eq_true_eq, Int.toNat_natCast]; omega
    refine ⟨hn, ?_⟩
    obtain ⟨d, b, u, g1, g2, g3, g4, _⟩ := node_shape hn
    subst g2
    rw [Int.toNat_natCast, g4]
    apply Classical.byContradiction
    intro hd
    obtain rfl : d = l := by omega
    have : ((2 ^ d : Nat) : Int) = 2 ^ d := by simp
    omega
  split at h
  · have e : t = 2 * (x / 2) := by omega
    have e2 : x = 2 * (x / 2) + 1 := by omega
    obtain ⟨hn, hlt2⟩ := par (x / 2) (by omega) (by omega)
    obtain ⟨_, _, k1, k2, k3, _⟩ := node_kids hn hlt2
    refine ⟨hn, e, e2, ?_, ?_, ?_⟩
    · rw [← k1, ← e]
    · rw [← k2, ← e2]
    · rw [← e2, ← e] at k3; exact k3
  · have e : x = 2 * (x / 2) := by omega
    have e2 : t = 2 * (x / 2) + 1 := by omega
    obtain ⟨hn, hlt2⟩ := par (x / 2) (by omega) (by omega)
    obtain ⟨_, _, k1, k2, k3, _⟩ := node_kids hn hlt2
    exfalso
    rw [← e2, ← e] at k3
    have := lo_hi hx
    have := lo_hi ht
    omega
/-- Pairs become one; the last one stands ahead. -/
def climb : List Int → Int → List Int × Int
  | [], x => ([], x)
  | t :: ts, x => if sibN t = x then climb ts (x / 2) else (t :: ts, x)
def joinStep (T : List Int) (x : Int) : List Int :=
  match T with
  | [] => [x]
  | t :: ts => if abv t x = true then t :: ts else (climb (t :: ts) x).2 :: (climb (t :: ts) x).1
def joinF (s : List Int) : List Int := s.foldl joinStep []
/-- By the first value, then by the number. -/
def leT (l : Nat) (a b : Int) : Prop := loN l a < loN l b ∨ (loN l a = loN l b ∧ a ≤ b)
structure ClimbOf (l : Nat) (T : List Int) (x : Int) (T' : List Int) (j : Int) : Prop where
  node : isNode l j = true
  suf : T' <:+ T
  left : ∀ t ∈ T', hiN l t < loN l j
  hi : hiN l j = hiN l x
  lo : loN l j = loN l x ∨ ∃ t ∈ T, loN l j = loN l t
  lole : loN l j ≤ loN l x
  all : ∀ t ∈ T, t ∈ T' ∨ abv j t = true
  in_ : ∀ v, loN l j ≤ v → v ≤ hiN l j → (loN l x ≤ v ∧ v ≤ hiN l x) ∨ ∃ t ∈ T, loN l t ≤ v ∧ v ≤ hiN l t
  stop : ∀ t ts, T' = t :: ts → sibN t ≠ j
theorem climb_of {l : Nat} : ∀ (T : List Int) (x : Int), (∀ t ∈ T, isNode l t = true) → T.Pairwise (fun a b => hiN l b < loN l a) → isNode l x = true → (∀ t ∈ T, hiN l t < loN l x) → ClimbOf l T x (climb T x).1 (climb T x).2 := by
  intro T
  induction T with
  | nil => exact fun x _ _ hx _ => ⟨hx, List.suffix_refl _, by simp [climb], rfl, .inl rfl, Int.le_refl _, by simp, fun v h1 h2 => .inl ⟨h1, h2⟩, by simp [climb]⟩
  | cons t ts ih =>
    intro x hn hp hx hlt
    unfold climb
    by_cases hs : sibN t = x
    · rw [if_pos hs]
      have ht := hn t (by simp)
      obtain ⟨p1, p2, p3, p4, p5, p6⟩ := sib_pair ht hx hs (hlt t (by simp))
      rw [List.pairwise_cons] at hp
      have C := ih (x / 2) (fun u hu => hn u (by simp [hu])) hp.2 p1 (fun u hu => by rw [p4]; exact hp.1 u hu)
      generalize climb ts (x / 2) = R at C
      obtain ⟨T', j⟩ := R
      simp only at C ⊢
      have hlx := lo_hi hx
      have hlt' := lo_hi ht
      have a1 : abv j t = true := (abv_iff C.node ht).2 ⟨by have := C.lole; omega, by have := C.hi; omega⟩
      refine ⟨C.node, C.suf.trans (List.suffix_cons _ _), C.left, by rw [C.hi, p5], ?_, by have := C.lole; omega, ?_, ?_, C.stop⟩
      · rcases C.lo with h | ⟨u, hu, h⟩
        · exact .inr ⟨t, by simp, by rw [h, p4]⟩
        · exact .inr ⟨u, by simp [hu], h⟩
      · intro u hu
        rcases List.mem_cons.1 hu with rfl | hu
        · exact .inr a1
        · exact C.all u hu
      · intro v h1 h2
        rcases C.in_ v h1 h2 with ⟨g1, g2⟩ | ⟨u, hu, g⟩
        · by_cases hv : v ≤ hiN l t
          · exact .inr ⟨t, by simp, by omega, hv⟩
          · exact .inl ⟨by omega, by omega⟩
        · exact .inr ⟨u, by simp [hu], g⟩
    · rw [if_neg hs]
      exact ⟨hx, List.suffix_refl _, hlt, rfl, .inl rfl, Int.le_refl _, fun u hu => .inl hu, fun v h1 h2 => .inl ⟨h1, h2⟩, fun u us h => by cases h; exact hs⟩
/-- What holds of the tiles behind some nodes. -/
structure JInv (l : Nat) (pre T : List Int) : Prop where
  node : ∀ t ∈ T, isNode l t = true
  sep : T.Pairwise (fun a b => hiN l b < loN l a)
  low : ∀ t ∈ T, ∃ q ∈ pre, loN l q = loN l t
  cov : ∀ q ∈ pre, ∃ t ∈ T, abv t q = true
  sub : ∀ t ∈ T, ∀ v, loN l t ≤ v → v ≤ hiN l t → held l pre v
  sib : T.Pairwise (fun a b => sibN b ≠ a)
theorem abv_trans {l : Nat} {a b c : Int} (ha : isNode l a = true) (hb : isNode l b = true) (hc : isNode l c = true) (h : abv a b = true) (k : abv b c = true) : abv a c = true := by
  have h := (abv_iff ha hb).1 h
  have k := (abv_iff hb hc).1 k
  exact (abv_iff ha hc).2 ⟨by omega, by omega⟩
theorem abv_refl {l : Nat} {a : Int} (ha : isNode l a = true) : abv a a = true := (abv_iff ha ha).2 ⟨Int.le_refl _, Int.le_refl _⟩
theorem held_mono {l : Nat} {a b : List Int} (h : ∀ x ∈ a, x ∈ b) {v : Int} (k : held l a v) : held l b v := by
  obtain ⟨t, ht, hv⟩ := k
  exact ⟨t, h t ht, hv⟩
theorem jinv_step {l : Nat} {pre T : List Int} {x : Int} (h : JInv l pre T) (hp : ∀ q ∈ pre, isNode l q = true) (hx : isNode l x = true) (hs : ∀ q ∈ pre, leT l q x) : JInv l (pre ++ [x]) (joinStep T x) := by
  have h0 : ∀ t ∈ T, abv t x = true → JInv l (pre ++ [x]) T := fun t ht ha => ⟨h.node, h.sep, fun u hu => by
      obtain ⟨q, hq, e⟩ := h.low u hu
      exact ⟨q, List.mem_append_left _ hq, e⟩, fun q hq => by
      rcases List.mem_append.1 hq with hq | hq
      · exact h.cov q hq
      · rw [List.mem_singleton.1 hq]; exact ⟨t, ht, ha⟩, fun u hu v h1 h2 => held_mono (fun y hy => List.mem_append_left _ hy) (h.sub u hu v h1 h2), h.sib⟩
  by_cases hc : ∃ t ∈ T, abv t x = true
  · obtain ⟨t, ht, ha⟩ := hc
    -- it is the last one
    cases T with
    | nil => simp at ht
    | cons u us =>
      have hu : abv u x = true := by
        rcases List.mem_cons.1 ht with rfl | ht'
        · exact ha
        · exfalso
          have h1 := (List.pairwise_cons.1 h.sep).1 t ht'
          obtain ⟨q, hq, e⟩ := h.low u (by simp)
          have h2 := (abv_iff (h.node t (by simp [ht'])) hx).1 ha
          have h3 := lo_hi hx
          rcases hs q hq with h4 | h4 <;> omega
      unfold joinStep
      simp only [if_pos hu]
      exact h0 u (by simp) hu
  · have hright : ∀ t ∈ T, hiN l t < loN l x := by
      intro t ht
      apply Classical.byContradiction
      intro hn
      obtain ⟨q, hq, e⟩ := h.low t ht
      have hqx : loN l q ≤ loN l x := by rcases hs q hq with h4 | h4 <;> omega
      have hlx := lo_hi hx
      rcases lam (h.node t ht) hx (by omega) (by omega) with h1 | h1
      · exact hc ⟨t, ht, h1⟩
      · have h2 := (abv_iff hx (h.node t ht)).1 h1
        have h3 : loN l q = loN l x := by omega
        have h4 : abv q x = true := lo_same (hp q hq) hx h3 (by rcases hs q hq with h4 | h4 <;> omega)
        obtain ⟨u, hu, h5⟩ := h.cov q hq
        exact hc ⟨u, hu, abv_trans (h.node u hu) (hp q hq) hx h5 h4⟩
    have hstep : joinStep T x = (climb T x).2 :: (climb T x).1 := by
      cases T with
      | nil => rfl
      | cons u us =>
        unfold joinStep
        simp only
        rw [if_neg (fun hu => hc ⟨u, by simp, hu⟩)]
    rw [hstep]
    have C := climb_of T x h.node h.sep hx hright
    generalize climb T x = R at C
    obtain ⟨T', j⟩ := R
    simp only at C ⊢
    have hmem : ∀ t ∈ T', t ∈ T := fun t ht => C.suf.subset ht
    refine ⟨?_, ?_, ?_, ?_, ?_, ?_⟩
    · intro t ht
      rcases List.mem_cons.1 ht with rfl | ht
      · exact C.node
      · exact h.node t (hmem t ht)
    · exact List.pairwise_cons.2 ⟨C.left, h.sep.sublist C.suf.sublist⟩
    · intro t ht
      rcases List.mem_cons.1 ht with rfl | ht
      · rcases C.lo with e | ⟨u, hu, e⟩
        · exact ⟨x, by simp, e.symm⟩
        · obtain ⟨q, hq, e2⟩ := h.low u hu
          exact ⟨q, by simp [hq], by omega⟩
      · obtain ⟨q, hq, e2⟩ := h.low t (hmem t ht)
        exact ⟨q, by simp [hq], e2⟩
    · intro q hq
      rcases List.mem_append.1 hq with hq | hq
      · obtain ⟨t, ht, ha⟩ := h.cov q hq
        rcases C.all t ht with h1 | h1
        · exact ⟨t, by simp [h1], ha⟩
        · exact ⟨j, by simp, abv_trans C.node (h.node t ht) (hp q hq) h1 ha⟩
      · rw [List.mem_singleton.1 hq]
        exact ⟨j, by simp, (abv_iff C.node hx).2 ⟨C.lole, by rw [C.hi]; exact Int.le_refl _⟩⟩
    · intro t ht v h1 h2
      rcases List.mem_cons.1 ht with rfl | ht
      · rcases C.in_ v h1 h2 with g | ⟨u, hu, g1, g2⟩
        · exact ⟨x, by simp, g⟩
        · exact held_mono (fun y hy => List.mem_append_left _ hy) (h.sub u hu v g1 g2)
      · exact held_mono (fun y hy => List.mem_append_left _ hy) (h.sub t (hmem t ht) v h1 h2)
    · refine List.pairwise_cons.2 ⟨fun t ht hsj => ?_, h.sib.sublist C.suf.sublist⟩
      cases T' with
      | nil => simp at ht
      | cons u us =>
        rcases List.mem_cons.1 ht with rfl | ht'
        · exact C.stop _ _ rfl hsj
        · have h1 := (List.pairwise_cons.1 (h.sep.sublist C.suf.sublist)).1 t ht'
          have h2 := C.left u (by simp)
          have h3 := (sib_pair (h.node t (hmem t ht)) C.node hsj (C.left t ht)).2.2.2.2.2
          have h4 := lo_hi (h.node u (hmem u (by simp)))
          omega
theorem joinF_inv {l : Nat} {s : List Int} (hn : ∀ x ∈ s, isNode l x = true) (hs : s.Pairwise (leT l)) : JInv l s (joinF s) := by
  suffices h : ∀ k, k ≤ s.length → JInv l (s.take k) ((s.take k).foldl joinStep []) by
    have := h s.length (Nat.le_refl _)
    rwa [List.take_length] at this
  intro k
  induction k with
  | zero => exact fun _ => ⟨by simp, by simp, by simp, by simp, by simp, by simp⟩
  | succ k ih =>
    intro hk
    have hlt : k < s.length := by omega
    rw [List.take_succ_eq_append_getElem hlt, List.foldl_append]
    refine jinv_step (ih (by omega)) (fun q hq => hn q (List.mem_of_mem_take hq)) (hn _ (List.getElem_mem hlt)) (fun q hq => ?_)
    obtain ⟨i, hi, rfl⟩ := List.getElem_of_mem hq
    simp only [List.length_take] at hi
    rw [List.getElem_take]
    exact List.pairwise_iff_getElem.1 hs i k (by omega) hlt (by omega)
/-- Tiles as they come: they hold just what the nodes do, and each node that they hold whole is below one of them. -/
structure Tiles (l : Nat) (C : Int → Prop) (T : List Int) : Prop where
  node : ∀ t ∈ T, isNode l t = true
  cov : ∀ v, held l T v ↔ C v
  top : ∀ x, isNode l x = true → (∀ v, loN l x ≤ v → v ≤ hiN l x → C v) → ∃ t ∈ T, abv t x = true
theorem whole_below {l : Nat} {T : List Int} (hn : ∀ t ∈ T, isNode l t = true) (hsib : ∀ a ∈ T, ∀ b ∈ T, hiN l b < loN l a → sibN b ≠ a) : ∀ (b : Nat) (x : Int), isNode l x = true → x.toNat.log2 + b = l → (∀ v, loN l x ≤ v → v ≤ hiN l x → held l T v) → ∃ t ∈ T, abv t x = true := by
  intro b
  induction b with
  | zero =>
    intro x hx hb hv
    have he := leaf_one hx (by omega)
    obtain ⟨t, ht, h1, h2⟩ := hv (loN l x) (Int.le_refl _) (by omega)
    exact ⟨t, ht, (abv_iff (hn t ht) hx).2 ⟨h1, by omega⟩⟩
  | succ b ih =>
    intro x hx hb hv
    obtain ⟨k1, k2, k3, k4, k5, k6, k7⟩ := node_kids hx (by omega)
    have w1 := lo_hi k1
    have w2 := lo_hi k2
    obtain ⟨t, ht, h1⟩ := ih (2 * x) k1 (by omega) (fun v a1 a2 => hv v (by omega) (by omega))
    obtain ⟨u, hu, h2⟩ := ih (2 * x + 1) k2 (by omega) (fun v a1 a2 => hv v (by omega) (by omega))
    have r1 := (abv_iff (hn t ht) k1).1 h1
    have r2 := (abv_iff (hn u hu) k2).1 h2
    have wt := lo_hi (hn t ht)
    have wu := lo_hi (hn u hu)
    by_cases e1 : abv t x = true
    · exact ⟨t, ht, e1⟩
    · by_cases e2 : abv u x = true
      · exact ⟨u, hu, e2⟩
      · exfalso
        have q1 : abv x t = true := by
          rcases lam (hn t ht) hx (by omega) (by omega) with h | h
          · exact absurd h e1
          · exact h
        have q2 : abv x u = true := by
          rcases lam (hn u hu) hx (by omega) (by omega) with h | h
          · exact absurd h e2
          · exact h
        have c1 : t = 2 * x := by
          refine abv_eq (hn t ht) k1 h1 ((abv_iff k1 (hn t ht)).2 ?_)
          have s1 := (abv_iff hx (hn t ht)).1 q1
          refine ⟨by omega, ?_⟩
          apply Classical.byContradiction
          intro hgt
          rcases lam (hn t ht) k2 (by omega) (by omega) with h | h
          · have := (abv_iff (hn t ht) k2).1 h
            exact e1 ((abv_iff (hn t ht) hx).2 ⟨by omega, by omega⟩)
          · have := (abv_iff k2 (hn t ht)).1 h; omega
        have c2 : u = 2 * x + 1 := by
          refine abv_eq (hn u hu) k2 h2 ((abv_iff k2 (hn u hu)).2 ?_)
          have s1 := (abv_iff hx (hn u hu)).1 q2
          refine ⟨?_, by omega⟩
          apply Classical.byContradiction
          intro hgt
          rcases lam (hn u hu) k1 (by omega) (by omega) with h | h
          · have := (abv_iff (hn u hu) k1).1 h
            exact e2 ((abv_iff (hn u hu) hx).2 ⟨by omega, by omega⟩)
          · have := (abv_iff k1 (hn u hu)).1 h; omega
        refine hsib u hu t ht (by rw [c1, c2]; omega) ?_
        unfold sibN
        rw [c1, c2, if_pos (by omega)]
theorem sibN_sep {l : Nat} {T : List Int} (hn : ∀ t ∈ T, isNode l t = true) (hsep : T.Pairwise (fun a b => hiN l b < loN l a)) (hsib : T.Pairwise (fun a b => sibN b ≠ a)) : ∀ a ∈ T, ∀ b ∈ T, hiN l b < loN l a → sibN b ≠ a := by
  intro a ha b hb hlt
  obtain ⟨i, hi, rfl⟩ := List.getElem_of_mem ha
  obtain ⟨j, hj, rfl⟩ := List.getElem_of_mem hb
  have ha' := hn _ ha
  have hb' := hn _ hb
  rcases Nat.lt_trichotomy i j with h | h | h
  · exact List.pairwise_iff_getElem.1 hsib i j hi hj h
  · subst h
    have := lo_hi ha'; omega
  · have := List.pairwise_iff_getElem.1 hsep j i hj hi h
    have := lo_hi ha'
    have := lo_hi hb'
    omega
/-- The fewest tiles of what nodes hold. -/
theorem join_tiles {l : Nat} {s : List Int} (hn : ∀ x ∈ s, isNode l x = true) (hs : s.Pairwise (leT l)) : Tiles l (held l s) (joinF s) := by
  have J := joinF_inv hn hs
  have hcov : ∀ v, held l (joinF s) v ↔ held l s v := by
    intro v
    constructor
    · rintro ⟨t, ht, h1, h2⟩
      exact J.sub t ht v h1 h2
    · rintro ⟨q, hq, h1, h2⟩
      obtain ⟨t, ht, ha⟩ := J.cov q hq
      have := (abv_iff (J.node t ht) (hn q hq)).1 ha
      exact ⟨t, ht, by omega, by omega⟩
  refine ⟨J.node, hcov, fun x hx hv => ?_⟩
  have := log2_le hx
  exact whole_below J.node (sibN_sep J.node J.sep J.sib) (l - x.toNat.log2) x hx (by omega) fun v h1 h2 => (hcov v).2 (hv v h1 h2)
/-- The fewest tiles of a run, from a node of some height down. -/
def layT (l : Nat) (a b : Int) : Nat → Int → List Int
  | 0, x => if hiN l x < a ∨ b < loN l x then [] else [x]
  | h + 1, x => if hiN l x < a ∨ b < loN l x then [] else if a ≤ loN l x ∧ hiN l x ≤ b then [x] else layT l a b h (2 * x) ++ layT l a b h (2 * x + 1)
theorem layT_of {l : Nat} (a b : Int) : ∀ (h : Nat) (x : Int), isNode l x = true → x.toNat.log2 + h = l →
    (∀ t ∈ layT l a b h x, isNode l t = true) ∧ (∀ v, held l (layT l a b h x) v ↔ (loN l x ≤ v ∧ v ≤ hiN l x) ∧ a ≤ v ∧ v ≤ b) ∧ (∀ y, isNode l y = true → abv x y = true → a ≤ loN l y → hiN l y ≤ b → ∃ t ∈ layT l a b h x, abv t y = true) := by
  intro h
  induction h with
  | zero =>
    intro x hx hb
    have he := leaf_one hx (by omega)
    unfold layT
    by_cases hc : hiN l x < a ∨ b < loN l x
    · rw [if_pos hc]
      refine ⟨by simp, fun v => ⟨by rintro ⟨t, ht, _⟩; simp at ht, by rintro ⟨h1, h2⟩; exfalso; omega⟩, fun y hy h1 h2 h3 => ?_⟩
      exfalso
      have := (abv_iff hx hy).1 h1
      have := lo_hi hy
      omega
    · rw [if_neg hc]
      refine ⟨fun t ht => by rw [List.mem_singleton.1 ht]; exact hx, fun v => ⟨by rintro ⟨t, ht, h1, h2⟩; rw [List.mem_singleton.1 ht] at h1 h2; omega, by rintro ⟨h1, h2⟩; exact ⟨x, by simp, h1⟩⟩, fun y hy h1 h2 h3 => ⟨x, by simp, h1⟩⟩
  | succ h ih =>
    intro x hx hb
    have hlx := lo_hi hx
    obtain ⟨k1, k2, k3, k4, k5, k6, k7⟩ := node_kids hx (by omega)
    have w1 := lo_hi k1
    have w2 := lo_hi k2
    unfold layT
    by_cases hc : hiN l x < a ∨ b < loN l x
    · rw [if_pos hc]
      refine ⟨by simp, fun v => ⟨by rintro ⟨t, ht, _⟩; simp at ht, by rintro ⟨h1, h2⟩; exfalso; omega⟩, fun y hy h1 h2 h3 => ?_⟩
      exfalso
      have := (abv_iff hx hy).1 h1
      have := lo_hi hy
      omega
    · rw [if_neg hc]
      by_cases hd : a ≤ loN l x ∧ hiN l x ≤ b
      · rw [if_pos hd]
        exact ⟨fun t ht => by rw [List.mem_singleton.1 ht]; exact hx, fun v => ⟨by rintro ⟨t, ht, h1, h2⟩; rw [List.mem_singleton.1 ht] at h1 h2; omega, by rintro ⟨h1, h2⟩; exact ⟨x, by simp, h1⟩⟩, fun y hy h1 h2 h3 => ⟨x, by simp, h1⟩⟩
      · rw [if_neg hd]
        obtain ⟨a1, a2, a3⟩ := ih (2 * x) k1 (by omega)
        obtain ⟨b1, b2, b3⟩ := ih (2 * x + 1) k2 (by omega)
        refine ⟨fun t ht => (List.mem_append.1 ht).elim (a1 t) (b1 t), fun v => ?_, fun y hy h1 h2 h3 => ?_⟩
        · have e : held l (layT l a b h (2 * x) ++ layT l a b h (2 * x + 1)) v ↔ held l (layT l a b h (2 * x)) v ∨ held l (layT l a b h (2 * x + 1)) v := by
            constructor
            · rintro ⟨t, ht, g⟩
              rcases List.mem_append.1 ht with ht | ht
              · exact .inl ⟨t, ht, g⟩
              · exact .inr ⟨t, ht, g⟩
            · rintro (⟨t, ht, g⟩ | ⟨t, ht, g⟩)
              · exact ⟨t, List.mem_append_left _ ht, g⟩
              · exact ⟨t, List.mem_append_right _ ht, g⟩
          rw [e, a2, b2]
          omega
        · have r := (abv_iff hx hy).1 h1
          have wy := lo_hi hy
          by_cases hy1 : hiN l y ≤ hiN l (2 * x)
          · obtain ⟨t, ht, g⟩ := a3 y hy ((abv_iff k1 hy).2 ⟨by omega, hy1⟩) h2 h3
            exact ⟨t, List.mem_append_left _ ht, g⟩
          · by_cases hy2 : loN l (2 * x + 1) ≤ loN l y
            · obtain ⟨t, ht, g⟩ := b3 y hy ((abv_iff k2 hy).2 ⟨hy2, by omega⟩) h2 h3
              exact ⟨t, List.mem_append_right _ ht, g⟩
            · exfalso
              rcases lam k1 hy (by omega) (by omega) with g | g
              · have := (abv_iff k1 hy).1 g; omega
              · have := (abv_iff hy k1).1 g
                rcases lam k2 hy (by omega) (by omega) with g2 | g2
                · have := (abv_iff k2 hy).1 g2; omega
                · have := (abv_iff hy k2).1 g2; omega
theorem isNode_root {l : Nat} (hl : 1 ≤ l ∧ l ≤ 48) : isNode l 1 = true ∧ loN l 1 = 0 ∧ hiN l 1 = 2 ^ l - 1 := by
  have hn : isNode l 1 = true := by
    have := pow_pos' l
    simp only [isNode, decide_eq_true_eq, Int.toNat_natCast]; omega
  obtain ⟨d, b, t, h1, h2, h3, h4, h5, h6⟩ := node_shape hn
  have h7 := Nat.two_pow_pos d
  obtain rfl : t = 0 := by omega
  have h8 : (2 : Nat) ^ d = 1 := by omega
  obtain rfl : d = 0 := by
    rcases Nat.eq_zero_or_pos d with h | h
    · exact h
    · have := Nat.pow_le_pow_right (n := 2) (by decide) h; omega
  obtain rfl : b = l := by omega
  exact ⟨hn, by simpa using h5, by simpa using h6⟩
def ofTiles (l : Nat) (a b : Int) : List Int := layT l a b l 1
/-- The fewest tiles of a run of values. -/
theorem of_tiles {l : Nat} (hl : 1 ≤ l ∧ l ≤ 48) {a b : Int} (ha : 0 ≤ a) (hb : b ≤ 2 ^ l - 1) : Tiles l (fun v => a ≤ v ∧ v ≤ b) (ofTiles l a b) := by
  obtain ⟨h1, h2, h3⟩ := isNode_root hl
  have hlog : (1 : Int).toNat.log2 + l = l := by
    have : (1 : Int).toNat.log2 = 0 := by decide
    omega
  obtain ⟨g1, g2, g3⟩ := layT_of a b l 1 h1 hlog
  refine ⟨g1, fun v => by unfold ofTiles; rw [g2, h2, h3]; omega, fun x hx hv => ?_⟩
  have wx := lo_hi hx
  have w0 := lo_0 hx
  have w1 := hi_top hx
  exact g3 x hx ((abv_iff h1 hx).2 ⟨by omega, by omega⟩) (hv _ (Int.le_refl _) wx).1 (hv _ wx (Int.le_refl _)).2
/-- The tiles between tiles: behind some of these. -/
def restStep (l : Nat) (o : List Int × Int) (x : Int) : List Int × Int := (if o.2 < loN l x then o.1 ++ ofTiles l o.2 (loN l x - 1) else o.1, hiN l x + 1)
def restF (l : Nat) (T : List Int) : List Int × Int := T.foldl (restStep l) ([], 0)
def restL (l : Nat) (T : List Int) : List Int := if (restF l T).2 ≤ 2 ^ l - 1 then (restF l T).1 ++ ofTiles l (restF l T).2 (2 ^ l - 1) else (restF l T).1
structure RInv (l : Nat) (pre : List Int) (o : List Int × Int) : Prop where
  from0 : 0 ≤ o.2 ∧ o.2 ≤ 2 ^ l
  last : 0 < o.2 → held l pre (o.2 - 1)
  below : ∀ t ∈ pre, hiN l t < o.2
  node : ∀ t ∈ o.1, isNode l t = true
  cov : ∀ v, held l o.1 v ↔ (0 ≤ v ∧ v < o.2) ∧ ¬ held l pre v
  top : ∀ x, isNode l x = true → hiN l x < o.2 → (∀ v, loN l x ≤ v → v ≤ hiN l x → ¬ held l pre v) → ∃ t ∈ o.1, abv t x = true
theorem held_append {l : Nat} {a b : List Int} {v : Int} : held l (a ++ b) v ↔ held l a v ∨ held l b v := by
  constructor
  · rintro ⟨t, ht, g⟩
    rcases List.mem_append.1 ht with ht | ht
    · exact .inl ⟨t, ht, g⟩
    · exact .inr ⟨t, ht, g⟩
  · rintro (⟨t, ht, g⟩ | ⟨t, ht, g⟩)
    · exact ⟨t, List.mem_append_left _ ht, g⟩
    · exact ⟨t, List.mem_append_right _ ht, g⟩
theorem held_one {l : Nat} {x v : Int} : held l [x] v ↔ loN l x ≤ v ∧ v ≤ hiN l x :=
  ⟨by rintro ⟨t, ht, g⟩; rw [List.mem_singleton.1 ht] at g; exact g, fun g => ⟨x, by simp, g⟩⟩
theorem rinv_step {l : Nat} {pre : List Int} {o : List Int × Int} {x : Int} (hl : 1 ≤ l ∧ l ≤ 48) (h : RInv l pre o) (hx : isNode l x = true) (hlt : ∀ t ∈ pre, hiN l t < loN l x) : RInv l (pre ++ [x]) (restStep l o x) := by
  have wx := lo_hi hx
  have w0 := lo_0 hx
  have w1 := hi_top hx
  have hfrom : o.2 ≤ loN l x := by
    rcases Int.lt_or_le 0 o.2 with h1 | h1
    · obtain ⟨t, ht, g1, g2⟩ := h.last h1
      have := hlt t ht
      omega
    · omega
  have hpre : ∀ v, loN l x ≤ v → ¬ held l pre v := by
    rintro v hv ⟨t, ht, g1, g2⟩
    have := hlt t ht
    omega
  have O := of_tiles hl (a := o.2) (b := loN l x - 1) h.from0.1 (by omega)
  have hnil : ¬ o.2 < loN l x → o.2 = loN l x := by omega
  have hmem : ∀ t, t ∈ (restStep l o x).1 → t ∈ o.1 ∨ t ∈ ofTiles l o.2 (loN l x - 1) := by
    intro t ht
    unfold restStep at ht
    simp only at ht
    split at ht
    · exact List.mem_append.1 ht
    · exact .inl ht
  have hcov : ∀ v, held l (restStep l o x).1 v ↔ held l o.1 v ∨ (o.2 ≤ v ∧ v ≤ loN l x - 1) := by
    intro v
    unfold restStep
    simp only
    split
    · rw [held_append, O.cov]
    · constructor
      · exact .inl
      · rintro (g | g)
        · exact g
        · exfalso; omega
  have hin : ∀ t, t ∈ o.1 → t ∈ (restStep l o x).1 := by
    intro t ht
    unfold restStep
    simp only
    split
    · exact List.mem_append_left _ ht
    · exact ht
  have hin2 : o.2 < loN l x → ∀ t, t ∈ ofTiles l o.2 (loN l x - 1) → t ∈ (restStep l o x).1 := by
    intro hc t ht
    unfold restStep
    simp only
    rw [if_pos hc]
    exact List.mem_append_right _ ht
  have e2 : (restStep l o x).2 = hiN l x + 1 := rfl
  refine ⟨⟨by omega, by omega⟩, fun _ => ?_, fun t ht => ?_, fun t ht => ?_, fun v => ?_, fun y hy h1 h2 => ?_⟩
  · rw [e2, held_append, held_one]; right; omega
  · rcases List.mem_append.1 ht with ht | ht
    · have := hlt t ht; omega
    · rw [List.mem_singleton.1 ht]; omega
  · rcases hmem t ht with ht | ht
    · exact h.node t ht
    · exact O.node t ht
  · rw [hcov, h.cov, held_append, held_one, e2]
    constructor
    · rintro (⟨g1, g2⟩ | g)
      · refine ⟨by omega, ?_⟩
        rintro (k | k)
        · exact g2 k
        · omega
      · refine ⟨by have := h.from0; omega, ?_⟩
        rintro (⟨t, ht, k1, k2⟩ | k)
        · have := h.below t ht; omega
        · omega
    · rintro ⟨g1, g2⟩
      have n1 : ¬ held l pre v := fun k => g2 (.inl k)
      have n2 : ¬ (loN l x ≤ v ∧ v ≤ hiN l x) := fun k => g2 (.inr k)
      by_cases hv : v < o.2
      · exact .inl ⟨by omega, n1⟩
      · exact .inr ⟨by omega, by omega⟩
  · rw [e2] at h1
    have wy := lo_hi hy
    have wy0 := lo_0 hy
    have d1 : ∀ v, loN l y ≤ v → v ≤ hiN l y → ¬ held l pre v := fun v a1 a2 k => h2 v a1 a2 (held_append.2 (.inl k))
    have d2 : ∀ v, loN l y ≤ v → v ≤ hiN l y → ¬ (loN l x ≤ v ∧ v ≤ hiN l x) := fun v a1 a2 k => h2 v a1 a2 (held_append.2 (.inr (held_one.2 k)))
    by_cases hc : hiN l y < o.2
    · obtain ⟨t, ht, g⟩ := h.top y hy hc d1
      exact ⟨t, hin t ht, g⟩
    · have a1 : o.2 ≤ loN l y := by
        apply Classical.byContradiction
        intro hn
        exact d1 (o.2 - 1) (by omega) (by omega) (h.last (by omega))
      have a2 : hiN l y < loN l x := by
        apply Classical.byContradiction
        intro hn
        exact d2 (hiN l y) wy (Int.le_refl _) ⟨by omega, by omega⟩
      obtain ⟨t, ht, g⟩ := O.top y hy (fun v b1 b2 => ⟨by omega, by omega⟩)
      exact ⟨t, hin2 (by omega) t ht, g⟩
theorem restF_inv {l : Nat} (hl : 1 ≤ l ∧ l ≤ 48) {T : List Int} (hn : ∀ t ∈ T, isNode l t = true) (hs : T.Pairwise fun a b => hiN l a < loN l b) : RInv l T (restF l T) := by
  suffices h : ∀ k, k ≤ T.length → RInv l (T.take k) ((T.take k).foldl (restStep l) ([], 0)) by
    have := h T.length (Nat.le_refl _)
    rwa [List.take_length] at this
  intro k
  induction k with
  | zero =>
    intro _
    have := pow_pos' l
    exact ⟨⟨Int.le_refl _, Int.le_of_lt this⟩, fun h => absurd h (by simp), by simp, by simp, fun v => ⟨by rintro ⟨t, ht, _⟩; simp at ht, by rintro ⟨h1, _⟩; have h2 : v < 0 := h1.2; omega⟩, fun x hx h1 _ => by
      have h1 : hiN l x < 0 := h1
      have := lo_0 hx
      have := lo_hi hx
      omega⟩
  | succ k ih =>
    intro hk
    have hlt : k < T.length := by omega
    rw [List.take_succ_eq_append_getElem hlt, List.foldl_append]
    refine rinv_step hl (ih (by omega)) (hn _ (List.getElem_mem hlt)) (fun q hq => ?_)
    obtain ⟨i, hi, rfl⟩ := List.getElem_of_mem hq
    simp only [List.length_take] at hi
    rw [List.getElem_take]
    exact List.pairwise_iff_getElem.1 hs i k (by omega) hlt (by omega)
/-- The fewest tiles of what tiles don't hold. -/
theorem rest_tiles {l : Nat} (hl : 1 ≤ l ∧ l ≤ 48) {T : List Int} (hn : ∀ t ∈ T, isNode l t = true) (hs : T.Pairwise fun a b => hiN l a < loN l b) : Tiles l (fun v => (0 ≤ v ∧ v ≤ 2 ^ l - 1) ∧ ¬ held l T v) (restL l T) := by
  have R := restF_inv hl hn hs
  have O := of_tiles hl (a := (restF l T).2) (b := 2 ^ l - 1) R.from0.1 (Int.le_refl _)
  have e0 : restL l T = if (restF l T).2 ≤ 2 ^ l - 1 then (restF l T).1 ++ ofTiles l (restF l T).2 (2 ^ l - 1) else (restF l T).1 := rfl
  generalize restF l T = o at R O e0
  have hlow : ∀ x, isNode l x = true → ¬ hiN l x < o.2 → (∀ v, loN l x ≤ v → v ≤ hiN l x → (0 ≤ v ∧ v ≤ 2 ^ l - 1) ∧ ¬ held l T v) → o.2 ≤ loN l x := by
    intro x hx h1 h2
    apply Classical.byContradiction
    intro hn
    have := lo_0 hx
    exact (h2 (o.2 - 1) (by omega) (by omega)).2 (R.last (by omega))
  rw [e0]
  by_cases hc : o.2 ≤ 2 ^ l - 1
  · rw [if_pos hc]
    refine ⟨fun t ht => (List.mem_append.1 ht).elim (R.node t) (O.node t), fun v => ?_, fun x hx hv => ?_⟩
    · rw [held_append, R.cov, O.cov]
      constructor
      · rintro (⟨g1, g2⟩ | g)
        · exact ⟨by omega, g2⟩
        · refine ⟨by have := R.from0; omega, ?_⟩
          rintro ⟨t, ht, k1, k2⟩
          have := R.below t ht; omega
      · rintro ⟨g1, g2⟩
        by_cases hv : v < o.2
        · exact .inl ⟨by omega, g2⟩
        · exact .inr ⟨by omega, by omega⟩
    · by_cases h1 : hiN l x < o.2
      · obtain ⟨t, ht, g⟩ := R.top x hx h1 (fun v a1 a2 => (hv v a1 a2).2)
        exact ⟨t, List.mem_append_left _ ht, g⟩
      · have h2 := hlow x hx h1 hv
        have h3 := hi_top hx
        obtain ⟨t, ht, g⟩ := O.top x hx (fun v a1 a2 => ⟨by omega, by omega⟩)
        exact ⟨t, List.mem_append_right _ ht, g⟩
  · rw [if_neg hc]
    have h4 := R.from0
    refine ⟨R.node, fun v => ?_, fun x hx hv => ?_⟩
    · rw [R.cov]
      constructor
      · rintro ⟨g1, g2⟩; exact ⟨by omega, g2⟩
      · rintro ⟨g1, g2⟩; exact ⟨by omega, g2⟩
    · have h3 := hi_top hx
      exact R.top x hx (by omega) (fun v a1 a2 => (hv v a1 a2).2)
end Go.Proofs.YtcjnchjmpkapmaaGreat
/- The ends of the nodes of a roll that fits. -/
namespace Go.Proofs.YtcjnchjmpkapmaaGreat
open Go.ChangeShapes Go.WideShapes Go.ChangeAt Go.RowKit
set_option linter.unusedVariables false

theorem ends_48 {l : Nat} (hl : l ≤ 48) {id : Int} (h : isNode l id = true) : 0 ≤ (endsOf l id).1 ∧ (endsOf l id).1 ≤ (endsOf l id).2.1 ∧ (endsOf l id).2.1 ≤ 281474976710655 := by
  have h1 := ends_bounds h
  have h2 := pow_48 (n := l) hl
  omega
theorem Fits.nodes {l : Nat} {r : List Nd} (hf : Fits l r) (hl : 1 ≤ l ∧ l ≤ 48) : ∀ x ∈ r, isNode l x.1 = true := by
  intro x hx
  have h1 := (hf.roll.2 x hx).1
  have h2 := hf.lt x hx
  simp only [isNode, decide_eq_true_eq, Int.toNat_natCast]
  omega
end Go.Proofs.YtcjnchjmpkapmaaGreat
/- What came to a digest, and where it lies: no program in sight. -/
namespace Go.Proofs.YtcjnchjmpkapmaaGreat
open Go.ChangeShapes Go.WideShapes Go.ChangeAt Go.RowKit
set_option linter.unusedVariables false

/-- What came: a leaf, the node at which it lies, and its weight. -/
structure Tr where
  leaf : Int
  node : Int
  c : Int
def wTr (f : Tr → Bool) : List Tr → Int
  | [] => 0
  | t :: T => (if f t = true then t.c else 0) + wTr f T
/-- What those nodes weigh of whose numbers something is so. -/
def wIds (p : Int → Bool) : List Nd → Int
  | [] => 0
  | x :: r => (if p x.1 = true then x.2 else 0) + wIds p r
theorem weighR_ids (l : Int) (f : Int → Int → Bool) (r : List Nd) : weighR l f r = wIds (fun id => f (endsOf l id).1 (endsOf l id).2.1) r := by
  induction r with
  | nil => rfl
  | cons x r ih => simp only [weighR, wIds, ih]
theorem sumR_ids (r : List Nd) : sumR r = wIds (fun _ => true) r := by
  induction r with
  | nil => rfl
  | cons x r ih => simp only [sumR, wIds, ih]; simp
theorem wTr_nonneg {T : List Tr} (h : ∀ t ∈ T, 1 ≤ t.c) (f : Tr → Bool) : 0 ≤ wTr f T := by
  induction T with
  | nil => simp [wTr]
  | cons t T ih =>
    have h1 := h t (by simp)
    have h2 := ih fun u hu => h u (by simp [hu])
    simp only [wTr]
    split <;> omega
theorem wTr_le {T : List Tr} (h : ∀ t ∈ T, 1 ≤ t.c) {f g : Tr → Bool} (hfg : ∀ t ∈ T, f t = true → g t = true) : wTr f T ≤ wTr g T := by
  induction T with
  | nil => simp [wTr]
  | cons t T ih =>
    have h1 := h t (by simp)
    have h2 := ih (fun u hu => h u (by simp [hu])) fun u hu => hfg u (by simp [hu])
    have h3 := hfg t (by simp)
    simp only [wTr]
    by_cases hf : f t = true
    · rw [if_pos hf, if_pos (h3 hf)]; omega
    · rw [if_neg hf]; split <;> omega
theorem wTr_congr {T : List Tr} {f g : Tr → Bool} (hfg : ∀ t ∈ T, f t = g t) : wTr f T = wTr g T := by
  induction T with
  | nil => rfl
  | cons t T ih => simp only [wTr, hfg t (by simp), ih fun u hu => hfg u (by simp [hu])]
theorem wTr_append (f : Tr → Bool) (S T : List Tr) : wTr f (S ++ T) = wTr f S + wTr f T := by
  induction S with
  | nil => simp [wTr]
  | cons t S ih => simp only [List.cons_append, wTr, ih]; omega
theorem wTr_split (g : Tr → Bool) (k : Tr → Int) (a : Int) (T : List Tr) : wTr g T = wTr (fun t => g t && (k t == a)) T + wTr g (T.filter fun t => k t != a) := by
  induction T with
  | nil => rfl
  | cons t T ih =>
    simp only [wTr, List.filter_cons, ih]
    by_cases hk : k t = a
    · simp [hk]; omega
    · simp [hk, wTr]; omega
theorem wTr_key (p : Int → Bool) (k : Tr → Int) (a : Int) (T : List Tr) : wTr (fun t => p (k t) && (k t == a)) T = if p a = true then wTr (fun t => k t == a) T else 0 := by
  induction T with
  | nil => simp [wTr]
  | cons t T ih =>
    simp only [wTr, ih]
    by_cases hk : k t = a
    · subst hk
      by_cases hp : p (k t) = true
      · simp [hp]
      · simp [hp]
    · have : (k t == a) = false := by simpa using hk
      simp only [this, Bool.and_false, Bool.false_eq_true, if_false, Int.zero_add]
theorem wTr_none {T : List Tr} {f : Tr → Bool} (h : ∀ t ∈ T, f t = false) : wTr f T = 0 := by
  induction T with
  | nil => rfl
  | cons t T ih => simp only [wTr, h t (by simp), ih fun u hu => h u (by simp [hu])]; simp
/-- A roll weighs what came. -/
theorem wIds_tr (p : Int → Bool) (k : Tr → Int) {r : List Nd} : ∀ (T : List Tr), Roll r → (∀ t ∈ T, 1 ≤ t.c) → (∀ id, getR r id = wTr (fun t => k t == id) T) → wIds p r = wTr (fun t => p (k t)) T := by
  induction r with
  | nil =>
    intro T _ hT h
    cases T with
    | nil => rfl
    | cons t T =>
      have h1 := h (k t)
      have h2 := wTr_nonneg (fun u hu => hT u (by simp [hu])) (fun u => k u == k t) (T := T)
      have h3 := hT t (by simp)
      simp only [getR, wTr, BEq.rfl, if_true] at h1
      omega
  | cons x r ih =>
    intro T hr hT h
    have h1 := h x.1
    simp only [getR, if_true] at h1
    rw [wTr_split (fun t => p (k t)) k x.1 T, wTr_key]
    simp only [wIds]
    rw [← h1]
    congr 1
    refine ih _ hr.tail (fun t ht => hT t (List.mem_filter.1 ht).1) fun id => ?_
    by_cases hid : id = x.1
    · subst hid
      rw [getR_none (fun y hy => by have := hr.head y hy; omega), wTr_none]
      intro t ht
      have := (List.mem_filter.1 ht).2
      simpa using this
    · have h2 := h id
      simp only [getR] at h2
      rw [if_neg (fun e => hid e.symm)] at h2
      rw [h2, wTr_split (fun t => k t == id) k x.1 T, wTr_none (f := fun t => (k t == id) && (k t == x.1)) (fun t _ => by
        by_cases e : k t = id
        · simp [e, hid]
        · simp [e])]
      simp

/-- A digest's roll r, and the roll q of all that was accepted, by its leaves. -/
def Flow (l : Nat) (r q : List Nd) : Prop := ∃ T : List Tr, (∀ t ∈ T, 1 ≤ t.c) ∧
  (∀ t ∈ T, isNode l t.node = true ∧ isNode l t.leaf = true ∧ (endsOf l t.node).1 ≤ (endsOf l t.leaf).1 ∧ (endsOf l t.leaf).2.1 ≤ (endsOf l t.node).2.1) ∧
  (∀ id, getR r id = wTr (fun t => t.node == id) T) ∧ (∀ id, getR q id = wTr (fun t => t.leaf == id) T)
section
variable {l : Nat} {r q : List Nd}
theorem Flow.nil (l : Nat) : Flow l [] [] := ⟨[], by simp, by simp, fun _ => rfl, fun _ => rfl⟩
theorem Flow.add (h : Flow l r q) (hr : Roll r) (hq : Roll q) {id c : Int} (hid : isNode l id = true) (hc : 1 ≤ c) : Flow l (addR r id c) (addR q id c) := by
  obtain ⟨T, h1, h2, h3, h4⟩ := h
  refine ⟨⟨id, id, c⟩ :: T, ?_, ?_, ?_, ?_⟩
  · intro t ht
    rcases List.mem_cons.1 ht with rfl | ht
    · exact hc
    · exact h1 t ht
  · intro t ht
    rcases List.mem_cons.1 ht with rfl | ht
    · exact ⟨hid, hid, Int.le_refl _, Int.le_refl _⟩
    · exact h2 t ht
  · intro j
    rw [getR_add hr, h3, h3]
    simp only [wTr]
    by_cases e : j = id
    · subst e; simp; omega
    · have : (id == j) = false := by simpa using fun e' => e e'.symm
      rw [if_neg e, this]; simp
  · intro j
    rw [getR_add hq, h4, h4]
    simp only [wTr]
    by_cases e : j = id
    · subst e; simp; omega
    · have : (id == j) = false := by simpa using fun e' => e e'.symm
      rw [if_neg e, this]; simp
/-- Two nodes go to one that holds what they do. -/
theorem Flow.fold (h : Flow l r q) {a b p : Int} {r' : List Nd} (hp : isNode l p = true) (hab : a ≠ b) (hap : a ≠ p) (hbp : b ≠ p) (ha : (endsOf l p).1 ≤ (endsOf l a).1 ∧ (endsOf l a).2.1 ≤ (endsOf l p).2.1) (hb : (endsOf l p).1 ≤ (endsOf l b).1 ∧ (endsOf l b).2.1 ≤ (endsOf l p).2.1)
    (hr : ∀ id, getR r' id = if id = p then getR r p + getR r a + getR r b else if id = a ∨ id = b then 0 else getR r id) : Flow l r' q := by
  obtain ⟨T, h1, h2, h3, h4⟩ := h
  refine ⟨T.map fun t => if t.node = a ∨ t.node = b then { t with node := p } else t, ?_, ?_, ?_, ?_⟩
  · intro t ht
    obtain ⟨u, hu, rfl⟩ := List.mem_map.1 ht
    have := h1 u hu
    split <;> exact this
  · intro t ht
    obtain ⟨u, hu, rfl⟩ := List.mem_map.1 ht
    have := h2 u hu
    split
    · rename_i hn
      refine ⟨hp, this.2.1, ?_, ?_⟩
      · simp only
        rcases hn with hn | hn
        · rw [hn] at this; omega
        · rw [hn] at this; omega
      · simp only
        rcases hn with hn | hn
        · rw [hn] at this; omega
        · rw [hn] at this; omega
    · exact this
  · intro id
    rw [hr, h3, h3, h3, h3]
    clear h1 h2 h3 h4 hr
    induction T with
    | nil => simp [wTr]
    | cons t T ih =>
      simp only [List.map_cons, wTr]
      by_cases i1 : id = p
      · rw [if_pos i1] at ih ⊢
        subst i1
        by_cases ta : t.node = a
        · have e1 : t.node ≠ b := by omega
          have e2 : t.node ≠ id := by omega
          simp [ta, hab, hap]
          omega
        · by_cases tb : t.node = b
          · simp [tb, hbp, fun e : b = a => hab e.symm]
            omega
          · simp [ta, tb]
            by_cases tp : t.node = id
            · simp [tp]; omega
            · simp [tp]; omega
      · rw [if_neg i1] at ih ⊢
        by_cases i2 : id = a ∨ id = b
        · rw [if_pos i2] at ih ⊢
          by_cases t1 : t.node = a ∨ t.node = b
          · rw [if_pos t1]
            have : (p == id) = false := by simpa using fun e => i1 e.symm
            simp only [this]
            simp only [Bool.false_eq_true, if_false]; omega
          · rw [if_neg t1]
            have : (t.node == id) = false := by
              simp only [beq_eq_false_iff_ne, ne_eq]
              rintro rfl; exact t1 i2
            simp only [this, Bool.false_eq_true, if_false]; omega
        · rw [if_neg i2] at ih ⊢
          by_cases t1 : t.node = a ∨ t.node = b
          · rw [if_pos t1]
            have e1 : (p == id) = false := by simpa using fun e => i1 e.symm
            have e2 : (t.node == id) = false := by
              simp only [beq_eq_false_iff_ne, ne_eq]
              rintro rfl; exact i2 t1
            simp only [e1, e2, Bool.false_eq_true, if_false]; omega
          · rw [if_neg t1]; omega
  · intro id
    rw [h4]
    clear h1 h2 h3 h4 hr
    induction T with
    | nil => rfl
    | cons t T ih =>
      simp only [List.map_cons, wTr, ih]
      by_cases hc : t.node = a ∨ t.node = b
      · rw [if_pos hc]
      · rw [if_neg hc]
/-- Another roll with the same weights. -/
theorem Flow.join {r2 q2 r3 q3 : List Nd} (h : Flow l r q) (k : Flow l r2 q2) (hr : ∀ id, getR r3 id = getR r id + getR r2 id) (hq : ∀ id, getR q3 id = getR q id + getR q2 id) : Flow l r3 q3 := by
  obtain ⟨T, h1, h2, h3, h4⟩ := h
  obtain ⟨S, k1, k2, k3, k4⟩ := k
  refine ⟨T ++ S, fun t ht => ?_, fun t ht => ?_, fun id => ?_, fun id => ?_⟩
  · rcases List.mem_append.1 ht with ht | ht
    · exact h1 t ht
    · exact k1 t ht
  · rcases List.mem_append.1 ht with ht | ht
    · exact h2 t ht
    · exact k2 t ht
  · rw [hr, wTr_append, h3, k3]
  · rw [hq, wTr_append, h4, k4]
theorem Flow.sum (h : Flow l r q) (hr : Roll r) (hq : Roll q) : sumR r = sumR q := by
  obtain ⟨T, h1, h2, h3, h4⟩ := h
  rw [sumR_ids, sumR_ids, wIds_tr _ (·.node) T hr h1 h3, wIds_tr _ (·.leaf) T hq h1 h4]
/-- What is so of nodes is so of what they hold. -/
theorem Flow.le (h : Flow l r q) (hr : Roll r) (hq : Roll q) {f g : Int → Int → Bool} (hfg : ∀ lo hi a b, lo ≤ a → b ≤ hi → f lo hi = true → g a b = true) : weighR l f r ≤ weighR l g q := by
  obtain ⟨T, h1, h2, h3, h4⟩ := h
  rw [weighR_ids, weighR_ids, wIds_tr _ (·.node) T hr h1 h3, wIds_tr _ (·.leaf) T hq h1 h4]
  exact wTr_le h1 fun t ht hf => hfg _ _ _ _ (h2 t ht).2.2.1 (h2 t ht).2.2.2 hf
theorem Flow.ge (h : Flow l r q) (hr : Roll r) (hq : Roll q) {f g : Int → Int → Bool} (hfg : ∀ lo hi a b, lo ≤ a → a ≤ b → b ≤ hi → g a b = true → f lo hi = true) : weighR l g q ≤ weighR l f r := by
  obtain ⟨T, h1, h2, h3, h4⟩ := h
  rw [weighR_ids, weighR_ids, wIds_tr _ (·.node) T hr h1 h3, wIds_tr _ (·.leaf) T hq h1 h4]
  exact wTr_le h1 fun t ht hf => hfg _ _ _ _ (h2 t ht).2.2.1 (ends_bounds (h2 t ht).2.1).2.1 (h2 t ht).2.2.2 hf
end

/-- What nodes of some numbers weigh. -/
theorem wIds_path {r : List Nd} (hr : Roll r) (p : Int → Bool) (m : Int) : ∀ (path : List Int), (∀ x ∈ r, p x.1 = true → x.1 ∈ path) → (∀ a ∈ path, getR r a ≤ m) → 0 ≤ m → wIds p r ≤ path.length * m := by
  intro path h1 h2 hm
  have key : ∀ (path : List Int) (s : List Nd), Roll s → (∀ x ∈ s, p x.1 = true → x.1 ∈ path) → wIds p s ≤ (path.map (getR s)).sum := by
    intro path
    induction path with
    | nil =>
      intro s hs h
      have : wIds p s = 0 := by
        clear hs
        induction s with
        | nil => rfl
        | cons x s ih =>
          have h0 : p x.1 ≠ true := fun e => by have := h x (by simp) e; simp at this
          simp only [wIds, if_neg h0, ih fun y hy => h y (by simp [hy])]; rfl
      rw [this]; simp
    | cons a path ih =>
      intro s hs h
      have h3 := ih (delR s a) (hs.del a) fun x hx hp => by
        have h4 := h x (delR_sub hx) hp
        rcases List.mem_cons.1 h4 with h5 | h5
        · exfalso
          have h6 := getR_mem (hs.del a) hx
          rw [h5, getR_del hs, if_pos rfl] at h6
          have := ((hs.del a).2 x hx).2
          omega
        · exact h5
      have h7 : wIds p s ≤ getR s a + wIds p (delR s a) := by
        clear ih h h3
        induction s with
        | nil => simp [wIds, getR, delR]
        | cons x s ih =>
          have hx := hs.2 x (by simp)
          simp only [getR, delR]
          by_cases e : x.1 = a
          · rw [if_pos e, if_pos e]
            simp only [wIds]; split <;> omega
          · rw [if_neg e, if_neg e]
            simp only [wIds]
            have := ih hs.tail
            omega
      have h8 : (path.map (getR (delR s a))).sum ≤ (path.map (getR s)).sum := by
        clear ih h h3 h7
        induction path with
        | nil => simp
        | cons b path ih =>
          simp only [List.map_cons, List.sum_cons]
          have := getR_del hs a b
          have h9 := getR_nonneg hs b
          split at this <;> omega
      simp only [List.map_cons, List.sum_cons]
      omega
  refine Int.le_trans (key path r hr h1) ?_
  clear key h1
  induction path with
  | nil => simp
  | cons a path ih =>
    simp only [List.map_cons, List.sum_cons, List.length_cons]
    have h3 := h2 a (by simp)
    have h4 := ih fun b hb => h2 b (by simp [hb])
    push_cast
    rw [Int.add_mul, Int.one_mul]
    omega
/-- The nodes above a leaf. -/
def pathOf (l : Nat) (y : Int) : List Int := (List.range l).map fun d => (2 ^ l + y) / 2 ^ (l - d)
theorem pathOf_len (l : Nat) (y : Int) : (pathOf l y).length = l := by simp [pathOf]
/-- A node that holds a value, but not it alone, is above its leaf. -/
theorem on_path {l : Nat} {id y : Int} (h : isNode l id = true) (h1 : (endsOf l id).1 ≤ y) (h2 : y < (endsOf l id).2.1) : id ∈ pathOf l y := by
  obtain ⟨n, x, hn, rfl, hn1, hn2, hx1, hx2⟩ := isNode_nat h
  obtain rfl : n = l := by omega
  obtain ⟨d, b, t, hd, hb, hdb, hxt, htd, hprod⟩ := node_facts hn2 hx1 hx2
  have e1 : endsOf n x = ((t : Int) * 2 ^ b, (t : Int) * 2 ^ b + 2 ^ b - 1, true) := by
    simp only [endsOf, h, if_true, Int.toNat_natCast, hd, hb]
    have : (x : Int) - 2 ^ d = t := by rw [hxt]; push_cast; omega
    rw [this]
  rw [e1] at h1 h2
  simp only at h1 h2
  have hb0 : b ≠ 0 := by rintro rfl; simp at h1 h2; omega
  refine List.mem_map.2 ⟨d, List.mem_range.2 (by omega), ?_⟩
  have hbd : n - d = b := by omega
  rw [hbd]
  have hpb := pow_pos' b
  have e2 : (2 : Int) ^ n = 2 ^ d * 2 ^ b := by rw [← Int.pow_add]; congr 1; omega
  have e3 : (x : Int) = 2 ^ d + t := by rw [hxt]; push_cast; omega
  rw [e2, e3]
  rw [Int.ediv_eq_iff_of_pos hpb]
  rw [Int.add_mul]
  omega
end Go.Proofs.YtcjnchjmpkapmaaGreat
/- What a digest that is nil tells; the reference's ranks. -/
namespace Go.Proofs.YtcjnchjmpkapmaaGreat
open Go.ChangeShapes Go.WideShapes Go.ChangeAt Go.RowKit
set_option linter.unusedVariables false
set_option maxRecDepth 100000

theorem reckon_count (w : World) (n : Nat) (hn : n ≤ 9223372036854775807) : Calls Tryz.prog 221 #[.int .u64 n] w fun e w' => e = .returned (.tuple #[.int .i64 n, .bool true]) ∧ Below w.heap.size w w' := by
  go_enter Tryz.func221, Tryz.ntmps221
  go_wp2_with fail
  go_ret2
  exact ⟨rfl, (by repeat (first | with_reducible exact Below.refl _ _ | with_reducible assumption | ((with_reducible refine Below.setCell ?_ ?_ _); rotate_left; · (first | omega | exact Nat.le_refl _ | (simp <;> omega))) | (with_reducible refine Below.allocW ?_ _) | (with_reducible refine Below.drew ?_) | (with_reducible refine Below.extW ?_ _)))⟩
theorem digest_Conf_nil (w : World) : Calls Tryz.prog 90 #[.pointer none] w fun e w' => e = .returned (.agg #[.int .i64 0, .int .i64 0, .int .i64 0]) ∧ Below w.heap.size w w' := by
  go_enter Tryz.func90, Tryz.ntmps90
  go_wp2_with fail
  exact bodyPost_ret (v := .agg #[.int .i64 0, .int .i64 0, .int .i64 0]) (by simp only [results, Tryz.results90]; go_simp) rfl ⟨rfl, (by repeat (first | with_reducible exact Below.refl _ _ | with_reducible assumption | ((with_reducible refine Below.setCell ?_ ?_ _); rotate_left; · (first | omega | exact Nat.le_refl _ | (simp <;> omega))) | (with_reducible refine Below.allocW ?_ _) | (with_reducible refine Below.drew ?_) | (with_reducible refine Below.extW ?_ _)))⟩
theorem digest_Nodes_nil (w : World) : Calls Tryz.prog 86 #[.pointer none] w fun e w' => e = .returned (.slice none 0 0) ∧ Below w.heap.size w w' := by
  go_enter Tryz.func86, Tryz.ntmps86
  go_wp2_with fail
  go_ret
  exact ⟨rfl, (by repeat (first | with_reducible exact Below.refl _ _ | with_reducible assumption | ((with_reducible refine Below.setCell ?_ ?_ _); rotate_left; · (first | omega | exact Nat.le_refl _ | (simp <;> omega))) | (with_reducible refine Below.allocW ?_ _) | (with_reducible refine Below.drew ?_) | (with_reducible refine Below.extW ?_ _)))⟩
theorem weigh_nil (w : World) (fv : Value) : Calls Tryz.prog 117 #[.pointer none, fv] w fun e w' => e = .returned (.int .i64 0) ∧ Below w.heap.size w w' := by
  go_enter Tryz.func117, Tryz.ntmps117
  go_wp2_with fail
  refine (digest_Conf_nil _).mono ?_
  rintro e w1 ⟨rfl, hb1⟩
  have B1 : Below w.heap.size w w1 := Below.then_ (by repeat (first | with_reducible exact Below.refl _ _ | with_reducible assumption | ((with_reducible refine Below.setCell ?_ ?_ _); rotate_left; · (first | omega | exact Nat.le_refl _ | (simp <;> omega))) | (with_reducible refine Below.allocW ?_ _) | (with_reducible refine Below.drew ?_) | (with_reducible refine Below.extW ?_ _))) hb1
  have s1 : w.heap.size ≤ w1.heap.size := B1.size
  go_wp2_with fail
  refine (digest_Nodes_nil _).mono ?_
  rintro e w2 ⟨rfl, hb2⟩
  have B2 : Below w.heap.size w w2 := Below.then_ (by repeat (first | with_reducible exact Below.refl _ _ | with_reducible assumption | ((with_reducible refine Below.setCell ?_ ?_ _); rotate_left; · (first | omega | exact Nat.le_refl _ | (simp <;> omega))) | (with_reducible refine Below.allocW ?_ _) | (with_reducible refine Below.drew ?_) | (with_reducible refine Below.extW ?_ _))) hb2
  have s2 : w.heap.size ≤ w2.heap.size := B2.size
  go_wp2_with fail
  go_loop [5, 18] (fun n i => n = .int .i64 0 ∧ i = .int .i64 0) (fun _ _ => 0)
  case atStart => exact ⟨rfl, rfl⟩
  case round =>
    obtain ⟨rfl, rfl⟩ := hrel
    go_wp2_with fail
    go_ret
    exact ⟨rfl, B2⟩
theorem ref13_Weight (w : World) (k u : Int) (A : Option Addr) (cap : Nat) (l : List Nd) (hS : Sl w w.heap.size encN A l) (hI : ints l) (hm : l.length ≤ maxLen) :
    Calls Tryz.prog 63 #[.agg #[.int .i64 k, .int .i64 u, .slice A l.length cap]] w fun e w' => e = .returned (.int .i64 (totalOf l).1) ∧ Below w.heap.size w w' := by
  have HC := Lib.hid (ref7_Total · u A cap l · hI hm)
  have HS := Lib.hid hS
  clear hS hI hm
  go_enter Tryz.func63, Tryz.ntmps63
  go_wp2_with fail
  refine (HC.out _ (HS.out.keep (by simp) fun p hp => Go.RowKit.Below.cell (B := w.heap.size) (w := w) (by repeat (first | with_reducible exact Below.refl _ _ | with_reducible assumption | ((with_reducible refine Below.setCell ?_ ?_ _); rotate_left; · (first | omega | exact Nat.le_refl _ | (simp <;> omega))) | (with_reducible refine Below.allocW ?_ _) | (with_reducible refine Below.drew ?_) | (with_reducible refine Below.extW ?_ _))) hp)).mono ?_
  rintro e w1 ⟨rfl, hb1⟩
  have B1 : Below w.heap.size w w1 := Below.then_ (by repeat (first | with_reducible exact Below.refl _ _ | with_reducible assumption | ((with_reducible refine Below.setCell ?_ ?_ _); rotate_left; · (first | omega | exact Nat.le_refl _ | (simp <;> omega))) | (with_reducible refine Below.allocW ?_ _) | (with_reducible refine Below.drew ?_) | (with_reducible refine Below.extW ?_ _))) hb1
  have s1 : w.heap.size ≤ w1.heap.size := B1.size
  go_wp2_with fail
  go_ret
  exact ⟨rfl, (by repeat (first | with_reducible exact Below.refl _ _ | with_reducible assumption | ((with_reducible refine Below.setCell ?_ ?_ _); rotate_left; · (first | omega | exact Nat.le_refl _ | (simp <;> omega))) | (with_reducible refine Below.allocW ?_ _) | (with_reducible refine Below.drew ?_) | (with_reducible refine Below.extW ?_ _)))⟩
theorem rank_Low_nil (w : World) (y : Int) : Calls Tryz.prog 43 #[.pointer none, .int .i64 y] w fun e w' => e = .returned (.int .i64 0) ∧ Below w.heap.size w w' := by
  go_enter Tryz.func43, Tryz.ntmps43
  go_wp2_with fail
  refine (weigh_nil _ _).mono ?_
  rintro e w1 ⟨rfl, hb1⟩
  have B1 : Below w.heap.size w w1 := Below.then_ (by repeat (first | with_reducible exact Below.refl _ _ | with_reducible assumption | ((with_reducible refine Below.setCell ?_ ?_ _); rotate_left; · (first | omega | exact Nat.le_refl _ | (simp <;> omega))) | (with_reducible refine Below.allocW ?_ _) | (with_reducible refine Below.drew ?_) | (with_reducible refine Below.extW ?_ _))) hb1
  have s1 : w.heap.size ≤ w1.heap.size := B1.size
  go_wp2_with fail
  go_ret
  exact ⟨rfl, (by repeat (first | with_reducible exact Below.refl _ _ | with_reducible assumption | ((with_reducible refine Below.setCell ?_ ?_ _); rotate_left; · (first | omega | exact Nat.le_refl _ | (simp <;> omega))) | (with_reducible refine Below.allocW ?_ _) | (with_reducible refine Below.drew ?_) | (with_reducible refine Below.extW ?_ _)))⟩
theorem ref16_Low (w : World) (u : Int) (A : Option Addr) (cap : Nat) (l : List Nd) (y : Int) (hS : Sl w w.heap.size encN A l) (hI : ints l) (hm : l.length ≤ 67108864) (hr : Roll l) (hs : sumR l ≤ 72057594037927935) :
    Calls Tryz.prog 30 #[.int .i64 u, .slice A l.length cap, .int .i64 y] w fun e w' => e = .returned (.int .i64 (lowOf u l y)) ∧ Below w.heap.size w w' := by
  have HS := Lib.hid hS
  have HI := Lib.hid hI
  clear hS hI
  go_enter Tryz.func30, Tryz.ntmps30
  go_wp2_with fail
  go_loopw [7, 8] (fun n i wr => ∃ q : Nat, q ≤ l.length ∧ i = .int .i64 q ∧ n = .int .i64 (lowOf u (l.take q) y) ∧ Below w.heap.size w wr) (fun _ i _ => l.length - (intOf i).toNat)
  case atStart => exact ⟨0, Nat.zero_le _, rfl, rfl, Below.refl _ _⟩
  case round =>
    obtain ⟨q, hq, rfl, rfl, hB⟩ := hrel
    have hsz := hB.size
    by_cases hlt : q < l.length
    · obtain ⟨c, off, rfl, hc, hcl⟩ := (HS.out.below hB).at_ hlt
      have d0 := hcl 0 (.int .i64 l[q].1) rfl
      have d1 := hcl 1 (.int .i64 l[q].2) rfl
      simp only [Nat.add_zero] at d0
      have zc : c < wr.heap.size := by omega
      have hx := hr.2 _ (List.getElem_mem hlt)
      have hxi := (HI.out _ (List.getElem_mem hlt)).1
      have e1 := sumR_take_succ hlt
      have e2 := sumR_take_le hr (q + 1)
      have e5 := weighR_le (l := u) (f := fun _ hi => decide (hi ≤ y)) (hr.take q)
      have e6 : lowOf u (l.take (q + 1)) y = lowOf u (l.take q) y + lowOf u [l[q]] y := by
        unfold lowOf
        rw [List.take_succ_eq_append_getElem hlt, weighR_append]
      have i1 : (q : Int) < (l.length : Int) := by omega
      obtain ⟨x, hxe⟩ : ∃ x, x = l[q] := ⟨_, rfl⟩
      rw [← hxe] at d0 d1 hx hxi e1 e6
      have e7 : lowOf u [x] y = if decide ((endsOf u x.1).2.1 ≤ y) = true then x.2 else 0 := by simp only [lowOf, weighR]; simp
      have n0 : 0 ≤ lowOf u (l.take q) y := e5.1
      have n1 : lowOf u (l.take q) y + x.2 ≤ 72057594037927935 := by have := e5.2; unfold lowOf; omega
      have E6 := Lib.hid e6
      have E7 := Lib.hid e7
      have HE := Lib.hid (ref2_Ends · u x.1 hxi.2)
      generalize lowOf u (l.take q) y = m at n0 n1 E6 ⊢
      generalize endsOf u x.1 = t at E7 HE
      obtain ⟨t1, t2, t3⟩ := t
      unfold endsV at HE
      clear hcl e1 e2 e5 e6 e7 hxe hxi
      by_cases hle : t2 ≤ y
      · have E8 := Lib.hid (show lowOf u (l.take (q + 1)) y = m + x.2 by rw [E6.out, E7.out, if_pos (by simpa using hle)])
        go_wp2_with fail
        refine (HE.out _).mono ?_
        rintro e w1 ⟨rfl, hb1⟩
        have B1 : Below w.heap.size w w1 := Below.then_ (by repeat (first | with_reducible exact Below.refl _ _ | with_reducible assumption | ((with_reducible refine Below.setCell ?_ ?_ _); rotate_left; · (first | omega | exact Nat.le_refl _ | (simp <;> omega))) | (with_reducible refine Below.allocW ?_ _) | (with_reducible refine Below.drew ?_) | (with_reducible refine Below.extW ?_ _))) hb1
        have s1 : w.heap.size ≤ w1.heap.size := B1.size
        have z1_0 : c < w1.heap.size := by have := hb1.size; (try simp at this); omega
        have y1_0 : c ≤ w1.heap.size := Nat.le_of_lt z1_0
        have c1_0 := fun o => hb1.cell (p := ⟨c, o, none⟩) (by first | omega | (simp <;> omega))
        have f1_0 := fun o => hb1.frozen (p := ⟨c, o, none⟩) (by first | omega | (simp <;> omega))
        go_wp2_with fail
        go_roundw
        case rel => exact ⟨q + 1, by omega, by go_num, by rw [E8.out], B1⟩
        case measure => simp [intOf]; omega
      · have E8 := Lib.hid (show lowOf u (l.take (q + 1)) y = m by rw [E6.out, E7.out, if_neg (by simpa using hle)]; omega)
        go_wp2_with fail
        refine (HE.out _).mono ?_
        rintro e w1 ⟨rfl, hb1⟩
        have B1 : Below w.heap.size w w1 := Below.then_ (by repeat (first | with_reducible exact Below.refl _ _ | with_reducible assumption | ((with_reducible refine Below.setCell ?_ ?_ _); rotate_left; · (first | omega | exact Nat.le_refl _ | (simp <;> omega))) | (with_reducible refine Below.allocW ?_ _) | (with_reducible refine Below.drew ?_) | (with_reducible refine Below.extW ?_ _))) hb1
        have s1 : w.heap.size ≤ w1.heap.size := B1.size
        have z1_0 : c < w1.heap.size := by have := hb1.size; (try simp at this); omega
        have y1_0 : c ≤ w1.heap.size := Nat.le_of_lt z1_0
        have c1_0 := fun o => hb1.cell (p := ⟨c, o, none⟩) (by first | omega | (simp <;> omega))
        have f1_0 := fun o => hb1.frozen (p := ⟨c, o, none⟩) (by first | omega | (simp <;> omega))
        go_wp2_with fail
        go_roundw
        case rel => exact ⟨q + 1, by omega, by go_num, by rw [E8.out], B1⟩
        case measure => simp [intOf]; omega
    · obtain rfl : q = l.length := by omega
      rw [List.take_length]
      go_wp2_with fail
      go_ret
      exact ⟨rfl, hB⟩

theorem rank_High_nil (w : World) (y : Int) : Calls Tryz.prog 53 #[.pointer none, .int .i64 y] w fun e w' => e = .returned (.int .i64 0) ∧ Below w.heap.size w w' := by
  go_enter Tryz.func53, Tryz.ntmps53
  go_wp2_with fail
  refine (weigh_nil _ _).mono ?_
  rintro e w1 ⟨rfl, hb1⟩
  have B1 : Below w.heap.size w w1 := Below.then_ (by repeat (first | with_reducible exact Below.refl _ _ | with_reducible assumption | ((with_reducible refine Below.setCell ?_ ?_ _); rotate_left; · (first | omega | exact Nat.le_refl _ | (simp <;> omega))) | (with_reducible refine Below.allocW ?_ _) | (with_reducible refine Below.drew ?_) | (with_reducible refine Below.extW ?_ _))) hb1
  have s1 : w.heap.size ≤ w1.heap.size := B1.size
  go_wp2_with fail
  go_ret
  exact ⟨rfl, (by repeat (first | with_reducible exact Below.refl _ _ | with_reducible assumption | ((with_reducible refine Below.setCell ?_ ?_ _); rotate_left; · (first | omega | exact Nat.le_refl _ | (simp <;> omega))) | (with_reducible refine Below.allocW ?_ _) | (with_reducible refine Below.drew ?_) | (with_reducible refine Below.extW ?_ _)))⟩
theorem ref16_High (w : World) (u : Int) (A : Option Addr) (cap : Nat) (l : List Nd) (y : Int) (hS : Sl w w.heap.size encN A l) (hI : ints l) (hm : l.length ≤ 67108864) (hr : Roll l) (hs : sumR l ≤ 72057594037927935) :
    Calls Tryz.prog 31 #[.int .i64 u, .slice A l.length cap, .int .i64 y] w fun e w' => e = .returned (.int .i64 (highOf u l y)) ∧ Below w.heap.size w w' := by
  have HS := Lib.hid hS
  have HI := Lib.hid hI
  clear hS hI
  go_enter Tryz.func31, Tryz.ntmps31
  go_wp2_with fail
  go_loopw [7, 8] (fun n i wr => ∃ q : Nat, q ≤ l.length ∧ i = .int .i64 q ∧ n = .int .i64 (highOf u (l.take q) y) ∧ Below w.heap.size w wr) (fun _ i _ => l.length - (intOf i).toNat)
  case atStart => exact ⟨0, Nat.zero_le _, rfl, rfl, Below.refl _ _⟩
  case round =>
    obtain ⟨q, hq, rfl, rfl, hB⟩ := hrel
    have hsz := hB.size
    by_cases hlt : q < l.length
    · obtain ⟨c, off, rfl, hc, hcl⟩ := (HS.out.below hB).at_ hlt
      have d0 := hcl 0 (.int .i64 l[q].1) rfl
      have d1 := hcl 1 (.int .i64 l[q].2) rfl
      simp only [Nat.add_zero] at d0
      have zc : c < wr.heap.size := by omega
      have hx := hr.2 _ (List.getElem_mem hlt)
      have hxi := (HI.out _ (List.getElem_mem hlt)).1
      have e1 := sumR_take_succ hlt
      have e2 := sumR_take_le hr (q + 1)
      have e5 := weighR_le (l := u) (f := fun lo _ => decide (lo ≤ y)) (hr.take q)
      have e6 : highOf u (l.take (q + 1)) y = highOf u (l.take q) y + highOf u [l[q]] y := by
        unfold highOf
        rw [List.take_succ_eq_append_getElem hlt, weighR_append]
      have i1 : (q : Int) < (l.length : Int) := by omega
      obtain ⟨x, hxe⟩ : ∃ x, x = l[q] := ⟨_, rfl⟩
      rw [← hxe] at d0 d1 hx hxi e1 e6
      have e7 : highOf u [x] y = if decide ((endsOf u x.1).1 ≤ y) = true then x.2 else 0 := by simp only [highOf, weighR]; simp
      have n0 : 0 ≤ highOf u (l.take q) y := e5.1
      have n1 : highOf u (l.take q) y + x.2 ≤ 72057594037927935 := by have := e5.2; unfold highOf; omega
      have E6 := Lib.hid e6
      have E7 := Lib.hid e7
      have HE := Lib.hid (ref2_Ends · u x.1 hxi.2)
      generalize highOf u (l.take q) y = m at n0 n1 E6 ⊢
      generalize endsOf u x.1 = t at E7 HE
      obtain ⟨t1, t2, t3⟩ := t
      unfold endsV at HE
      clear hcl e1 e2 e5 e6 e7 hxe hxi
      by_cases hle : t1 ≤ y
      · have E8 := Lib.hid (show highOf u (l.take (q + 1)) y = m + x.2 by rw [E6.out, E7.out, if_pos (by simpa using hle)])
        go_wp2_with fail
        refine (HE.out _).mono ?_
        rintro e w1 ⟨rfl, hb1⟩
        have B1 : Below w.heap.size w w1 := Below.then_ (by repeat (first | with_reducible exact Below.refl _ _ | with_reducible assumption | ((with_reducible refine Below.setCell ?_ ?_ _); rotate_left; · (first | omega | exact Nat.le_refl _ | (simp <;> omega))) | (with_reducible refine Below.allocW ?_ _) | (with_reducible refine Below.drew ?_) | (with_reducible refine Below.extW ?_ _))) hb1
        have s1 : w.heap.size ≤ w1.heap.size := B1.size
        have z1_0 : c < w1.heap.size := by have := hb1.size; (try simp at this); omega
        have y1_0 : c ≤ w1.heap.size := Nat.le_of_lt z1_0
        have c1_0 := fun o => hb1.cell (p := ⟨c, o, none⟩) (by first | omega | (simp <;> omega))
        have f1_0 := fun o => hb1.frozen (p := ⟨c, o, none⟩) (by first | omega | (simp <;> omega))
        go_wp2_with fail
        go_roundw
        case rel => exact ⟨q + 1, by omega, by go_num, by rw [E8.out], B1⟩
        case measure => simp [intOf]; omega
      · have E8 := Lib.hid (show highOf u (l.take (q + 1)) y = m by rw [E6.out, E7.out, if_neg (by simpa using hle)]; omega)
        go_wp2_with fail
        refine (HE.out _).mono ?_
        rintro e w1 ⟨rfl, hb1⟩
        have B1 : Below w.heap.size w w1 := Below.then_ (by repeat (first | with_reducible exact Below.refl _ _ | with_reducible assumption | ((with_reducible refine Below.setCell ?_ ?_ _); rotate_left; · (first | omega | exact Nat.le_refl _ | (simp <;> omega))) | (with_reducible refine Below.allocW ?_ _) | (with_reducible refine Below.drew ?_) | (with_reducible refine Below.extW ?_ _))) hb1
        have s1 : w.heap.size ≤ w1.heap.size := B1.size
        have z1_0 : c < w1.heap.size := by have := hb1.size; (try simp at this); omega
        have y1_0 : c ≤ w1.heap.size := Nat.le_of_lt z1_0
        have c1_0 := fun o => hb1.cell (p := ⟨c, o, none⟩) (by first | omega | (simp <;> omega))
        have f1_0 := fun o => hb1.frozen (p := ⟨c, o, none⟩) (by first | omega | (simp <;> omega))
        go_wp2_with fail
        go_roundw
        case rel => exact ⟨q + 1, by omega, by go_num, by rw [E8.out], B1⟩
        case measure => simp [intOf]; omega
    · obtain rfl : q = l.length := by omega
      rw [List.take_length]
      go_wp2_with fail
      go_ret
      exact ⟨rfl, hB⟩
end Go.Proofs.YtcjnchjmpkapmaaGreat
/- The reference of layer 1 (reckon): numbers as digits to the base 1000. -/
namespace Go.Proofs.YtcjnchjmpkapmaaGreat
open Go.ChangeShapes Go.WideShapes Go.ChangeAt Go.RowKit
set_option linter.unusedVariables false

def encD : Enc Nat 1 := ⟨fun x => [.int .i64 x], fun _ => rfl, by intro x u hu; simp at hu; subst hu; rfl⟩
def dg (l : List Nat) (i : Nat) : Nat := l.getD i 0
def valD : List Nat → Nat
  | [] => 0
  | x :: l => x + 1000 * valD l
def okD (l : List Nat) : Prop := ∀ x ∈ l, x ≤ 999
theorem valD_snoc (l : List Nat) (x : Nat) : valD (l ++ [x]) = valD l + x * 1000 ^ l.length := by
  induction l with
  | nil => simp [valD]
  | cons y l ih =>
    simp only [List.cons_append, valD, ih, List.length_cons, Nat.pow_succ]
    rw [Nat.mul_add, show x * (1000 ^ l.length * 1000) = 1000 * (x * 1000 ^ l.length) by rw [← Nat.mul_assoc, Nat.mul_comm]]
    omega
theorem dg_le {l : List Nat} (h : okD l) (i : Nat) : dg l i ≤ 999 := by
  unfold dg
  rw [List.getD_eq_getElem?_getD]
  rcases hx : l[i]? with _ | x
  · simp
  · simp only [Option.getD_some]
    exact h x (List.mem_of_getElem? hx)
theorem dg_at {l : List Nat} {i : Nat} (h : i < l.length) : dg l i = l[i] := by
  unfold dg
  rw [List.getD_eq_getElem?_getD, List.getElem?_eq_getElem h]; rfl
theorem dg_out {l : List Nat} {i : Nat} (h : l.length ≤ i) : dg l i = 0 := by
  unfold dg
  rw [List.getD_eq_getElem?_getD, List.getElem?_eq_none h]; rfl
theorem valD_take_succ (l : List Nat) (i : Nat) : valD (l.take (i + 1)) = valD (l.take i) + dg l i * 1000 ^ i := by
  by_cases h : i < l.length
  · rw [List.take_succ_eq_append_getElem h, valD_snoc, List.length_take, Nat.min_eq_left (by omega), dg_at h]
  · rw [dg_out (by omega), List.take_of_length_le (by omega), List.take_of_length_le (by omega)]; simp
theorem okD.take {l : List Nat} (h : okD l) (i : Nat) : okD (l.take i) := fun x hx => h x (List.mem_of_mem_take hx)
theorem okD.snoc {l : List Nat} (h : okD l) {x : Nat} (hx : x ≤ 999) : okD (l ++ [x]) := by
  intro y hy
  rcases List.mem_append.1 hy with hy | hy
  · exact h y hy
  · simp at hy; omega
theorem okD.nil : okD [] := fun x hx => by simp at hx
theorem valD_take_lt {l : List Nat} (h : okD l) (i : Nat) : valD (l.take i) < 1000 ^ i := by
  induction i with
  | zero => simp [valD]
  | succ i ih =>
    rw [valD_take_succ, Nat.pow_succ]
    have h1 := dg_le h i
    have h2 : dg l i * 1000 ^ i ≤ 999 * 1000 ^ i := Nat.mul_le_mul_right _ h1
    omega
theorem valD_zeros (k : Nat) : valD (List.replicate k 0) = 0 := by
  induction k with
  | zero => rfl
  | succ k ih => rw [List.replicate_succ]; simp [valD, ih]
theorem okD.zeros (k : Nat) : okD (List.replicate k 0) := fun x hx => by have := (List.mem_replicate.1 hx).2; omega
theorem zeros_snoc (k : Nat) : List.replicate k 0 ++ [0] = List.replicate (k + 1) 0 := by rw [List.replicate_succ']

/-- One digit of a number n = m * 1000^e more. -/
theorem digit_step {V m e n : Nat} (h : V + m * 1000 ^ e = n) : V + m % 1000 * 1000 ^ e + m / 1000 * 1000 ^ (e + 1) = n := by
  have h1 : m / 1000 * 1000 ^ (e + 1) = 1000 * (m / 1000) * 1000 ^ e := by rw [Nat.pow_succ, Nat.mul_comm (1000 ^ e), ← Nat.mul_assoc, Nat.mul_comm (m / 1000)]
  have h2 : m % 1000 * 1000 ^ e + 1000 * (m / 1000) * 1000 ^ e = m * 1000 ^ e := by rw [← Nat.add_mul, Nat.mod_add_div]
  omega
theorem digits_few {V m e n : Nat} (h : V + m * 1000 ^ e = n) (hm : 1 ≤ m) (hn : n < 9223372036854775808) : e < 7 := by
  have h1 : 1000 ^ e ≤ m * 1000 ^ e := Nat.le_mul_of_pos_left _ hm
  refine (Nat.pow_lt_pow_iff_right (a := 1000) (by decide)).1 ?_
  have : (1000 : Nat) ^ 7 = 1000000000000000000000 := by decide
  omega

theorem ref1_Is (w : World) (n : Int) : Calls Tryz.prog 160 #[.int .i64 n] w fun e w' => e = .returned (.bool (decide (0 ≤ n))) ∧ Below w.heap.size w w' := by
  go_enter Tryz.func160, Tryz.ntmps160
  go_wp2_with fail
  go_ret
  exact ⟨rfl, (by repeat (first | with_reducible exact Below.refl _ _ | with_reducible assumption | ((with_reducible refine Below.setCell ?_ ?_ _); rotate_left; · (first | omega | exact Nat.le_refl _ | (simp <;> omega))) | (with_reducible refine Below.allocW ?_ _) | (with_reducible refine Below.drew ?_) | (with_reducible refine Below.extW ?_ _)))⟩
theorem ref1_digit (w : World) (A : Option Addr) (cap : Nat) (l : List Nat) (i : Nat) (hS : Sl w w.heap.size encD A l) (hm : l.length ≤ 1000000) (hi : i ≤ 1000000) :
    Calls Tryz.prog 131 #[.slice A l.length cap, .int .i64 i] w fun e w' => e = .returned (.int .i64 (dg l i)) ∧ Below w.heap.size w w' := by
  by_cases h : i < l.length
  · obtain ⟨b, off, rfl, hb, hc⟩ := hS.at_ h
    have d0 := hc 0 (.int .i64 l[i]) rfl
    simp only [Nat.add_zero, Nat.mul_one] at d0
    rw [← dg_at h] at d0
    clear hS hc
    go_enter Tryz.func131, Tryz.ntmps131
    go_wp2_with fail
    go_ret
    exact ⟨rfl, (by repeat (first | with_reducible exact Below.refl _ _ | with_reducible assumption | ((with_reducible refine Below.setCell ?_ ?_ _); rotate_left; · (first | omega | exact Nat.le_refl _ | (simp <;> omega))) | (with_reducible refine Below.allocW ?_ _) | (with_reducible refine Below.drew ?_) | (with_reducible refine Below.extW ?_ _)))⟩
  · rw [dg_out (by omega)]
    clear hS
    go_enter Tryz.func131, Tryz.ntmps131
    go_wp2_with fail
    go_ret
    exact ⟨rfl, (by repeat (first | with_reducible exact Below.refl _ _ | with_reducible assumption | ((with_reducible refine Below.setCell ?_ ?_ _); rotate_left; · (first | omega | exact Nat.le_refl _ | (simp <;> omega))) | (with_reducible refine Below.allocW ?_ _) | (with_reducible refine Below.drew ?_) | (with_reducible refine Below.extW ?_ _)))⟩
theorem ref1_Digits (w : World) (n : Nat) (hn : n < 9223372036854775808) :
    Calls Tryz.prog 56 #[.int .i64 n] w fun e w' => ∃ v L, e = .returned v ∧ Own w' w.heap.size 3 encD v L ∧ okD L ∧ valD L = n ∧ L.length ≤ 7 ∧ Below w.heap.size w w' := by
  go_enter Tryz.func56, Tryz.ntmps56
  go_wp2_with fail
  go_loopw [0, 3] (fun a v wr => ∃ (m : Nat) (L : List Nat), a = .int .i64 m ∧ Own wr w.heap.size 3 encD v L ∧ okD L ∧ valD L + m * 1000 ^ L.length = n ∧ L.length ≤ 7 ∧ m ≤ n ∧ Below w.heap.size w wr) (fun a _ _ => (intOf a).toNat)
  case atStart => exact ⟨n, [], rfl, Own.nil _ _ _ _, okD.nil, by simp [valD], by simp, Nat.le_refl _, Below.refl _ _⟩
  case round =>
    obtain ⟨m, L, rfl, hO, hk, hv, hL, hmn, hB⟩ := hrel
    have HO := Lib.hid hO
    have HK := Lib.hid hk
    have HV := Lib.hid hv
    have hs := hB.size
    clear hO hk hv
    by_cases h : 1 ≤ m
    · have h7 := digits_few HV.out h hn
      obtain ⟨r, hr⟩ : ∃ r, r = m % 1000 := ⟨_, rfl⟩
      obtain ⟨k, hq⟩ : ∃ k, k = m / 1000 := ⟨_, rfl⟩
      have e1 : (m : Int) % 1000 = (r : Int) := by omega
      have e2 : (m : Int) / 1000 = (k : Int) := by omega
      have HN := Lib.hid (digit_step HV.out)
      rw [← hr, ← hq] at HN
      have hr9 : r ≤ 999 := by omega
      have hk9 : k < m := by omega
      clear hr hq
      go_wp2_with ((at_builtin; refine wpList_push tyZ rfl _ _ rfl encD wr w.heap.size u3 _ rfl HO.out r (by go_simp) rfl ?c1 ?c2 ?c3 ?c4))
      case c1 => omega
      case c2 => simp only [maxLen]; omega
      case c3 => exact hs
      case c4 =>
        intro v' w2 hown2 hgrow _ hlies hb2 _
        have HO2 := Lib.hid hown2
        clear hown2
        go_wp2_with fail
        go_roundw
        case rel => exact ⟨k, L ++ [r], by go_num, HO2.out, HK.out.snoc hr9, by rw [valD_snoc, List.length_append]; exact HN.out, by simp; omega, by omega, Below.trans hB hb2⟩
        case measure => simp [intOf]; omega
    · obtain rfl : m = 0 := by omega
      go_wp2_with fail
      go_ret
      exact ⟨_, _, rfl, HO.out, HK.out, by have := HV.out; omega, hL, hB⟩
theorem ref1_Sum (w : World) (A B : Option Addr) (c1 c2 : Nat) (a b : List Nat) (hA : Sl w w.heap.size encD A a) (hB : Sl w w.heap.size encD B b) (ka : okD a) (kb : okD b) (la : a.length ≤ 1000) (lb : b.length ≤ 1000) :
    Calls Tryz.prog 54 #[.slice A a.length c1, .slice B b.length c2] w fun e w' => ∃ v L, e = .returned v ∧ Own w' w.heap.size 3 encD v L ∧ okD L ∧ valD L = valD a + valD b ∧ (L.length ≤ a.length + 1 ∨ L.length ≤ b.length + 1) ∧ Below w.heap.size w w' := by
  have HA := Lib.hid hA
  have HB := Lib.hid hB
  have KA := Lib.hid ka
  have KB := Lib.hid kb
  clear hA hB ka kb
  go_enter Tryz.func54, Tryz.ntmps54
  go_wp2_with fail
  go_loopw [5, 6, 7] (fun v c i wr => ∃ (m j : Nat) (L : List Nat), c = .int .i64 m ∧ i = .int .i64 j ∧ Own wr w.heap.size 3 encD v L ∧ okD L ∧ L.length = j ∧ valD L + m * 1000 ^ j = valD (a.take j) + valD (b.take j) ∧ m ≤ 1 ∧ (j ≤ a.length ∨ j ≤ b.length ∨ ((j ≤ a.length + 1 ∨ j ≤ b.length + 1) ∧ m = 0)) ∧ Below w.heap.size w wr) (fun _ _ i _ => a.length + b.length + 2 - (intOf i).toNat)
  case atStart => exact ⟨0, 0, [], rfl, rfl, Own.nil _ _ _ _, okD.nil, rfl, by simp [valD], by omega, .inl (Nat.zero_le _), Below.refl _ _⟩
  case round =>
    obtain ⟨m, j, L, rfl, rfl, hO, hk, hl, hv, hm, hj, hW⟩ := hrel
    have HO := Lib.hid hO
    have HK := Lib.hid hk
    have HV := Lib.hid hv
    have hs := hW.size
    clear hO hk hv
    have hd := dg_le KA.out j
    have hd' := dg_le KB.out j
    have DA := Lib.hid (ref1_digit · A c1 a j · (by omega) (by omega))
    have DB := Lib.hid (ref1_digit · B c2 b j · (by omega) (by omega))
    have HN := Lib.hid (show valD L + (m + dg a j + dg b j) * 1000 ^ j = valD (a.take (j + 1)) + valD (b.take (j + 1)) by
      rw [valD_take_succ, valD_take_succ, Nat.add_mul, Nat.add_mul]; have := HV.out; omega)
    have HX := Lib.hid (fun h : a.length ≤ j => dg_out (l := a) h)
    have HY := Lib.hid (fun h : b.length ≤ j => dg_out (l := b) h)
    generalize dg a j = x at hd DA HN HX
    generalize dg b j = y at hd' DB HN HY
    obtain ⟨r, hr⟩ : ∃ r, r = (m + x + y) % 1000 := ⟨_, rfl⟩
    obtain ⟨k, hq⟩ : ∃ k, k = (m + x + y) / 1000 := ⟨_, rfl⟩
    have e1 : ((m : Int) + (x : Int) + (y : Int)) % 1000 = (r : Int) := by omega
    have e2 : ((m : Int) + (x : Int) + (y : Int)) / 1000 = (k : Int) := by omega
    have HN2 := Lib.hid (digit_step HN.out)
    rw [← hr, ← hq] at HN2
    have hr9 : r ≤ 999 := by omega
    have hk9 : k ≤ 1 := by omega
    have hk0 : k = 0 ∨ j < a.length ∨ j < b.length := by
      by_cases h1 : j < a.length
      · exact .inr (.inl h1)
      · by_cases h2 : j < b.length
        · exact .inr (.inr h2)
        · left
          have hx0 := HX.out (by omega)
          have hy0 := HY.out (by omega)
          omega
    have HK0 := Lib.hid hk0
    clear hr hq hk0
    by_cases hc : j < a.length ∨ j < b.length ∨ 0 < m
    · rcases (show j < a.length ∨ (¬ j < a.length ∧ j < b.length) ∨ (¬ j < a.length ∧ ¬ j < b.length ∧ 0 < m) by omega) with h1 | ⟨h1, h2⟩ | ⟨h1, h2, h3⟩
      all_goals (
        have HJ := Lib.hid (show j ≤ a.length ∨ j ≤ b.length by omega)
        have hj1 : j ≤ 1000 := by omega
        clear hc hj
        go_wp2_with fail
        refine (DA.out _ (HA.out.keep (by omega) fun p hp => hW.cell hp)).mono ?_
        rintro e w1 ⟨rfl, hb1⟩
        have B1 : Below w.heap.size w w1 := Below.then_ (by repeat (first | with_reducible exact Below.refl _ _ | with_reducible assumption | ((with_reducible refine Below.setCell ?_ ?_ _); rotate_left; · (first | omega | exact Nat.le_refl _ | (simp <;> omega))) | (with_reducible refine Below.allocW ?_ _) | (with_reducible refine Below.drew ?_) | (with_reducible refine Below.extW ?_ _))) hb1
        have s1 : w.heap.size ≤ w1.heap.size := B1.size
        have W1 := hW.trans (hb1.mono hs)
        go_wp2_with fail
        refine (DB.out _ (HB.out.keep (by omega) fun p hp => W1.cell hp)).mono ?_
        rintro e w2 ⟨rfl, hb2⟩
        have B2 : Below w.heap.size w w2 := Below.then_ (by repeat (first | with_reducible exact Below.refl _ _ | with_reducible assumption | ((with_reducible refine Below.setCell ?_ ?_ _); rotate_left; · (first | omega | exact Nat.le_refl _ | (simp <;> omega))) | (with_reducible refine Below.allocW ?_ _) | (with_reducible refine Below.drew ?_) | (with_reducible refine Below.extW ?_ _))) hb2
        have s2 : w.heap.size ≤ w2.heap.size := B2.size
        have W2 := W1.trans (hb2.mono (by omega))
        have O2 := Lib.hid ((HO.out.below hb1).below hb2)
        clear hb1 hb2 B1 B2
        go_wp2_with ((at_builtin; refine wpList_push tyZ rfl _ _ rfl encD w2 w.heap.size u5 _ rfl O2.out r (by go_simp) rfl ?c1 ?c2 ?c3 ?c4))
        case c1 => omega
        case c2 => simp only [maxLen]; omega
        case c3 => exact W2.size
        case c4 =>
          intro v' w3 hown3 hgrow _ hlies hb3 _
          have HO3 := Lib.hid hown3
          clear hown3
          have W3 := Below.trans W2 hb3
          have hl1 : (L ++ [r]).length = j + 1 := by rw [List.length_append, hl]; rfl
          have HL1 := Lib.hid hl1
          clear hl1
          go_wp2_with fail
          go_roundw
          case rel => exact ⟨k, j + 1, L ++ [r], by go_num, by go_num, HO3.out, HK.out.snoc hr9, HL1.out, by rw [valD_snoc, hl]; exact HN2.out, hk9, by have := HK0.out; have := HJ.out; omega, W3⟩
          case measure => have := HJ.out; simp [intOf]; omega)
    · have h1 : ¬ j < a.length := by omega
      have h2 : ¬ j < b.length := by omega
      obtain rfl : m = 0 := by omega
      clear hc
      have HV2 := Lib.hid (show valD L = valD a + valD b by have := HV.out; rw [List.take_of_length_le (by omega), List.take_of_length_le (by omega)] at this; omega)
      go_wp2_with fail
      go_ret
      exact ⟨_, rfl, _, HO.out, HK.out, HV2.out, by omega, hW⟩
end Go.Proofs.YtcjnchjmpkapmaaGreat
/- The reference of layer 1 (reckon): digits multiplied, compared, divided. -/
namespace Go.Proofs.YtcjnchjmpkapmaaGreat
open Go.ChangeShapes Go.WideShapes Go.ChangeAt Go.RowKit
set_option linter.unusedVariables false

theorem times_step {V m x y p q j : Nat} (a : List Nat) (hx : x = dg a q) (hp : p = x * y) (h : V + m * 1000 ^ (j + q) = valD (a.take q) * (y * 1000 ^ j)) :
    V + (m + p) * 1000 ^ (j + q) = valD (a.take (q + 1)) * (y * 1000 ^ j) := by
  rw [valD_take_succ, ← hx, Nat.add_mul, Nat.add_mul, ← h, hp]
  have e : x * 1000 ^ q * (y * 1000 ^ j) = x * y * 1000 ^ (j + q) := by
    rw [Nat.pow_add, Nat.mul_comm (1000 ^ j), Nat.mul_mul_mul_comm]
  rw [e, Nat.add_assoc]
theorem times_row {T V y j : Nat} (A : Nat) (b : List Nat) (hy : y = dg b j) (hT : T = A * valD (b.take j)) (hV : V = A * (y * 1000 ^ j)) : T + V = A * valD (b.take (j + 1)) := by
  rw [valD_take_succ, ← hy, Nat.mul_add, hT, hV]

set_option maxRecDepth 100000 in
set_option maxHeartbeats 1000000 in
theorem ref1_Times (w : World) (A B : Option Addr) (c1 c2 : Nat) (a b : List Nat) (hA : Sl w w.heap.size encD A a) (hB : Sl w w.heap.size encD B b) (ka : okD a) (kb : okD b) (la : a.length ≤ 100) (lb : b.length ≤ 100) :
    Calls Tryz.prog 55 #[.slice A a.length c1, .slice B b.length c2] w fun e w' => ∃ v, e = .returned v ∧ ∃ L, Own w' w.heap.size 3 encD v L ∧ okD L ∧ valD L = valD a * valD b ∧ L.length ≤ a.length + 2 * b.length + 1 ∧ Below w.heap.size w w' := by
  have HA := Lib.hid hA
  have HB := Lib.hid hB
  have KA := Lib.hid ka
  have KB := Lib.hid kb
  clear hA hB ka kb
  go_enter Tryz.func55, Tryz.ntmps55
  go_wp2_with fail
  go_loopw [5, 6] (fun t i wr => ∃ (j : Nat) (T : List Nat), i = .int .i64 j ∧ j ≤ b.length ∧ Own wr w.heap.size 3 encD t T ∧ okD T ∧ valD T = valD a * valD (b.take j) ∧ T.length ≤ a.length + 2 * j + 1 ∧ Below w.heap.size w wr) (fun _ i _ => b.length - (intOf i).toNat)
  case atStart => exact ⟨0, [], rfl, Nat.zero_le _, Own.nil _ _ _ _, okD.nil, by simp [valD], by simp, Below.refl _ _⟩
  case round =>
    obtain ⟨w1, hw1⟩ : ∃ W, W = wr := ⟨_, rfl⟩
    subst hw1
    obtain ⟨j, T, rfl, hj, hT, hkT, hvT, hlT, hW⟩ := hrel
    have HT := Lib.hid hT
    have KT := Lib.hid hkT
    have VT := Lib.hid hvT
    have hs := hW.size
    have HAr := Lib.hid (HA.out.keep (B' := w1.heap.size) hs fun p hp => hW.cell hp)
    have HBr := Lib.hid (HB.out.keep (B' := w1.heap.size) hs fun p hp => hW.cell hp)
    clear hT hkT hvT
    by_cases hlt : j < b.length
    · obtain ⟨bb, off, rfl, hbb, hc⟩ := HBr.out.at_ hlt
      have d0 := hc 0 (.int .i64 b[j]) rfl
      simp only [Nat.add_zero, Nat.mul_one] at d0
      rw [← dg_at hlt] at d0
      have hy := dg_le KB.out j
      have VT2 : Hid (∀ V, V = valD a * (dg b j * 1000 ^ j) → valD T + V = valD a * valD (b.take (j + 1))) := Lib.hid fun V h => times_row (T := valD T) (V := V) (j := j) (valD a) b rfl VT.out h
      generalize dg b j = y at d0 hy VT2
      have hj1 : j ≤ 100 := by omega
      clear hc
      go_wp2_with fail
      go_loopw [7, 8] (fun v i w2 => ∃ k : Nat, k ≤ j ∧ i = .int .i64 k ∧ Own w2 w1.heap.size 3 encD v (List.replicate k 0) ∧ Below w1.heap.size w1 w2) (fun _ i _ => j - (intOf i).toNat)
      case atStart => exact ⟨0, Nat.zero_le _, rfl, Own.nil _ _ _ _, Below.refl _ _⟩
      case round =>
        obtain ⟨w2, hw2⟩ : ∃ W, W = wr := ⟨_, rfl⟩
        subst hw2
        obtain ⟨k, hk, rfl, hO, hW2⟩ := hrel
        have HO := Lib.hid hO
        have hs2 := hW2.size
        clear hO
        by_cases hkj : k < j
        · go_wp2_with ((at_builtin; refine wpList_push tyZ rfl _ _ rfl encD w2 w1.heap.size u7 _ rfl HO.out 0 (by go_simp) rfl ?c1 ?c2 ?c3 ?c4))
          case c1 => simp; omega
          case c2 => simp [maxLen]; omega
          case c3 => exact hs2
          case c4 =>
            intro v' w3 hown3 hgrow _ hlies hb3 _
            rw [zeros_snoc] at hown3
            have HO3 := Lib.hid hown3
            clear hown3
            have W3 := Below.trans hW2 hb3
            go_wp2_with fail
            go_roundw
            case rel => exact ⟨k + 1, by omega, by go_num, HO3.out, W3⟩
            case measure => simp [intOf]; omega
        · obtain rfl : k = j := by omega
          go_wp2_with fail
          go_loopw [7, 9, 10] (fun v c i w3 => ∃ (m q : Nat) (L : List Nat), c = .int .i64 m ∧ i = .int .i64 q ∧ Own w3 w1.heap.size 3 encD v L ∧ okD L ∧ L.length = k + q ∧ valD L + m * 1000 ^ (k + q) = valD (a.take q) * (y * 1000 ^ k) ∧ m ≤ 999 ∧ (q ≤ a.length ∨ (q = a.length + 1 ∧ m = 0)) ∧ Below w1.heap.size w1 w3) (fun _ _ i _ => a.length + 2 - (intOf i).toNat)
          case atStart => exact ⟨0, 0, _, rfl, rfl, HO.out, okD.zeros _, by simp, by simp [valD, valD_zeros], by omega, .inl (Nat.zero_le _), hW2⟩
          case round =>
            obtain ⟨w3, hw3⟩ : ∃ W, W = wr := ⟨_, rfl⟩
            subst hw3
            obtain ⟨m, q, L, rfl, rfl, hO3, hk3, hl3, hv3, hm, hq, hW3⟩ := hrel
            have HO3 := Lib.hid hO3
            have HK3 := Lib.hid hk3
            have HL3 := Lib.hid hl3
            have hs3 := hW3.size
            have W3w : Below w.heap.size w w3 := hW.trans (hW3.mono hs)
            have ll : L.length ≤ 300 := by omega
            clear hO3 hk3 hl3
            by_cases hc : q < a.length ∨ 0 < m
            · have hq1 : q ≤ a.length := by omega
              have HSA := Lib.hid (HAr.out.keep (B' := w3.heap.size) hs3 fun p hp => hW3.cell hp)
              have d1 := (hW3.cell (p := ⟨bb, off + k, none⟩) hbb).trans d0
              have zb := Nat.lt_of_lt_of_le hbb hs3
              have DA := Lib.hid (ref1_digit · A c1 a q · (by omega) (by omega))
              have hx := dg_le KA.out q
              have HN : Hid (∀ p, p = dg a q * y → valD L + (m + p) * 1000 ^ (k + q) = valD (a.take (q + 1)) * (y * 1000 ^ k)) := Lib.hid fun p hp => times_step a rfl hp hv3
              have HX := Lib.hid (fun h : a.length ≤ q => dg_out (l := a) h)
              generalize dg a q = x at hx DA HN HX
              obtain ⟨p, hp⟩ : ∃ p, p = x * y := ⟨_, rfl⟩
              have hp9 : p ≤ 999 * 999 := by rw [hp]; exact Nat.mul_le_mul hx hy
              have hp0 : x = 0 → p = 0 := fun h => by rw [hp, h, Nat.zero_mul]
              have e0 : (x : Int) * (y : Int) = (p : Int) := by rw [hp]; push_cast; rfl
              obtain ⟨t, ht⟩ : ∃ t, t = m + p := ⟨_, rfl⟩
              obtain ⟨r, hr⟩ : ∃ r, r = t % 1000 := ⟨_, rfl⟩
              obtain ⟨n, hn⟩ : ∃ n, n = t / 1000 := ⟨_, rfl⟩
              have e1 : (m : Int) + (p : Int) = (t : Int) := by omega
              have e2 : (t : Int) % 1000 = (r : Int) := by omega
              have e3 : (t : Int) / 1000 = (n : Int) := by omega
              have HN2 := Lib.hid (digit_step (HN.out p hp))
              rw [← ht, ← hr, ← hn] at HN2
              have hr9 : r ≤ 999 := by omega
              have hn9 : n ≤ 999 := by omega
              have ht9 : t ≤ 1000000 := by omega
              have HZ : Hid (n = 0 ∨ q < a.length) := Lib.hid (by
                by_cases h : q < a.length
                · exact .inr h
                · have := hp0 (HX.out (by omega))
                  left; omega)
              clear hv3 hp hp0 hr hn ht
              rcases (show q < a.length ∨ (¬ q < a.length ∧ 0 < m) by omega) with h1 | ⟨h1, h2⟩
              all_goals (
                clear hc hq
                go_wp2_with fail
                refine wp_region_ext (by kernel_rfl) (by kernel_rfl) ?_
                repeat (go_big_quiet_step ((go_at_call 131; exact quiet_ext (DA.out _ (HSA.out.keep (ext_below _ _).size fun p hp => (ext_below _ _).cell hp)))))
                refine wpQuiet_nil ?_
                intro w4 hb4
                replace hb4 := below_of_ext hb4
                have B4 : Below w.heap.size w w4 := Below.then_ (by repeat (first | with_reducible exact Below.refl _ _ | with_reducible assumption | ((with_reducible refine Below.setCell ?_ ?_ _); rotate_left; · (first | omega | exact Nat.le_refl _ | (simp <;> omega))) | (with_reducible refine Below.allocW ?_ _) | (with_reducible refine Below.drew ?_) | (with_reducible refine Below.extW ?_ _))) hb4
                have s4 : w.heap.size ≤ w4.heap.size := B4.size
                have O4 := Lib.hid (HO3.out.below hb4)
                have W4 := hW3.trans (hb4.mono hs3)
                clear B4
                go_wp2_with ((at_builtin; refine wpList_push tyZ rfl _ _ rfl encD w4 w1.heap.size u7 _ rfl O4.out r (by go_simp) rfl ?c1 ?c2 ?c3 ?c4))
                case c1 => omega
                case c2 => simp only [maxLen]; omega
                case c3 => exact W4.size
                case c4 =>
                  intro v' w5 hown5 hgrow _ hlies hb5 _
                  have HO5 := Lib.hid hown5
                  clear hown5
                  have W5 := Below.trans W4 hb5
                  go_wp2_with fail
                  go_roundw
                  case rel => exact ⟨n, q + 1, L ++ [r], by go_num, by go_num, HO5.out, HK3.out.snoc hr9, by rw [List.length_append, HL3.out]; rfl, by rw [valD_snoc, HL3.out]; exact HN2.out, hn9, by have := HZ.out; omega, W5⟩
                  case measure => simp [intOf]; omega)
            · have h1 : ¬ q < a.length := by omega
              obtain rfl : m = 0 := by omega
              have HV3 := Lib.hid (VT2.out (valD L) (by rw [List.take_of_length_le (by omega)] at hv3; omega))
              have hl9 : L.length ≤ a.length + k + 1 := by have := HL3.out; omega
              clear hc hv3
              have OT := Lib.hid (HT.out.below hW3)
              obtain ⟨A1, cp1, rfl, _, _, hS1, _⟩ := OT.out.form
              obtain ⟨A2, cp2, rfl, _, _, hS2, _⟩ := HO3.out.form
              have HS1 := Lib.hid hS1
              have HS2 := Lib.hid hS2
              clear hS1 hS2
              go_wp2_with fail
              refine (ref1_Sum _ A1 A2 cp1 cp2 T L HS1.out HS2.out KT.out HK3.out (by omega) (by omega)).mono ?_
              rintro e w4 ⟨v4, L4, rfl, ho4, k4, e4, l4, hb4⟩
              have HO4 := Lib.hid (ho4.base_le (b := w.heap.size) (by omega))
              have K4 := Lib.hid k4
              have E4 := Lib.hid (e4.trans HV3.out)
              have W4 := (hW.trans (hW3.mono hs)).trans (hb4.mono (by omega))
              have ll4 : L4.length ≤ a.length + 2 * (k + 1) + 1 := by omega
              clear ho4 k4 e4 l4
              go_wp2_with fail
              go_roundw
              case rel => exact ⟨k + 1, L4, by go_num, by omega, HO4.out, K4.out, E4.out, ll4, W4⟩
              case measure => simp [intOf]; omega
    · obtain rfl : j = b.length := by omega
      have HV2 := Lib.hid (show valD T = valD a * valD b by have := VT.out; rw [List.take_of_length_le (by omega)] at this; exact this)
      go_wp2_with fail
      go_ret
      exact ⟨_, rfl, _, HT.out, KT.out, HV2.out, hlT, hW⟩

/-- Which of two numbers is the lesser. -/
def cmpV (x y : Nat) : Int := if x < y then -1 else if y < x then 1 else 0
theorem cmpV_le (x y : Nat) : (cmpV x y ≤ 0) ↔ x ≤ y := by unfold cmpV; split <;> (try split) <;> omega
theorem cmpV_lt (x y : Nat) : (cmpV x y < 0) ↔ x < y := by unfold cmpV; split <;> (try split) <;> omega
theorem cmpV_range (x y : Nat) : -1 ≤ cmpV x y ∧ cmpV x y ≤ 1 := by unfold cmpV; split <;> (try split) <;> omega
theorem cmpV_eq {x y : Nat} (h : x = y) : cmpV x y = 0 := by unfold cmpV; rw [if_neg (by omega), if_neg (by omega)]
theorem cmpV_less {x y : Nat} (h : x < y) : cmpV x y = -1 := if_pos h
theorem cmpV_more {x y : Nat} (h : y < x) : cmpV x y = 1 := by unfold cmpV; rw [if_neg (by omega), if_pos h]
theorem less_digit {X Y : Nat} {a b : List Nat} (ka : okD a) {p : Nat} (h : X + valD (b.take (p + 1)) = Y + valD (a.take (p + 1))) (hx : dg a p < dg b p) : X < Y := by
  rw [valD_take_succ, valD_take_succ] at h
  have h1 := valD_take_lt ka p
  have h2 : (dg a p + 1) * 1000 ^ p ≤ dg b p * 1000 ^ p := Nat.mul_le_mul_right _ hx
  rw [Nat.add_mul] at h2
  omega
set_option maxHeartbeats 1000000 in
theorem ref1_Less (w : World) (A B : Option Addr) (c1 c2 : Nat) (a b : List Nat) (hA : Sl w w.heap.size encD A a) (hB : Sl w w.heap.size encD B b) (ka : okD a) (kb : okD b) (la : a.length ≤ 1000) (lb : b.length ≤ 1000) :
    Calls Tryz.prog 132 #[.slice A a.length c1, .slice B b.length c2] w fun e w' => e = .returned (.int .i64 (cmpV (valD a) (valD b))) ∧ Below w.heap.size w w' := by
  have HA := Lib.hid hA
  have HB := Lib.hid hB
  have KA := Lib.hid ka
  have KB := Lib.hid kb
  clear hA hB ka kb
  rcases (show a.length < b.length ∨ ¬ a.length < b.length by omega) with h0 | h0
  all_goals (
    go_enter Tryz.func132, Tryz.ntmps132
    go_wp2_with fail
    go_loopw [6] (fun i wr => ∃ (z : Int) (q : Nat), i = .int .i64 z ∧ z + 1 = q ∧ q ≤ 1000 ∧ valD a + valD (b.take q) = valD b + valD (a.take q) ∧ Below w.heap.size w wr) (fun i _ => (intOf i + 1).toNat)
    case atStart =>
      first
        | exact ⟨_, b.length, rfl, by omega, lb, by rw [List.take_of_length_le (by omega), List.take_of_length_le (by omega)]; omega, Below.refl _ _⟩
        | exact ⟨_, a.length, rfl, by omega, la, by rw [List.take_of_length_le (by omega), List.take_of_length_le (by omega)]; omega, Below.refl _ _⟩
    case round =>
      obtain ⟨z, q, rfl, hz, hq, hv, hW⟩ := hrel
      have hs := hW.size
      rcases q with _ | p
      · have hz0 : z = -1 := by omega
        subst hz0
        have HE := Lib.hid (cmpV_eq (show valD a = valD b by simpa [valD] using hv))
        clear hv
        go_wp2_with fail
        go_ret
        exact ⟨by rw [HE.out]; rfl, hW⟩
      · obtain rfl : z = (p : Int) := by omega
        have HA1 := Lib.hid (HA.out.keep (B' := wr.heap.size) hs fun p hp => hW.cell hp)
        have HB1 := Lib.hid (HB.out.keep (B' := wr.heap.size) hs fun p hp => hW.cell hp)
        have DA := Lib.hid (ref1_digit · A c1 a p · (by omega) (by omega))
        have DB := Lib.hid (ref1_digit · B c2 b p · (by omega) (by omega))
        have hx := dg_le KA.out p
        have hy := dg_le KB.out p
        have H1 := Lib.hid (fun h => cmpV_less (less_digit KA.out hv h))
        have H2 := Lib.hid (fun h => cmpV_more (less_digit KB.out hv.symm h))
        have H3 : Hid (dg a p = dg b p → valD a + valD (b.take p) = valD b + valD (a.take p)) := Lib.hid fun h => by
          rw [valD_take_succ, valD_take_succ, h] at hv; omega
        clear hv
        generalize dg a p = x at hx DA H1 H2 H3
        generalize dg b p = y at hy DB H1 H2 H3
        rcases (show x < y ∨ (¬ x < y ∧ y < x) ∨ (¬ x < y ∧ ¬ y < x) by omega) with h1 | ⟨h1, h2⟩ | ⟨h1, h2⟩
        · have HE := Lib.hid (H1.out h1)
          go_wp2_with fail
          refine (DA.out _ HA1.out).mono ?_
          rintro e w1 ⟨rfl, hb1⟩
          have B1 : Below w.heap.size w w1 := Below.then_ (by repeat (first | with_reducible exact Below.refl _ _ | with_reducible assumption | ((with_reducible refine Below.setCell ?_ ?_ _); rotate_left; · (first | omega | exact Nat.le_refl _ | (simp <;> omega))) | (with_reducible refine Below.allocW ?_ _) | (with_reducible refine Below.drew ?_) | (with_reducible refine Below.extW ?_ _))) hb1
          have s1 : w.heap.size ≤ w1.heap.size := B1.size
          go_wp2_with fail
          refine (DB.out _ (HB1.out.keep hb1.size fun p hp => hb1.cell hp)).mono ?_
          rintro e w2 ⟨rfl, hb2⟩
          have B2 : Below w.heap.size w w2 := Below.then_ (by repeat (first | with_reducible exact Below.refl _ _ | with_reducible assumption | ((with_reducible refine Below.setCell ?_ ?_ _); rotate_left; · (first | omega | exact Nat.le_refl _ | (simp <;> omega))) | (with_reducible refine Below.allocW ?_ _) | (with_reducible refine Below.drew ?_) | (with_reducible refine Below.extW ?_ _))) hb2
          have s2 : w.heap.size ≤ w2.heap.size := B2.size
          go_wp2_with fail
          go_ret
          exact ⟨by rw [HE.out]; rfl, B2⟩
        · have HE := Lib.hid (H2.out h2)
          go_wp2_with fail
          refine (DA.out _ HA1.out).mono ?_
          rintro e w1 ⟨rfl, hb1⟩
          have B1 : Below w.heap.size w w1 := Below.then_ (by repeat (first | with_reducible exact Below.refl _ _ | with_reducible assumption | ((with_reducible refine Below.setCell ?_ ?_ _); rotate_left; · (first | omega | exact Nat.le_refl _ | (simp <;> omega))) | (with_reducible refine Below.allocW ?_ _) | (with_reducible refine Below.drew ?_) | (with_reducible refine Below.extW ?_ _))) hb1
          have s1 : w.heap.size ≤ w1.heap.size := B1.size
          go_wp2_with fail
          refine (DB.out _ (HB1.out.keep hb1.size fun p hp => hb1.cell hp)).mono ?_
          rintro e w2 ⟨rfl, hb2⟩
          have B2 : Below w.heap.size w w2 := Below.then_ (by repeat (first | with_reducible exact Below.refl _ _ | with_reducible assumption | ((with_reducible refine Below.setCell ?_ ?_ _); rotate_left; · (first | omega | exact Nat.le_refl _ | (simp <;> omega))) | (with_reducible refine Below.allocW ?_ _) | (with_reducible refine Below.drew ?_) | (with_reducible refine Below.extW ?_ _))) hb2
          have s2 : w.heap.size ≤ w2.heap.size := B2.size
          have W2 : Below wr.heap.size wr w2 := hb1.trans (hb2.mono hb1.size)
          go_wp2_with fail
          refine (DA.out _ (HA1.out.keep W2.size fun p hp => W2.cell hp)).mono ?_
          rintro e w3 ⟨rfl, hb3⟩
          have B3 : Below w.heap.size w w3 := Below.then_ (by repeat (first | with_reducible exact Below.refl _ _ | with_reducible assumption | ((with_reducible refine Below.setCell ?_ ?_ _); rotate_left; · (first | omega | exact Nat.le_refl _ | (simp <;> omega))) | (with_reducible refine Below.allocW ?_ _) | (with_reducible refine Below.drew ?_) | (with_reducible refine Below.extW ?_ _))) hb3
          have s3 : w.heap.size ≤ w3.heap.size := B3.size
          have W3 : Below wr.heap.size wr w3 := W2.trans (hb3.mono W2.size)
          go_wp2_with fail
          refine (DB.out _ (HB1.out.keep W3.size fun p hp => W3.cell hp)).mono ?_
          rintro e w4 ⟨rfl, hb4⟩
          have B4 : Below w.heap.size w w4 := Below.then_ (by repeat (first | with_reducible exact Below.refl _ _ | with_reducible assumption | ((with_reducible refine Below.setCell ?_ ?_ _); rotate_left; · (first | omega | exact Nat.le_refl _ | (simp <;> omega))) | (with_reducible refine Below.allocW ?_ _) | (with_reducible refine Below.drew ?_) | (with_reducible refine Below.extW ?_ _))) hb4
          have s4 : w.heap.size ≤ w4.heap.size := B4.size
          go_wp2_with fail
          go_ret
          exact ⟨by rw [HE.out]; rfl, B4⟩
        · have HE := Lib.hid (H3.out (by omega))
          go_wp2_with fail
          refine (DA.out _ HA1.out).mono ?_
          rintro e w1 ⟨rfl, hb1⟩
          have B1 : Below w.heap.size w w1 := Below.then_ (by repeat (first | with_reducible exact Below.refl _ _ | with_reducible assumption | ((with_reducible refine Below.setCell ?_ ?_ _); rotate_left; · (first | omega | exact Nat.le_refl _ | (simp <;> omega))) | (with_reducible refine Below.allocW ?_ _) | (with_reducible refine Below.drew ?_) | (with_reducible refine Below.extW ?_ _))) hb1
          have s1 : w.heap.size ≤ w1.heap.size := B1.size
          go_wp2_with fail
          refine (DB.out _ (HB1.out.keep hb1.size fun p hp => hb1.cell hp)).mono ?_
          rintro e w2 ⟨rfl, hb2⟩
          have B2 : Below w.heap.size w w2 := Below.then_ (by repeat (first | with_reducible exact Below.refl _ _ | with_reducible assumption | ((with_reducible refine Below.setCell ?_ ?_ _); rotate_left; · (first | omega | exact Nat.le_refl _ | (simp <;> omega))) | (with_reducible refine Below.allocW ?_ _) | (with_reducible refine Below.drew ?_) | (with_reducible refine Below.extW ?_ _))) hb2
          have s2 : w.heap.size ≤ w2.heap.size := B2.size
          have W2 : Below wr.heap.size wr w2 := hb1.trans (hb2.mono hb1.size)
          go_wp2_with fail
          refine (DA.out _ (HA1.out.keep W2.size fun p hp => W2.cell hp)).mono ?_
          rintro e w3 ⟨rfl, hb3⟩
          have B3 : Below w.heap.size w w3 := Below.then_ (by repeat (first | with_reducible exact Below.refl _ _ | with_reducible assumption | ((with_reducible refine Below.setCell ?_ ?_ _); rotate_left; · (first | omega | exact Nat.le_refl _ | (simp <;> omega))) | (with_reducible refine Below.allocW ?_ _) | (with_reducible refine Below.drew ?_) | (with_reducible refine Below.extW ?_ _))) hb3
          have s3 : w.heap.size ≤ w3.heap.size := B3.size
          have W3 : Below wr.heap.size wr w3 := W2.trans (hb3.mono W2.size)
          go_wp2_with fail
          refine (DB.out _ (HB1.out.keep W3.size fun p hp => W3.cell hp)).mono ?_
          rintro e w4 ⟨rfl, hb4⟩
          have B4 : Below w.heap.size w w4 := Below.then_ (by repeat (first | with_reducible exact Below.refl _ _ | with_reducible assumption | ((with_reducible refine Below.setCell ?_ ?_ _); rotate_left; · (first | omega | exact Nat.le_refl _ | (simp <;> omega))) | (with_reducible refine Below.allocW ?_ _) | (with_reducible refine Below.drew ?_) | (with_reducible refine Below.extW ?_ _))) hb4
          have s4 : w.heap.size ≤ w4.heap.size := B4.size
          go_wp2_with fail
          go_roundw
          case rel => exact ⟨_, p, by go_num, by omega, by omega, HE.out, B4⟩
          case measure => simp [intOf] <;> omega)
end Go.Proofs.YtcjnchjmpkapmaaGreat
/- The reference of layer 1 (reckon): a part of a number. -/
namespace Go.Proofs.YtcjnchjmpkapmaaGreat
open Go.ChangeShapes Go.WideShapes Go.ChangeAt Go.RowKit
set_option linter.unusedVariables false

theorem quot_end {n b V : Nat} (h1 : n * b ≤ V) (h2 : V < (n + 1) * b) : n = V / b ∧ (n * b < V ↔ V % b ≠ 0) := by
  have hb : 0 < b := by rcases Nat.eq_zero_or_pos b with rfl | h <;> simp_all
  have e : n = V / b := by
    refine Nat.le_antisymm ((Nat.le_div_iff_mul_le hb).2 h1) ?_
    have := (Nat.div_lt_iff_lt_mul hb).2 h2
    omega
  refine ⟨e, ?_⟩
  have := Nat.div_add_mod V b
  rw [← e, Nat.mul_comm] at this
  omega
set_option maxRecDepth 100000 in
set_option maxHeartbeats 1000000 in
theorem ref1_Quot (w : World) (A : Option Addr) (cap : Nat) (p : List Nat) (b V : Nat) (hA : Sl w w.heap.size encD A p) (kp : okD p) (lp : p.length ≤ 1000) (hV : valD p = V) (hb : 1 ≤ b) (hb2 : b < 9223372036854775808) (hm : V < 9223372036854775808 * b) :
    Calls Tryz.prog 57 #[.slice A p.length cap, .int .i64 b] w fun e w' => e = .returned (.tuple #[.int .i64 (V / b : Nat), .bool (decide (V % b ≠ 0)), .bool true]) ∧ Below w.heap.size w w' := by
  have HA := Lib.hid hA
  have KP := Lib.hid kp
  have HVp := Lib.hid hV
  have HM := Lib.hid hm
  clear hA kp hV hm
  go_enter Tryz.func57, Tryz.ntmps57
  go_wp2_with fail
  go_loopw [7, 8] (fun q s wr => ∃ (n k st : Nat), q = .int .i64 n ∧ s = .int .i64 st ∧ k ≤ 63 ∧ st = 2 ^ k / 2 ∧ n + 2 ^ k ≤ 9223372036854775808 ∧ n * b ≤ V ∧ V < (n + 2 ^ k) * b ∧ Below w.heap.size w wr) (fun _ s _ => (intOf s).toNat)
  case atStart => exact ⟨0, 63, 4611686018427387904, rfl, rfl, by omega, by decide, by decide, by omega, by have := HM.out; rw [show 0 + 2 ^ 63 = 9223372036854775808 by decide]; exact this, Below.refl _ _⟩
  case round =>
    obtain ⟨n, k, st, rfl, rfl, hk, hst, hn, h1, h2, hW⟩ := hrel
    have hs := hW.size
    have HAr := Lib.hid (HA.out.keep (B' := wr.heap.size) hs fun p hp => hW.cell hp)
    rcases k with _ | k
    · have hst0 : st = 0 := by simpa using hst
      subst hst0
      simp only [Nat.pow_zero] at h2 hn
      have HQ := Lib.hid (quot_end h1 h2)
      have H1 := Lib.hid h1
      have H2 := Lib.hid h2
      have hn9 : n < 9223372036854775808 := by omega
      clear h1 h2 hn hst hk
      go_wp2_with fail
      refine (ref1_Digits _ n hn9).mono ?_
      rintro e w1 ⟨v1, L1, rfl, o1, k1, e1, l1, b1⟩
      obtain ⟨A1, p1, rfl, _, _, S1, _⟩ := o1.form
      have HS1 := Lib.hid S1
      have K1 := Lib.hid k1
      have E1 := Lib.hid e1
      clear o1 S1 k1 e1
      go_wp2_with fail
      refine (ref1_Digits _ b hb2).mono ?_
      rintro e w2 ⟨v2, L2, rfl, o2, k2, e2, l2, b2⟩
      obtain ⟨A2, p2, rfl, _, _, S2, _⟩ := o2.form
      have HS1' := Lib.hid (HS1.out.keep b2.size fun p hp => b2.cell hp)
      have HS2 := Lib.hid S2
      have K2 := Lib.hid k2
      have E2 := Lib.hid e2
      have W2 : Below wr.heap.size wr w2 := b1.trans (b2.mono b1.size)
      clear o2 S2 k2 e2 b1 b2
      go_wp2_with fail
      refine (ref1_Times _ A1 A2 p1 p2 L1 L2 HS1'.out HS2.out K1.out K2.out (by omega) (by omega)).mono ?_
      rintro e w3 ⟨v3, rfl, L3, o3, k3, e3, l3, b3⟩
      obtain ⟨A3, p3, rfl, _, _, S3, _⟩ := o3.form
      have HS3 := Lib.hid S3
      have K3 := Lib.hid k3
      have E3 := Lib.hid (show valD L3 = n * b by rw [e3, E1.out, E2.out])
      have W3 : Below wr.heap.size wr w3 := W2.trans (b3.mono W2.size)
      have l3' : L3.length ≤ 50 := by omega
      clear o3 S3 k3 e3 b3
      go_wp2_with fail
      refine (ref1_Digits _ b hb2).mono ?_
      rintro e w4 ⟨v4, L4, rfl, o4, k4, e4, l4, b4⟩
      obtain ⟨A4, p4, rfl, _, _, S4, _⟩ := o4.form
      have HS3' := Lib.hid (HS3.out.keep b4.size fun p hp => b4.cell hp)
      have HS4 := Lib.hid S4
      have K4 := Lib.hid k4
      have E4 := Lib.hid e4
      have W4 : Below wr.heap.size wr w4 := W3.trans (b4.mono W3.size)
      clear o4 S4 k4 e4 b4
      go_wp2_with fail
      refine (ref1_Sum _ A3 A4 p3 p4 L3 L4 HS3'.out HS4.out K3.out K4.out (by omega) (by omega)).mono ?_
      rintro e w5 ⟨v5, L5, rfl, o5, k5, e5, l5, b5⟩
      obtain ⟨A5, p5, rfl, _, _, S5, _⟩ := o5.form
      have HS3'' := Lib.hid (HS3'.out.keep b5.size fun p hp => b5.cell hp)
      have HS5 := Lib.hid S5
      have K5 := Lib.hid k5
      have W5 : Below wr.heap.size wr w5 := W4.trans (b5.mono W4.size)
      have E5 := Lib.hid (show cmpV (valD L5) (valD p) = 1 from cmpV_more (by rw [HVp.out, e5, E3.out, E4.out]; have := H2.out; rw [Nat.add_mul] at this; omega))
      have l5' : L5.length ≤ 60 := by omega
      clear o5 S5 k5 e5 b5 l5
      go_wp2_with fail
      refine (ref1_Less _ A5 A p5 cap L5 p HS5.out (HAr.out.keep W5.size fun p hp => W5.cell hp) K5.out KP.out (by omega) (by omega)).mono ?_
      rintro e w6 ⟨rfl, b6⟩
      rw [E5.out]
      have W6 : Below wr.heap.size wr w6 := W5.trans (b6.mono W5.size)
      have HS3f := Lib.hid (HS3''.out.keep b6.size fun p hp => b6.cell hp)
      clear b6
      go_wp2_with fail
      refine (ref1_Less _ A3 A p3 cap L3 p HS3f.out (HAr.out.keep W6.size fun p hp => W6.cell hp) K3.out KP.out (by omega) (by omega)).mono ?_
      rintro e w7 ⟨rfl, b7⟩
      have HC := Lib.hid (cmpV_lt (valD L3) (valD p))
      have hcr := cmpV_range (valD L3) (valD p)
      generalize cmpV (valD L3) (valD p) = z at HC hcr ⊢
      have W7 := hW.trans ((W6.trans (b7.mono W6.size)).mono hs)
      clear b7
      go_wp2_with fail
      go_ret3
      refine ⟨?_, W7⟩
      have h1 := HC.out
      rw [E3.out, HVp.out, HQ.out.2] at h1
      rw [← HQ.out.1]
      simp [← h1]
    · obtain ⟨P, hP⟩ : ∃ P, P = 2 ^ k := ⟨_, rfl⟩
      have e2k : 2 ^ (k + 1) = P + P := by rw [Nat.pow_succ, ← hP]; omega
      rw [e2k] at hst hn h2
      have hst1 : st = P := by omega
      subst hst1
      have hP1 : 1 ≤ st := by rw [hP]; exact Nat.one_le_two_pow
      have hn9 : n + st < 9223372036854775808 := by omega
      have hst9 : st ≤ 4611686018427387904 := by omega
      have hnn9 : n ≤ 9223372036854775806 := by omega
      have HN := Lib.hid hn
      have hPk := Lib.hid hP
      have H1 := Lib.hid h1
      have H2 := Lib.hid h2
      have e2' : (st : Int) / 2 = ((st / 2 : Nat) : Int) := by omega
      obtain ⟨t, ht⟩ : ∃ t, t = st / 2 := ⟨_, rfl⟩
      have htl : t < st := by omega
      have HT := Lib.hid (show t = 2 ^ k / 2 by rw [ht, hP])
      rw [← ht] at e2'
      obtain ⟨s, hsd⟩ : ∃ s, s = n + st := ⟨_, rfl⟩
      have e3' : (n : Int) + (st : Int) = (s : Int) := by omega
      rw [← hsd] at hn9
      have hs9 : s ≤ 9223372036854775807 := by omega
      have HN9 := Lib.hid hn9
      have HSD := Lib.hid hsd
      clear h1 h2 hst hP e2k ht hn hn9 hsd
      go_wp2_with fail
      refine (ref1_Digits _ s HN9.out).mono ?_
      rintro e w1 ⟨v1, L1, rfl, o1, k1, e1, l1, b1⟩
      obtain ⟨A1, p1, rfl, _, _, S1, _⟩ := o1.form
      have HS1 := Lib.hid S1
      have K1 := Lib.hid k1
      have E1 := Lib.hid e1
      clear o1 S1 k1 e1
      go_wp2_with fail
      refine (ref1_Digits _ b hb2).mono ?_
      rintro e w2 ⟨v2, L2, rfl, o2, k2, e2, l2, b2⟩
      obtain ⟨A2, p2, rfl, _, _, S2, _⟩ := o2.form
      have HS1' := Lib.hid (HS1.out.keep b2.size fun p hp => b2.cell hp)
      have HS2 := Lib.hid S2
      have K2 := Lib.hid k2
      have E2 := Lib.hid e2
      have W2 : Below wr.heap.size wr w2 := b1.trans (b2.mono b1.size)
      clear o2 S2 k2 e2 b1 b2
      go_wp2_with fail
      refine (ref1_Times _ A1 A2 p1 p2 L1 L2 HS1'.out HS2.out K1.out K2.out (by omega) (by omega)).mono ?_
      rintro e w3 ⟨v3, rfl, L3, o3, k3, e3, l3, b3⟩
      obtain ⟨A3, p3, rfl, _, _, S3, _⟩ := o3.form
      have HS3 := Lib.hid S3
      have K3 := Lib.hid k3
      have E3 := Lib.hid (show valD L3 = s * b by rw [e3, E1.out, E2.out])
      have W3 : Below wr.heap.size wr w3 := W2.trans (b3.mono W2.size)
      have l3' : L3.length ≤ 50 := by omega
      clear o3 S3 k3 e3 b3
      go_wp2_with fail
      refine (ref1_Less _ A3 A p3 cap L3 p HS3.out (HAr.out.keep W3.size fun p hp => W3.cell hp) K3.out KP.out (by omega) (by omega)).mono ?_
      rintro e w4 ⟨rfl, b4⟩
      have HC := Lib.hid (show (cmpV (valD L3) (valD p) ≤ 0) ↔ s * b ≤ V by rw [cmpV_le, E3.out, HVp.out])
      have hcr := cmpV_range (valD L3) (valD p)
      generalize cmpV (valD L3) (valD p) = z at HC hcr ⊢
      have W4 := hW.trans ((W3.trans (b4.mono W3.size)).mono hs)
      clear b4
      by_cases hz : z ≤ 0
      · have H3 := Lib.hid (HC.out.1 hz)
        go_wp2_with fail
        go_roundw
        case rel => exact ⟨s, k, t, by go_num, by go_num, by omega, HT.out, by have := hPk.out; have := HN.out; have := HSD.out; omega, H3.out, by have h := H2.out; rw [← hPk.out, HSD.out, Nat.add_assoc]; exact h, W4⟩
        case measure => simp [intOf]; omega
      · have H3 := Lib.hid (show ¬ s * b ≤ V from fun h => hz (HC.out.2 h))
        go_wp2_with fail
        go_roundw
        case rel => exact ⟨n, k, t, by go_num, by go_num, by omega, HT.out, by have := hPk.out; have := HN.out; omega, H1.out, by have h := H3.out; rw [← hPk.out, ← HSD.out]; omega, W4⟩
        case measure => simp [intOf]; omega
end Go.Proofs.YtcjnchjmpkapmaaGreat
/- Long division by two digits: the plain law. No program in sight. -/
namespace Go.Proofs.YtcjnchjmpkapmaaGreat
set_option linter.unusedVariables false
set_option maxRecDepth 100000

section
variable {a c u d q rh : Nat}
/-- A guess that is too great shows itself. -/
theorem guess_high (hd : d < 4294967296) (hu : u < a * 4294967296 + c) (h : q * a + rh = u) (ht : 4294967296 ≤ q ∨ 4294967296 * rh + d < q * c) : (u * 4294967296 + d) / (a * 4294967296 + c) < q := by
  rw [Nat.div_lt_iff_lt_mul (by omega)]
  rcases ht with ht | ht
  · have h1 : (a * 4294967296 + c) * 4294967296 ≤ q * (a * 4294967296 + c) := by rw [Nat.mul_comm q]; exact Nat.mul_le_mul_left _ ht
    omega
  · have h1 : q * (a * 4294967296 + c) = (q * a) * 4294967296 + q * c := by rw [Nat.mul_add, Nat.mul_assoc]
    rw [h1]
    omega
/-- One that doesn't is not too great. -/
theorem guess_low (h : q * a + rh = u) (hc : 0 < a * 4294967296 + c) (ht : q * c ≤ 4294967296 * rh + d) : q ≤ (u * 4294967296 + d) / (a * 4294967296 + c) := by
  rw [Nat.le_div_iff_mul_le hc]
  have h1 : q * (a * 4294967296 + c) = (q * a) * 4294967296 + q * c := by rw [Nat.mul_add, Nat.mul_assoc]
  rw [h1]
  omega
theorem guess_break (hc : c < 4294967296) (hu : u < a * 4294967296 + c) (h : q * a + rh = u) (hr : 4294967296 ≤ rh) : q ≤ (u * 4294967296 + d) / (a * 4294967296 + c) := by
  refine guess_low h (by omega) ?_
  have h1 : q * a < 4294967296 * a := by omega
  have h2 : q < 4294967296 := Nat.lt_of_mul_lt_mul_right h1
  have h3 : q * c ≤ q * 4294967296 := Nat.mul_le_mul_left _ (by omega)
  omega
/-- The quotient is one digit. -/
theorem quot_digit (hd : d < 4294967296) (hu : u < a * 4294967296 + c) : (u * 4294967296 + d) / (a * 4294967296 + c) < 4294967296 := by
  rw [Nat.div_lt_iff_lt_mul (by omega)]
  omega
end
/-- Both digits, one behind the other. -/
theorem two_digits (B Y u x1 x0 : Nat) (hY : 0 < Y) :
    (u * (B * B) + (x1 * B + x0)) / Y = (u * B + x1) / Y * B + ((u * B + x1) % Y * B + x0) / Y ∧
    (u * (B * B) + (x1 * B + x0)) % Y = ((u * B + x1) % Y * B + x0) % Y := by
  have h1 := Nat.div_add_mod (u * B + x1) Y
  obtain ⟨q1, hq⟩ : ∃ q, q = (u * B + x1) / Y := ⟨_, rfl⟩
  obtain ⟨r1, hr⟩ : ∃ q, q = (u * B + x1) % Y := ⟨_, rfl⟩
  rw [← hq, ← hr] at h1 ⊢
  have e : u * (B * B) + (x1 * B + x0) = Y * (q1 * B) + (r1 * B + x0) := by
    have : (Y * q1 + r1) * B = (u * B + x1) * B := by rw [h1]
    rw [Nat.add_mul, Nat.add_mul, Nat.mul_assoc, Nat.mul_assoc] at this
    omega
  rw [e, Nat.mul_add_div hY, Nat.mul_add_mod]
  exact ⟨rfl, rfl⟩
/-- The number, moved up. -/
theorem moved_up {B hi lo s t : Nat} (hB : 2 ^ s * 2 ^ t = B) :
    (hi * 2 ^ s + lo / 2 ^ t) * B + lo * 2 ^ s % B = (hi * B + lo) * 2 ^ s := by
  have h1 : lo * 2 ^ s / B = lo / 2 ^ t := by
    rw [← hB, Nat.mul_comm lo, Nat.mul_div_mul_left _ _ (Nat.two_pow_pos s)]
  have h2 := Nat.div_add_mod (lo * 2 ^ s) B
  rw [h1, Nat.mul_comm B] at h2
  have h3 : (hi * B + lo) * 2 ^ s = hi * 2 ^ s * B + lo * 2 ^ s := by
    rw [Nat.add_mul, Nat.mul_assoc, Nat.mul_comm B, ← Nat.mul_assoc]
  rw [h3, Nat.add_mul]
  omega
theorem moved_quot {N y s : Nat} : N * 2 ^ s / (y * 2 ^ s) = N / y ∧ N * 2 ^ s % (y * 2 ^ s) / 2 ^ s = N % y := by
  have hp := Nat.two_pow_pos s
  refine ⟨Nat.mul_div_mul_right _ _ hp, ?_⟩
  rw [Nat.mul_mod_mul_right, Nat.mul_div_cancel _ hp]
end Go.Proofs.YtcjnchjmpkapmaaGreat
/- math/bits: Div64. -/
namespace Go.Proofs.YtcjnchjmpkapmaaGreat
open Go.ChangeShapes Go.WideShapes Go.ChangeAt Go.RowKit
set_option linter.unusedVariables false
set_option maxRecDepth 100000

theorem wraps_u64 (n : Int) (h₀ : 0 ≤ n) (h₁ : n < 2 ^ 64) : IntKind.u64.wrap n = n := by rw [IntKind.wrap_u64]; omega
theorem u64_mask (n : Nat) (hn : n < 18446744073709551616) : bits .and .u64 (n : Int) 4294967295 = ((n % 4294967296 : Nat) : Int) := by
  have := bits_mask .u64 64 (by decide) wraps_u64 32 (by omega) (n : Int) (by omega) (by omega)
  have e : (2 : Int) ^ 32 - 1 = 4294967295 := by decide
  rw [e] at this
  rw [this]
  omega
/-- How a divisor is moved up. -/
theorem moved_div {y : Nat} (h0 : y ≠ 0) (h : y < 18446744073709551616) : ∃ s Y : Nat, (64 : Int) - (Lib.bitLen y : Int) = s ∧ s ≤ 63 ∧ y * 2 ^ s = Y ∧ 9223372036854775808 ≤ Y ∧ Y < 18446744073709551616 := by
  have hb := Lib.bitLenAux_bounds 64 y (by simpa using h) h0
  have h1 : 2 ^ (Lib.bitLen y - 1) ≤ y := hb.2.1
  have h2 : y < 2 ^ Lib.bitLen y := hb.2.2
  have h3 : 1 ≤ Lib.bitLen y := hb.1
  have h4 : Lib.bitLen y ≤ 64 := by
    apply Classical.byContradiction
    intro hn
    have := Nat.pow_le_pow_right (n := 2) (by decide) (show 64 ≤ Lib.bitLen y - 1 by omega)
    omega
  obtain ⟨n, hn⟩ : ∃ n, n = Lib.bitLen y := ⟨_, rfl⟩
  rw [← hn] at h1 h2 h3 h4 ⊢
  refine ⟨64 - n, _, by omega, by omega, rfl, ?_, ?_⟩
  · have e : 2 ^ (n - 1) * 2 ^ (64 - n) = 9223372036854775808 := by rw [← Nat.pow_add, show n - 1 + (64 - n) = 63 by omega]
    rw [← e]; exact Nat.mul_le_mul_right _ h1
  · have e : 2 ^ n * 2 ^ (64 - n) = 18446744073709551616 := by rw [← Nat.pow_add, show n + (64 - n) = 64 by omega]
    rw [← e]; exact Nat.mul_lt_mul_of_pos_right h2 (Nat.two_pow_pos _)
/-- What the letters of a division are: the divisor moved up is a*2^32 + c, the number moved up is (u, x1, x0). -/
structure DivFacts (hi lo y s a c u x1 x0 : Nat) : Prop where
  s63 : s ≤ 63
  eY : y * 2 ^ s = a * 4294967296 + c
  a1 : 2147483648 ≤ a
  a2 : a < 4294967296
  lc : c < 4294967296
  eu : u = hi * 2 ^ s + lo / 2 ^ (64 - s)
  uY : u < a * 4294967296 + c
  et : lo * 2 ^ s % 18446744073709551616 = x1 * 4294967296 + x0
  l1 : x1 < 4294967296
  l0 : x0 < 4294967296
theorem div_facts {hi lo y s Y : Nat} (hs : s ≤ 63) (hY : y * 2 ^ s = Y) (hY1 : 9223372036854775808 ≤ Y) (hY2 : Y < 18446744073709551616) (hhi : hi < y) (hlo : lo < 18446744073709551616) :
    ∃ a c u x1 x0, DivFacts hi lo y s a c u x1 x0 := by
  have h64 : 2 ^ s * 2 ^ (64 - s) = 18446744073709551616 := by rw [← Nat.pow_add, show s + (64 - s) = 64 by omega]
  have hu : hi * 2 ^ s + lo / 2 ^ (64 - s) < Y := by
    have h1 : lo / 2 ^ (64 - s) < 2 ^ s := by
      apply Nat.div_lt_of_lt_mul
      rw [Nat.mul_comm, h64]; exact hlo
    have h2 : (hi + 1) * 2 ^ s ≤ y * 2 ^ s := Nat.mul_le_mul_right _ hhi
    rw [Nat.add_mul, Nat.one_mul] at h2
    omega
  have ht := Nat.mod_lt (lo * 2 ^ s) (show 0 < 18446744073709551616 by decide)
  obtain ⟨t, htt⟩ : ∃ t, t = lo * 2 ^ s % 18446744073709551616 := ⟨_, rfl⟩
  rw [← htt] at ht
  exact ⟨Y / 4294967296, Y % 4294967296, _, t / 4294967296, t % 4294967296, hs, by omega, by omega, by omega, by omega, rfl, by omega, by rw [← htt]; omega, by omega, by omega⟩
theorem div_end {hi lo y s a c u x1 x0 : Nat} (h : DivFacts hi lo y s a c u x1 x0) :
    (hi * 18446744073709551616 + lo) / y = (u * 4294967296 + x1) / (a * 4294967296 + c) * 4294967296 + ((u * 4294967296 + x1) % (a * 4294967296 + c) * 4294967296 + x0) / (a * 4294967296 + c) ∧
    (hi * 18446744073709551616 + lo) % y = ((u * 4294967296 + x1) % (a * 4294967296 + c) * 4294967296 + x0) % (a * 4294967296 + c) / 2 ^ s := by
  have hs := h.s63
  have h64 : 2 ^ s * 2 ^ (64 - s) = 18446744073709551616 := by rw [← Nat.pow_add, show s + (64 - s) = 64 by omega]
  have h1 := moved_up (hi := hi) (lo := lo) h64
  rw [h.et, ← h.eu] at h1
  have ha := h.a1
  have h2 := two_digits 4294967296 (a * 4294967296 + c) u x1 x0 (by omega)
  simp only [Nat.reduceMul] at h2
  rw [h1] at h2
  have h3 := moved_quot (N := hi * 18446744073709551616 + lo) (y := y) (s := s)
  rw [h.eY] at h3
  rw [← h3.1, ← h3.2, h2.1, h2.2]
  exact ⟨rfl, rfl⟩
/-- One round of guessing: the invariant. -/
structure Guess (a c u d q rh : Nat) : Prop where
  eq : q * a + rh = u
  ge : (u * 4294967296 + d) / (a * 4294967296 + c) ≤ q
  rh : rh < 4294967296
section
variable {a c u d q rh : Nat}
theorem Guess.start (ha1 : 2147483648 ≤ a) (ha2 : a < 4294967296) (hc : c < 4294967296) (hd : d < 4294967296) (hu : u < a * 4294967296 + c) : Guess a c u d (u / a) (u % a) := by
  have h1 := Nat.div_add_mod u a
  have h2 := Nat.mod_lt u (show 0 < a by omega)
  rw [Nat.mul_comm] at h1
  obtain ⟨q, hq⟩ : ∃ q, q = u / a := ⟨_, rfl⟩
  obtain ⟨r, hr⟩ : ∃ r, r = u % a := ⟨_, rfl⟩
  rw [← hq, ← hr] at h1 ⊢
  rw [← hr] at h2
  refine ⟨h1, ?_, by omega⟩
  apply Nat.le_of_lt_succ
  rw [Nat.div_lt_iff_lt_mul (by omega)]
  have h4 : u < q.succ * a := by rw [Nat.succ_mul]; omega
  have h5 : q.succ * (a * 4294967296 + c) = q.succ * a * 4294967296 + q.succ * c := by rw [Nat.mul_add, Nat.mul_assoc]
  rw [h5]
  omega
theorem Guess.q_le (h : Guess a c u d q rh) (ha1 : 2147483648 ≤ a) (hc : c < 4294967296) (hu : u < a * 4294967296 + c) : q ≤ 4294967298 := by
  have h1 := h.eq
  apply Classical.byContradiction
  intro hn
  have h2 : 4294967299 * a ≤ q * a := Nat.mul_le_mul_right _ (by omega)
  omega
/-- It was too great: one less. -/
theorem Guess.down (h : Guess a c u d q rh) (hd : d < 4294967296) (hu : u < a * 4294967296 + c) (ht : 4294967296 ≤ q ∨ 4294967296 * rh + d < q * c) : 1 ≤ q ∧ (u * 4294967296 + d) / (a * 4294967296 + c) ≤ q - 1 ∧ (q - 1) * a + (rh + a) = u := by
  have h1 := guess_high hd hu h.eq ht
  have h2 := h.eq
  obtain ⟨T, hT⟩ : ∃ T, T = (u * 4294967296 + d) / (a * 4294967296 + c) := ⟨_, rfl⟩
  rw [← hT] at h1 ⊢
  refine ⟨by omega, by omega, ?_⟩
  have h3 : q * a = (q - 1) * a + a := by
    have : q = (q - 1) + 1 := by omega
    conv => lhs; rw [this, Nat.add_mul, Nat.one_mul]
  omega
theorem Guess.fin (h : Guess a c u d q rh) (ha : 0 < a) (ht : q * c ≤ 4294967296 * rh + d) : q = (u * 4294967296 + d) / (a * 4294967296 + c) :=
  Nat.le_antisymm (guess_low h.eq (by omega) ht) h.ge
end
/-- What is left: in words that wrap. -/
theorem left_over {u d a c q r : Nat} (hY : 0 < a * 4294967296 + c) (hY2 : a * 4294967296 + c < 18446744073709551616) (hq : q = (u * 4294967296 + d) / (a * 4294967296 + c)) (hr : r = (u * 4294967296 + d) % (a * 4294967296 + c)) :
    IntKind.u64.wrap (IntKind.u64.wrap (IntKind.u64.wrap ((u : Int) * 4294967296) + (d : Int)) - IntKind.u64.wrap ((q : Int) * ((a : Int) * 4294967296 + (c : Int)))) = (r : Int) := by
  obtain ⟨Y, hYe⟩ : ∃ Y, Y = a * 4294967296 + c := ⟨_, rfl⟩
  rw [show (a : Int) * 4294967296 + (c : Int) = (Y : Int) by omega]
  rw [← hYe] at hY hY2 hq hr
  have h1 := Nat.div_add_mod (u * 4294967296 + d) Y
  have h2 := Nat.mod_lt (u * 4294967296 + d) hY
  rw [← hq] at h1
  rw [← hr] at h1 h2
  obtain ⟨p, hp⟩ : ∃ p, p = Y * q := ⟨_, rfl⟩
  have e : (q : Int) * (Y : Int) = (p : Int) := by rw [hp, Nat.mul_comm]; push_cast; rfl
  rw [← hp] at h1
  rw [e]
  simp only [IntKind.wrap_u64]
  omega
theorem sub_of_add {m r u : Nat} (h : m + r = u) : (u : Int) - (m : Int) = (r : Int) := by omega
set_option maxHeartbeats 4000000 in
theorem bits_Div64 (w : World) (hi lo y : Nat) (hy : y < 18446744073709551616) (hhi : hi < y) (hlo : lo < 18446744073709551616) :
    Calls Tryz.prog 220 #[.int .u64 hi, .int .u64 lo, .int .u64 y] w fun e w' => e = .returned (.tuple #[.int .u64 ((hi * 18446744073709551616 + lo) / y : Nat), .int .u64 ((hi * 18446744073709551616 + lo) % y : Nat)]) ∧ Below w.heap.size w w' := by
  by_cases h0 : hi = 0
  · subst h0
    have q1 : (0 : Int) ≤ (lo : Int) / (y : Int) := Int.ediv_nonneg (by omega) (by omega)
    have q2 : (lo : Int) / (y : Int) ≤ lo := Int.ediv_le_self _ (by omega)
    have q3 : (0 : Int) ≤ (lo : Int) % (y : Int) := Int.emod_nonneg _ (by omega)
    have q4 : (lo : Int) % (y : Int) < y := Int.emod_lt_of_pos _ (by omega)
    have y1 : (1 : Int) ≤ (y : Int) := by omega
    have y0 : ((y : Int) == 0) = false := by simp; omega
    go_enter Tryz.func220, Tryz.ntmps220
    go_wp2_with fail
    refine wp_region_ext (by kernel_rfl) (by kernel_rfl) ?_
    repeat (go_big_quiet_step (fail))
    refine wpQuiet_nil ?_
    intro w1 hb1
    replace hb1 := below_of_ext hb1
    have B1 : Below w.heap.size w w1 := Below.then_ (by repeat (first | with_reducible exact Below.refl _ _ | with_reducible assumption | ((with_reducible refine Below.setCell ?_ ?_ _); rotate_left; · (first | omega | exact Nat.le_refl _ | (simp <;> omega))) | (with_reducible refine Below.allocW ?_ _) | (with_reducible refine Below.drew ?_) | (with_reducible refine Below.extW ?_ _))) hb1
    have s1 : w.heap.size ≤ w1.heap.size := B1.size
    go_wp2_with fail
    go_ret2
    exact ⟨by simp, (by repeat (first | with_reducible exact Below.refl _ _ | with_reducible assumption | ((with_reducible refine Below.setCell ?_ ?_ _); rotate_left; · (first | omega | exact Nat.le_refl _ | (simp <;> omega))) | (with_reducible refine Below.allocW ?_ _) | (with_reducible refine Below.drew ?_) | (with_reducible refine Below.extW ?_ _)))⟩
  · obtain ⟨s, Y, hs, hs63, hY, hY1, hY2⟩ := moved_div (show y ≠ 0 by omega) hy
    obtain ⟨a, c, u, x1, x0, hF⟩ := div_facts hs63 hY hY1 hY2 hhi hlo
    have y0 : ((y : Int) == 0) = false := by simp; omega
    have hi0 : ((hi : Int) == 0) = false := by simp; omega
    have e1 : (y : Int) * 2 ^ s = (a : Int) * 4294967296 + (c : Int) := by have := hF.eY; rw [show (y : Int) * 2 ^ s = ((y * 2 ^ s : Nat) : Int) by push_cast; rfl, this]; omega
    have e2 : ((a : Int) * 4294967296 + (c : Int)) / 4294967296 = (a : Int) := by have := hF.lc; omega
    have e3 : bits .and .u64 ((a : Int) * 4294967296 + (c : Int)) 4294967295 = (c : Int) := by
      have h1 := hF.lc
      have h2 := hF.a2
      have := u64_mask (a * 4294967296 + c) (by omega)
      rw [show ((a * 4294967296 + c : Nat) : Int) = (a : Int) * 4294967296 + (c : Int) by omega] at this
      rw [this]; omega
    have e4 : bits .or .u64 (IntKind.u64.wrap ((hi : Int) * 2 ^ s)) ((lo : Int) / 2 ^ (64 - s)) = (u : Int) := by
      have h1 := hF.eu
      have h2 := hF.uY
      have h3 := hF.lc
      have h4 := hF.a2
      have h64 : 2 ^ s * 2 ^ (64 - s) = 18446744073709551616 := by rw [← Nat.pow_add, show s + (64 - s) = 64 by omega]
      have h5 : lo / 2 ^ (64 - s) < 2 ^ s := by
        apply Nat.div_lt_of_lt_mul
        rw [Nat.mul_comm, h64]; exact hlo
      have p1 : (hi : Int) * 2 ^ s = ((hi * 2 ^ s : Nat) : Int) := by push_cast; rfl
      have p2 : (lo : Int) / 2 ^ (64 - s) = ((lo / 2 ^ (64 - s) : Nat) : Int) := by push_cast; rfl
      have p3 : ((2 ^ s : Nat) : Int) = 2 ^ s := by push_cast; rfl
      have p4 : ((hi * 2 ^ s : Nat) : Int) % 2 ^ s = 0 := by rw [← p1]; exact Int.mul_emod_left _ _
      obtain ⟨H, hH⟩ : ∃ H, H = hi * 2 ^ s := ⟨_, rfl⟩
      obtain ⟨L, hL⟩ : ∃ L, L = lo / 2 ^ (64 - s) := ⟨_, rfl⟩
      rw [← hH] at p1 p4 h1
      rw [← hL] at p2 h1 h5
      rw [p1, p2, wraps_u64 _ (by omega) (by omega)]
      have := bits_join .u64 64 (by decide) wraps_u64 s (H : Int) (L : Int) (by omega) p4 (by omega) (by omega) (by rw [← p3]; omega) (by omega)
      rw [this, h1]; omega
    have e5 : IntKind.u64.wrap ((lo : Int) * 2 ^ s) = (x1 : Int) * 4294967296 + (x0 : Int) := by
      have h1 := hF.et
      rw [show (lo : Int) * 2 ^ s = ((lo * 2 ^ s : Nat) : Int) by push_cast; rfl, IntKind.wrap_u64]
      omega
    have e6 : ((x1 : Int) * 4294967296 + (x0 : Int)) / 4294967296 = (x1 : Int) := by have := hF.l0; omega
    have e7 : bits .and .u64 ((x1 : Int) * 4294967296 + (x0 : Int)) 4294967295 = (x0 : Int) := by
      have h1 := hF.l0
      have h2 := hF.l1
      have := u64_mask (x1 * 4294967296 + x0) (by omega)
      rw [show ((x1 * 4294967296 + x0 : Nat) : Int) = (x1 : Int) * 4294967296 + (x0 : Int) by omega] at this
      rw [this]; omega
    have hlz : Hid (∀ W, Calls Tryz.prog 289 #[.int .u64 y] W fun e w' => e = .returned (.int .i64 s) ∧ w' = W) := Lib.hid fun W => by
      have := Tryz.bits_LeadingZeros64 (y : Int) W (by omega) (by omega)
      rw [Int.toNat_natCast, hs] at this
      exact this
    have a1 := hF.a1
    have a2 := hF.a2
    have c2 := hF.lc
    have uY := hF.uY
    have xx1 := hF.l1
    have xx0 := hF.l0
    have G1 := Lib.hid (Guess.start (d := x1) a1 a2 c2 xx1 uY)
    have e8 : (u : Int) / (a : Int) = ((u / a : Nat) : Int) := by push_cast; rfl
    have e9 : ((u / a : Nat) : Int) * (a : Int) = ((u / a * a : Nat) : Int) := by push_cast; rfl
    have e10 : u / a * a + u % a = u := by have := Nat.div_add_mod u a; rw [Nat.mul_comm]; exact this
    obtain ⟨q0, hq0⟩ : ∃ q, q = u / a := ⟨_, rfl⟩
    obtain ⟨r0, hr0⟩ : ∃ q, q = u % a := ⟨_, rfl⟩
    obtain ⟨m0, hm0⟩ : ∃ q, q = q0 * a := ⟨_, rfl⟩
    rw [← hq0] at e8 e9 e10
    rw [← hq0, ← hr0] at G1
    rw [← hm0] at e9 e10
    rw [← hr0] at e10
    have e11 : (u : Int) - (m0 : Int) = (r0 : Int) := sub_of_add e10
    have hq0l : q0 ≤ 4294967298 := G1.out.q_le a1 c2 uY
    have HE := Lib.hid (div_end hF)
    have s1 : (s : Int) ≤ 63 := by omega
    clear hs hs63 hY hY1 hY2 hq0 hr0 hm0 e10 hF
    go_enter Tryz.func220, Tryz.ntmps220
    go_wp2_with fail
    refine (hlz.out _).mono ?_
    rintro e w1 ⟨rfl, rfl⟩
    go_upto_block 0 with fail
    go_cut [15, 16] (fun q rh wx => ∃ qn rn : Nat, q = .int .u64 qn ∧ rh = .int .u64 rn ∧ qn = (u * 4294967296 + x1) / (a * 4294967296 + c) ∧ w1 = wx)
    case first =>
      go_wp2_with fail
      go_loop [15, 16] (fun q rh => ∃ qn rn : Nat, q = .int .u64 qn ∧ rh = .int .u64 rn ∧ Guess a c u x1 qn rn) (fun q _ => (intOf q).toNat)
      case atStart => exact ⟨_, _, rfl, rfl, G1.out⟩
      case round =>
        obtain ⟨qn, rn, rfl, rfl, hG⟩ := hrel
        have HG := Lib.hid hG
        have g1 := hG.q_le a1 c2 uY
        have g2 := hG.rh
        clear hG
        by_cases hq : 4294967296 ≤ qn
        · have HD := Lib.hid (HG.out.down xx1 uY (.inl hq))
          have g3 := HD.out.1
          have hq' : (4294967296 : Int) ≤ (qn : Int) := by omega
          by_cases hb : 4294967296 ≤ rn + a
          · have HF := Lib.hid (Nat.le_antisymm (guess_break (d := x1) c2 uY HD.out.2.2 hb) HD.out.2.1)
            have hb' : (4294967296 : Int) ≤ (rn : Int) + (a : Int) := by omega
            go_wp2_with fail
            go_meet
            exact ⟨qn - 1, rn + a, by go_num, by go_num, HF.out, rfl⟩
          · have hb' : ¬ (4294967296 : Int) ≤ (rn : Int) + (a : Int) := by omega
            go_wp2_with fail
            go_round
            case rel => exact ⟨qn - 1, rn + a, by go_num, by go_num, HD.out.2.2, HD.out.2.1, by omega⟩
            case measure => simp [intOf]; omega
        · have hR : qn * c ≤ 18446744073709551615 := by
            have h1 : qn * c ≤ 4294967295 * c := Nat.mul_le_mul_right _ (by omega)
            omega
          have e12 : (qn : Int) * (c : Int) = ((qn * c : Nat) : Int) := by push_cast; rfl
          have hqd : decide ((4294967296 : Int) ≤ (qn : Int)) = false := by simp; omega
          have hqn : qn ≤ 4294967295 := by omega
          clear hq
          obtain ⟨R, hRe⟩ : ∃ R, R = qn * c := ⟨_, rfl⟩
          rw [← hRe] at e12 hR
          by_cases ht : 4294967296 * rn + x1 < R
          · have HD := Lib.hid (HG.out.down xx1 uY (.inr (by rw [← hRe]; exact ht)))
            have g3 := HD.out.1
            have ht' : decide ((4294967296 : Int) * (rn : Int) + (x1 : Int) < (R : Int)) = true := by simp; omega
            clear ht
            clear hRe
            by_cases hb : 4294967296 ≤ rn + a
            · have HF := Lib.hid (Nat.le_antisymm (guess_break (d := x1) c2 uY HD.out.2.2 hb) HD.out.2.1)
              have hb' : (4294967296 : Int) ≤ (rn : Int) + (a : Int) := by omega
              go_wp2_with fail
              go_meet
              exact ⟨qn - 1, rn + a, by go_num, by go_num, HF.out, rfl⟩
            · have hb' : ¬ (4294967296 : Int) ≤ (rn : Int) + (a : Int) := by omega
              go_wp2_with fail
              go_round
              case rel => exact ⟨qn - 1, rn + a, by go_num, by go_num, HD.out.2.2, HD.out.2.1, by omega⟩
              case measure => simp [intOf]; omega
          · have HF := Lib.hid (HG.out.fin (by omega) (by rw [← hRe]; omega))
            have ht' : decide ((4294967296 : Int) * (rn : Int) + (x1 : Int) < (R : Int)) = false := by simp; omega
            clear ht
            clear hRe
            go_wp2_with fail
            go_meet
            exact ⟨qn, rn, rfl, rfl, HF.out, rfl⟩
    case rest =>
      obtain ⟨qn, rn, rfl, rfl, hq, rfl⟩ := hcut
      have HQ := Lib.hid hq
      have hqd := quot_digit xx1 uY
      rw [← hq] at hqd
      have hqd' : qn ≤ 4294967295 := by omega
      obtain ⟨r, hr⟩ : ∃ r, r = (u * 4294967296 + x1) % (a * 4294967296 + c) := ⟨_, rfl⟩
      have e20 := left_over (by omega) (by omega) hq hr
      have rY : r < a * 4294967296 + c := by rw [hr]; exact Nat.mod_lt _ (by omega)
      have HR := Lib.hid hr
      have G2 := Lib.hid (Guess.start (d := x0) a1 a2 c2 xx0 rY)
      have f8 : (r : Int) / (a : Int) = ((r / a : Nat) : Int) := by push_cast; rfl
      have f9 : ((r / a : Nat) : Int) * (a : Int) = ((r / a * a : Nat) : Int) := by push_cast; rfl
      have f10 : r / a * a + r % a = r := by have := Nat.div_add_mod r a; rw [Nat.mul_comm]; exact this
      obtain ⟨q2, hq2⟩ : ∃ q, q = r / a := ⟨_, rfl⟩
      obtain ⟨r2, hr2⟩ : ∃ q, q = r % a := ⟨_, rfl⟩
      obtain ⟨m2, hm2⟩ : ∃ q, q = q2 * a := ⟨_, rfl⟩
      rw [← hq2] at f8 f9 f10
      rw [← hq2, ← hr2] at G2
      rw [← hm2] at f9 f10
      rw [← hr2] at f10
      have f11 : (r : Int) - (m2 : Int) = (r2 : Int) := sub_of_add f10
      have hq2l : q2 ≤ 4294967298 := G2.out.q_le a1 c2 rY
      clear hq hqd hr hq2 hr2 hm2 f10 e8 e9 e11
      go_upto_block 2 with fail
      go_cut [18, 16] (fun q rh wx => ∃ qm rm : Nat, q = .int .u64 qm ∧ rh = .int .u64 rm ∧ qm = (r * 4294967296 + x0) / (a * 4294967296 + c) ∧ w1 = wx)
      case first =>
        go_wp2_with fail
        go_loop [18, 16] (fun q rh => ∃ qn rn : Nat, q = .int .u64 qn ∧ rh = .int .u64 rn ∧ Guess a c r x0 qn rn) (fun q _ => (intOf q).toNat)
        case atStart => exact ⟨_, _, rfl, rfl, G2.out⟩
        case round =>
          obtain ⟨qn, rn, rfl, rfl, hG⟩ := hrel
          have HG := Lib.hid hG
          have g1 := hG.q_le a1 c2 rY
          have g2 := hG.rh
          clear hG
          by_cases hq : 4294967296 ≤ qn
          · have HD := Lib.hid (HG.out.down xx0 rY (.inl hq))
            have g3 := HD.out.1
            have hq' : (4294967296 : Int) ≤ (qn : Int) := by omega
            by_cases hb : 4294967296 ≤ rn + a
            · have HF := Lib.hid (Nat.le_antisymm (guess_break (d := x0) c2 rY HD.out.2.2 hb) HD.out.2.1)
              have hb' : (4294967296 : Int) ≤ (rn : Int) + (a : Int) := by omega
              go_wp2_with fail
              go_meet
              exact ⟨qn - 1, rn + a, by go_num, by go_num, HF.out, rfl⟩
            · have hb' : ¬ (4294967296 : Int) ≤ (rn : Int) + (a : Int) := by omega
              go_wp2_with fail
              go_round
              case rel => exact ⟨qn - 1, rn + a, by go_num, by go_num, HD.out.2.2, HD.out.2.1, by omega⟩
              case measure => simp [intOf]; omega
          · have hR : qn * c ≤ 18446744073709551615 := by
              have h1 : qn * c ≤ 4294967295 * c := Nat.mul_le_mul_right _ (by omega)
              omega
            have e12 : (qn : Int) * (c : Int) = ((qn * c : Nat) : Int) := by push_cast; rfl
            have hqd : decide ((4294967296 : Int) ≤ (qn : Int)) = false := by simp; omega
            have hqn : qn ≤ 4294967295 := by omega
            clear hq
            obtain ⟨R, hRe⟩ : ∃ R, R = qn * c := ⟨_, rfl⟩
            rw [← hRe] at e12 hR
            by_cases ht : 4294967296 * rn + x0 < R
            · have HD := Lib.hid (HG.out.down xx0 rY (.inr (by rw [← hRe]; exact ht)))
              have g3 := HD.out.1
              have ht' : decide ((4294967296 : Int) * (rn : Int) + (x0 : Int) < (R : Int)) = true := by simp; omega
              clear ht
              clear hRe
              by_cases hb : 4294967296 ≤ rn + a
              · have HF := Lib.hid (Nat.le_antisymm (guess_break (d := x0) c2 rY HD.out.2.2 hb) HD.out.2.1)
                have hb' : (4294967296 : Int) ≤ (rn : Int) + (a : Int) := by omega
                go_wp2_with fail
                go_meet
                exact ⟨qn - 1, rn + a, by go_num, by go_num, HF.out, rfl⟩
              · have hb' : ¬ (4294967296 : Int) ≤ (rn : Int) + (a : Int) := by omega
                go_wp2_with fail
                go_round
                case rel => exact ⟨qn - 1, rn + a, by go_num, by go_num, HD.out.2.2, HD.out.2.1, by omega⟩
                case measure => simp [intOf]; omega
            · have HF := Lib.hid (HG.out.fin (by omega) (by rw [← hRe]; omega))
              have ht' : decide ((4294967296 : Int) * (rn : Int) + (x0 : Int) < (R : Int)) = false := by simp; omega
              clear ht
              clear hRe
              go_wp2_with fail
              go_meet
              exact ⟨qn, rn, rfl, rfl, HF.out, rfl⟩
      case rest =>
        obtain ⟨qm, rm, rfl, rfl, hq, rfl⟩ := hcut
        have HQ2 := Lib.hid hq
        have hqd := quot_digit xx0 rY
        rw [← hq] at hqd
        have hqd2 : qm ≤ 4294967295 := by omega
        obtain ⟨z, hz⟩ : ∃ z, z = (r * 4294967296 + x0) % (a * 4294967296 + c) := ⟨_, rfl⟩
        have e21 := left_over (by omega) (by omega) hq hz
        have zY : z < a * 4294967296 + c := by rw [hz]; exact Nat.mod_lt _ (by omega)
        have HZ := Lib.hid hz
        clear hq hqd hz f8 f9 f11 e20
        go_wp2_with fail
        go_ret2
        have h1 := HE.out
        rw [← HQ.out, ← HR.out, ← HQ2.out, ← HZ.out] at h1
        refine ⟨?_, (by repeat (first | with_reducible exact Below.refl _ _ | with_reducible assumption | ((with_reducible refine Below.setCell ?_ ?_ _); rotate_left; · (first | omega | exact Nat.le_refl _ | (simp <;> omega))) | (with_reducible refine Below.allocW ?_ _) | (with_reducible refine Below.drew ?_) | (with_reducible refine Below.extW ?_ _)))⟩
        rw [h1.1, h1.2]
        simp
end Go.Proofs.YtcjnchjmpkapmaaGreat
/- A part of a number: package reckon, and the reference of layer 1. -/
namespace Go.Proofs.YtcjnchjmpkapmaaGreat
open Go.ChangeShapes Go.WideShapes Go.ChangeAt Go.RowKit
set_option linter.unusedVariables false
set_option maxRecDepth 100000

/-- a * b / c, made greater to a whole number. -/
def upV (a b c : Nat) : Nat := a * b / c + if a * b % c = 0 then 0 else 1
theorem part_le {a b c : Nat} (hac : a ≤ c) (hc : 1 ≤ c) : a * b / c ≤ b := by
  have h1 : a * b ≤ b * c := by rw [Nat.mul_comm b]; exact Nat.mul_le_mul_right _ hac
  exact (Nat.div_le_iff_le_mul_add_pred (by omega)).2 (by rw [Nat.mul_comm c]; omega)
theorem part_lt {a b c : Nat} (hac : a ≤ c) (hc : 1 ≤ c) (h : a * b % c ≠ 0) : a * b / c < b := by
  refine Nat.lt_of_le_of_ne (part_le hac hc) fun e => h ?_
  have h1 : a * b ≤ c * b := Nat.mul_le_mul_right _ hac
  have h2 := Nat.div_mul_le_self (a * b) c
  rw [e, Nat.mul_comm b] at h2
  rw [Nat.le_antisymm h1 h2]
  exact Nat.mul_mod_right _ _
theorem up_le {a b c : Nat} (hac : a ≤ c) (hc : 1 ≤ c) : upV a b c ≤ b := by
  unfold upV
  split
  · exact part_le hac hc
  · rename_i h; exact part_lt hac hc h

theorem ref1_Quot_part (w : World) (A : Option Addr) (cap : Nat) (p : List Nat) (a b c : Nat) (hA : Sl w w.heap.size encD A p) (kp : okD p) (lp : p.length ≤ 100) (hV : valD p = a * b) (hb : b ≤ 9223372036854775807) (hc : 1 ≤ c) (hc2 : c ≤ 9223372036854775807) (hac : a ≤ c) :
    Calls Tryz.prog 57 #[.slice A p.length cap, .int .i64 c] w fun e w' => e = .returned (.tuple #[.int .i64 (a * b / c : Nat), .bool (decide (a * b % c ≠ 0)), .bool true]) ∧ Below w.heap.size w w' := by
  refine ref1_Quot w A cap p c (a * b) hA kp (by omega) hV hc (by omega) ?_
  have h1 : a * b ≤ c * 9223372036854775807 := Nat.mul_le_mul hac hb
  omega
theorem reckon_share (w : World) (a b c : Nat) (hb : b ≤ 9223372036854775807) (hc : 1 ≤ c) (hc2 : c ≤ 9223372036854775807) (hac : a ≤ c) :
    Calls Tryz.prog 287 #[.int .i64 a, .int .i64 b, .int .i64 c] w fun e w' => e = .returned (.tuple #[.int .u64 (a * b / c : Nat), .int .u64 (a * b % c : Nat), .bool true]) ∧ Below w.heap.size w w' := by
  have ha : a ≤ 9223372036854775807 := by omega
  have HC := Lib.hid (show decide (0 ≤ (a : Int) ∧ 0 ≤ (b : Int)) = true by simp)
  have HM : Hid (∀ W, Calls Tryz.prog 223 #[.int .u64 a, .int .u64 b] W fun e w' => e = .returned (.tuple #[.int .u64 (a * b / 18446744073709551616 : Nat), .int .u64 (a * b % 18446744073709551616 : Nat)]) ∧ w' = W) := Lib.hid fun W => Tryz.bits_Mul64 a b (by omega) (by omega) W
  have h1 : a * b ≤ c * 9223372036854775807 := Nat.mul_le_mul hac hb
  have hhi : a * b / 18446744073709551616 < c := by omega
  have hlo : a * b % 18446744073709551616 ≤ 18446744073709551615 := by omega
  have hD := Lib.hid (fun w => bits_Div64 w (a * b / 18446744073709551616) (a * b % 18446744073709551616) c (by omega) hhi (by omega))
  rw [Nat.div_add_mod'] at hD
  have hr0 : a * b % c ≤ c := by have := Nat.mod_lt (a * b) (show c > 0 by omega); omega
  have hql := part_le (b := b) hac hc
  clear h1
  generalize a * b / 18446744073709551616 = hi at HM hhi hD
  generalize a * b % 18446744073709551616 = lo at HM hlo hD
  generalize a * b / c = q at hD hql ⊢
  generalize a * b % c = r at hD hr0 ⊢
  have hhi' : decide ((c : Int) ≤ (hi : Int)) = false := by simp; omega
  go_enter Tryz.func287, Tryz.ntmps287
  go_wp2_with fail
  refine (reckon_counts _ a b).mono ?_
  rintro e w1 ⟨rfl, hb1⟩
  have B1 : Below w.heap.size w w1 := Below.then_ (by repeat (first | with_reducible exact Below.refl _ _ | with_reducible assumption | ((with_reducible refine Below.setCell ?_ ?_ _); rotate_left; · (first | omega | exact Nat.le_refl _ | (simp <;> omega))) | (with_reducible refine Below.allocW ?_ _) | (with_reducible refine Below.drew ?_) | (with_reducible refine Below.extW ?_ _))) hb1
  have s1 : w.heap.size ≤ w1.heap.size := B1.size
  rw [HC.out]
  go_wp2_with fail
  refine (HM.out _).mono ?_
  rintro e w2 ⟨rfl, rfl⟩
  go_wp2_with fail
  refine (hD.out _).mono ?_
  rintro e w3 ⟨rfl, hb3⟩
  have B3 : Below w.heap.size w w3 := Below.then_ (by repeat (first | with_reducible exact Below.refl _ _ | with_reducible assumption | ((with_reducible refine Below.setCell ?_ ?_ _); rotate_left; · (first | omega | exact Nat.le_refl _ | (simp <;> omega))) | (with_reducible refine Below.allocW ?_ _) | (with_reducible refine Below.drew ?_) | (with_reducible refine Below.extW ?_ _))) hb3
  have s3 : w.heap.size ≤ w3.heap.size := B3.size
  go_wp2_with fail
  go_ret3
  exact ⟨rfl, (by repeat (first | with_reducible exact Below.refl _ _ | with_reducible assumption | ((with_reducible refine Below.setCell ?_ ?_ _); rotate_left; · (first | omega | exact Nat.le_refl _ | (simp <;> omega))) | (with_reducible refine Below.allocW ?_ _) | (with_reducible refine Below.drew ?_) | (with_reducible refine Below.extW ?_ _)))⟩
theorem reckon_Part (w : World) (a b c : Nat) (hb : b ≤ 9223372036854775807) (hc : 1 ≤ c) (hc2 : c ≤ 9223372036854775807) (hac : a ≤ c) :
    Calls Tryz.prog 213 #[.int .i64 a, .int .i64 b, .int .i64 c] w fun e w' => e = .returned (.tuple #[.int .i64 (a * b / c : Nat), .bool true]) ∧ Below w.heap.size w w' := by
  have HS := Lib.hid (reckon_share · a b c hb hc hc2 hac)
  have hql := part_le (b := b) hac hc
  generalize a * b / c = q at HS hql ⊢
  generalize a * b % c = r at HS
  go_enter Tryz.func213, Tryz.ntmps213
  go_wp2_with fail
  refine (HS.out _).mono ?_
  rintro e w1 ⟨rfl, hb1⟩
  have B1 : Below w.heap.size w w1 := Below.then_ (by repeat (first | with_reducible exact Below.refl _ _ | with_reducible assumption | ((with_reducible refine Below.setCell ?_ ?_ _); rotate_left; · (first | omega | exact Nat.le_refl _ | (simp <;> omega))) | (with_reducible refine Below.allocW ?_ _) | (with_reducible refine Below.drew ?_) | (with_reducible refine Below.extW ?_ _))) hb1
  have s1 : w.heap.size ≤ w1.heap.size := B1.size
  go_wp2_with fail
  refine (reckon_count _ q (by omega)).mono ?_
  rintro e w2 ⟨rfl, hb2⟩
  have B2 : Below w.heap.size w w2 := Below.then_ (by repeat (first | with_reducible exact Below.refl _ _ | with_reducible assumption | ((with_reducible refine Below.setCell ?_ ?_ _); rotate_left; · (first | omega | exact Nat.le_refl _ | (simp <;> omega))) | (with_reducible refine Below.allocW ?_ _) | (with_reducible refine Below.drew ?_) | (with_reducible refine Below.extW ?_ _))) hb2
  have s2 : w.heap.size ≤ w2.heap.size := B2.size
  go_wp2_with fail
  go_ret2
  exact ⟨rfl, B2⟩
theorem reckon_PartUp (w : World) (a b c : Nat) (hb : b ≤ 9223372036854775807) (hc : 1 ≤ c) (hc2 : c ≤ 9223372036854775807) (hac : a ≤ c) :
    Calls Tryz.prog 250 #[.int .i64 a, .int .i64 b, .int .i64 c] w fun e w' => e = .returned (.tuple #[.int .i64 (upV a b c : Nat), .bool true]) ∧ Below w.heap.size w w' := by
  have HS := Lib.hid (reckon_share · a b c hb hc hc2 hac)
  have hql := part_le (b := b) hac hc
  have hqr : a * b % c ≠ 0 → a * b / c < b := fun h => part_lt hac hc h
  have hr0 : a * b % c ≤ c := by have := Nat.mod_lt (a * b) (show c > 0 by omega); omega
  unfold upV
  generalize a * b / c = q at HS hql hqr ⊢
  generalize a * b % c = r at HS hqr hr0 ⊢
  by_cases h : r = 0
  · subst h
    rw [if_pos rfl]
    go_enter Tryz.func250, Tryz.ntmps250
    go_wp2_with fail
    refine (HS.out _).mono ?_
    rintro e w1 ⟨rfl, hb1⟩
    have B1 : Below w.heap.size w w1 := Below.then_ (by repeat (first | with_reducible exact Below.refl _ _ | with_reducible assumption | ((with_reducible refine Below.setCell ?_ ?_ _); rotate_left; · (first | omega | exact Nat.le_refl _ | (simp <;> omega))) | (with_reducible refine Below.allocW ?_ _) | (with_reducible refine Below.drew ?_) | (with_reducible refine Below.extW ?_ _))) hb1
    have s1 : w.heap.size ≤ w1.heap.size := B1.size
    go_wp2_with fail
    refine (reckon_count _ q (by omega)).mono ?_
    rintro e w2 ⟨rfl, hb2⟩
    have B2 : Below w.heap.size w w2 := Below.then_ (by repeat (first | with_reducible exact Below.refl _ _ | with_reducible assumption | ((with_reducible refine Below.setCell ?_ ?_ _); rotate_left; · (first | omega | exact Nat.le_refl _ | (simp <;> omega))) | (with_reducible refine Below.allocW ?_ _) | (with_reducible refine Below.drew ?_) | (with_reducible refine Below.extW ?_ _))) hb2
    have s2 : w.heap.size ≤ w2.heap.size := B2.size
    go_wp2_with fail
    go_ret2
    exact ⟨rfl, B2⟩
  · rw [if_neg h]
    have hq2 := hqr h
    have h0 : (0 : Int) < (r : Int) := by omega
    clear hqr h
    have HK := Lib.hid (reckon_count · (q + 1) (by omega))
    push_cast at HK ⊢
    go_enter Tryz.func250, Tryz.ntmps250
    go_wp2_with fail
    refine (HS.out _).mono ?_
    rintro e w1 ⟨rfl, hb1⟩
    have B1 : Below w.heap.size w w1 := Below.then_ (by repeat (first | with_reducible exact Below.refl _ _ | with_reducible assumption | ((with_reducible refine Below.setCell ?_ ?_ _); rotate_left; · (first | omega | exact Nat.le_refl _ | (simp <;> omega))) | (with_reducible refine Below.allocW ?_ _) | (with_reducible refine Below.drew ?_) | (with_reducible refine Below.extW ?_ _))) hb1
    have s1 : w.heap.size ≤ w1.heap.size := B1.size
    go_wp2_with fail
    refine (HK.out _).mono ?_
    rintro e w2 ⟨rfl, hb2⟩
    have B2 : Below w.heap.size w w2 := Below.then_ (by repeat (first | with_reducible exact Below.refl _ _ | with_reducible assumption | ((with_reducible refine Below.setCell ?_ ?_ _); rotate_left; · (first | omega | exact Nat.le_refl _ | (simp <;> omega))) | (with_reducible refine Below.allocW ?_ _) | (with_reducible refine Below.drew ?_) | (with_reducible refine Below.extW ?_ _))) hb2
    have s2 : w.heap.size ≤ w2.heap.size := B2.size
    go_wp2_with fail
    go_ret2
    exact ⟨rfl, B2⟩
end Go.Proofs.YtcjnchjmpkapmaaGreat
/- Package reach: Between. -/
namespace Go.Proofs.YtcjnchjmpkapmaaGreat
open Go.ChangeShapes Go.WideShapes Go.ChangeAt Go.RowKit
set_option linter.unusedVariables false
set_option maxRecDepth 100000

/-- What those nodes weigh that lie in a range, and what those weigh that meet it. -/
def inLow (a b lo hi : Int) : Bool := decide (a ≤ lo) && decide (hi ≤ b)
def inHigh (a b lo hi : Int) : Bool := decide (lo ≤ b) && decide (a ≤ hi)
def betwLow (l : Int) (r : List Nd) (a b : Int) : Int := weighR l (inLow a b) r
def betwHigh (l : Int) (r : List Nd) (a b : Int) : Int := weighR l (inHigh a b) r
theorem weighR_one (l : Int) (f : Int → Int → Bool) (x : Nd) : weighR l f [x] = if f (endsOf l x.1).1 (endsOf l x.1).2.1 = true then x.2 else 0 := by simp only [weighR]; simp
theorem weighR_take {l : Int} {f : Int → Int → Bool} {r : List Nd} {q : Nat} (h : q < r.length) : weighR l f (r.take (q + 1)) = weighR l f (r.take q) + if f (endsOf l r[q].1).1 (endsOf l r[q].1).2.1 = true then r[q].2 else 0 := by
  rw [List.take_succ_eq_append_getElem h, weighR_append, weighR_one]

theorem le_or_dec (a b : Int) : a ≤ b ∨ decide (a ≤ b) = false := by
  by_cases h : a ≤ b
  · exact .inl h
  · exact .inr (decide_eq_false h)
theorem reach_Between1 (w : World) (id l a b : Int) (p q s : Nat) (hid : id ≤ 9223372036854775807) (h1 : w.cell? ⟨p, 0, none⟩ = some (.int .i64 l)) (h2 : w.cell? ⟨q, 0, none⟩ = some (.int .i64 a)) (h3 : w.cell? ⟨s, 0, none⟩ = some (.int .i64 b)) :
    Calls Tryz.prog 217 #[.int .i64 id, .pointer (some ⟨p, 0, none⟩), .pointer (some ⟨q, 0, none⟩), .pointer (some ⟨s, 0, none⟩)] w fun e w' => e = .returned (.tuple #[.bool (inLow a b (endsOf l id).1 (endsOf l id).2.1), .bool (inHigh a b (endsOf l id).1 (endsOf l id).2.1)]) ∧ Below w.heap.size w w' := by
  have HE := Lib.hid (twig_Ends · l id hid)
  have zq := lt_of_cell h2
  have zs := lt_of_cell h3
  generalize endsOf l id = t at HE ⊢
  obtain ⟨lo, hi, ok⟩ := t
  unfold endsV at HE
  simp only [inLow, inHigh]
  have H2 := Lib.hid h2
  have H3 := Lib.hid h3
  clear h2 h3
  rcases le_or_dec a lo with k1 | k1
  all_goals rcases le_or_dec lo b with k2 | k2
  all_goals (
    go_enter Tryz.func217, Tryz.ntmps217
    go_wp2_with fail
    refine (HE.out _).mono ?_
    rintro e w1 ⟨rfl, hb1⟩
    have B1 : Below w.heap.size w w1 := Below.then_ (by repeat (first | with_reducible exact Below.refl _ _ | with_reducible assumption | ((with_reducible refine Below.setCell ?_ ?_ _); rotate_left; · (first | omega | exact Nat.le_refl _ | (simp <;> omega))) | (with_reducible refine Below.allocW ?_ _) | (with_reducible refine Below.drew ?_) | (with_reducible refine Below.extW ?_ _))) hb1
    have s1 : w.heap.size ≤ w1.heap.size := B1.size
    have c2 := (hb1.cell (p := ⟨q, 0, none⟩) zq).trans H2.out
    have c3 := (hb1.cell (p := ⟨s, 0, none⟩) zs).trans H3.out
    have z2 := Nat.lt_of_lt_of_le zq s1
    have z3 := Nat.lt_of_lt_of_le zs s1
    go_wp2_with fail
    refine wp_region_ext (by kernel_rfl) (by kernel_rfl) ?_
    repeat (go_big_quiet_step (fail))
    refine wpQuiet_nil ?_
    intro w2 hb2
    replace hb2 := below_of_ext hb2
    have B2 : Below w.heap.size w w2 := Below.then_ (by repeat (first | with_reducible exact Below.refl _ _ | with_reducible assumption | ((with_reducible refine Below.setCell ?_ ?_ _); rotate_left; · (first | omega | exact Nat.le_refl _ | (simp <;> omega))) | (with_reducible refine Below.allocW ?_ _) | (with_reducible refine Below.drew ?_) | (with_reducible refine Below.extW ?_ _))) hb2
    have s2 : w.heap.size ≤ w2.heap.size := B2.size
    go_wp2_with fail
    go_ret2
    exact ⟨by simp [k1, k2], B2⟩)

/-- The cell of a Both. -/
def bothAt (w : World) (b : Nat) (lo hi : Int) : Prop := w.heap[b]? = some (.cells #[.int .i64 lo, .int .i64 hi] 57 (0, 0))
theorem bothAt.below {w w' : World} {b : Nat} {lo hi : Int} (h : bothAt w b lo hi) (hb : Below w.heap.size w w') : bothAt w' b lo hi := blk_below h hb
theorem bothAt.alloc {w : World} {b : Nat} {lo hi : Int} (h : bothAt w b lo hi) (o : Obj) : bothAt (w.alloc o) b lo hi := h.below ((Below.refl _ _).alloc (Nat.le_refl _) o)
theorem bothAt.drew {w : World} {b : Nat} {lo hi : Int} (h : bothAt w b lo hi) : bothAt w.drew b lo hi := h
theorem bothAt.set0 {w : World} {b : Nat} {lo hi : Int} (h : bothAt w b lo hi) (x : Int) : bothAt (w.setCell ⟨b, 0, none⟩ (.int .i64 x)) b x hi := heap_set_at (i := 0) h _
theorem bothAt.set1 {w : World} {b : Nat} {lo hi : Int} (h : bothAt w b lo hi) (x : Int) : bothAt (w.setCell ⟨b, 1, none⟩ (.int .i64 x)) b lo x := heap_set_at (i := 1) h _
theorem bothAt.set {w : World} {b q o : Nat} {lo hi : Int} (h : bothAt w b lo hi) (hne : b ≠ q) (u : Value) : bothAt (w.setCell ⟨q, o, none⟩ u) b lo hi := (Below.heap_setCell _ _ _ _ hne).trans h
theorem bothAt.new (w : World) (lo hi : Int) : bothAt (w.alloc (.cells #[.int .i64 lo, .int .i64 hi] 57)) w.heap.size lo hi := heap_alloc_new _ _

set_option maxHeartbeats 2000000 in
theorem sum_Between (w : World) (g K l : Nat) (k : Int) (r : List Nd) (F : Nat → Prop) (a b : Int) (p q s : Nat) (h : DigAt w g K l k r F) (hn : r.length ≤ 67108864) (h1 : w.cell? ⟨p, 0, none⟩ = some (.int .i64 l)) (h2 : w.cell? ⟨q, 0, none⟩ = some (.int .i64 a)) (h3 : w.cell? ⟨s, 0, none⟩ = some (.int .i64 b)) :
    Calls Tryz.prog 216 #[.pointer (some ⟨g, 0, none⟩), .func (.func 217) #[] #[.pointer (some ⟨p, 0, none⟩), .pointer (some ⟨q, 0, none⟩), .pointer (some ⟨s, 0, none⟩)]] w fun e w' => e = .returned (.agg #[.int .i64 (betwLow l r a b), .int .i64 (betwHigh l r a b)]) ∧ Below w.heap.size w w' := by
  have hf := h.fits
  have hll := h.l_le
  have HD := Lib.hid h
  have z1 := lt_of_cell h1
  have z2 := lt_of_cell h2
  have z3 := lt_of_cell h3
  have H1 := Lib.hid h1
  have H2 := Lib.hid h2
  have H3 := Lib.hid h3
  clear h h1 h2 h3
  go_enter Tryz.func216, Tryz.ntmps216
  go_wp2_with fail
  have B0 : Below w.heap.size w ((w.alloc (.cells #[.int .i64 0, .int .i64 0] 57)).alloc (.cells #[.int .i64 0, .int .i64 0] 57)) := (by repeat (first | with_reducible exact Below.refl _ _ | with_reducible assumption | ((with_reducible refine Below.setCell ?_ ?_ _); rotate_left; · (first | omega | exact Nat.le_refl _ | (simp <;> omega))) | (with_reducible refine Below.allocW ?_ _) | (with_reducible refine Below.drew ?_) | (with_reducible refine Below.extW ?_ _)))
  have K0 := Lib.hid ((bothAt.new w 0 0).alloc (.cells #[.int .i64 0, .int .i64 0] 57))
  have K1 := Lib.hid (bothAt.new (w.alloc (.cells #[.int .i64 0, .int .i64 0] 57)) 0 0)
  simp only [World.size_alloc] at K1
  refine (digest_Nodes _ g K l k r F (HD.out.below B0) hn).mono ?_
  rintro e w2 ⟨v, rfl, ho, hb2⟩
  have B2 : Below w.heap.size w w2 := Below.then_ (by repeat (first | with_reducible exact Below.refl _ _ | with_reducible assumption | ((with_reducible refine Below.setCell ?_ ?_ _); rotate_left; · (first | omega | exact Nat.le_refl _ | (simp <;> omega))) | (with_reducible refine Below.allocW ?_ _) | (with_reducible refine Below.drew ?_) | (with_reducible refine Below.extW ?_ _))) hb2
  have s2 : w.heap.size ≤ w2.heap.size := B2.size
  have HO := Lib.hid ho
  simp only [World.size_alloc] at HO
  have M0 := Lib.hid (K0.out.below hb2)
  have M1 := Lib.hid (K1.out.below hb2)
  have z0 : w.heap.size + 2 ≤ w2.heap.size := by have := hb2.size; simp at this; omega
  obtain ⟨A, cap, rfl, _⟩ := ho.form
  clear ho K0 K1 hb2 B0
  go_wp2_with fail
  go_loopw [13] (fun i wr => ∃ q : Nat, q ≤ r.length ∧ i = .int .i64 q ∧ bothAt wr w.heap.size 0 0 ∧ bothAt wr (w.heap.size + 1) (betwLow l (r.take q) a b) (betwHigh l (r.take q) a b) ∧ Own wr (w.heap.size + 1 + 1) 153 encN (.slice A r.length cap) r ∧ Below w.heap.size w wr) (fun i _ => r.length - (intOf i).toNat)
  case atStart => exact ⟨0, Nat.zero_le _, rfl, M0.out, M1.out, HO.out, B2⟩
  case round =>
    obtain ⟨j, hj, rfl, hm0, hm1, hown, hB⟩ := hrel
    have KO := Lib.hid hown
    have N0 := Lib.hid hm0
    have N1 := Lib.hid hm1
    have hs := hB.size
    have zn1 := lt_of_block hm1
    clear hown hm0
    by_cases hlt : j < r.length
    · obtain ⟨c, off, rfl, hc, hcl⟩ := KO.out.sl.at_ hlt
      have d0 := hcl 0 (.int .i64 r[j].1) rfl
      have d1 := hcl 1 (.int .i64 r[j].2) rfl
      simp only [Nat.add_zero] at d0
      have hx := hf.roll.2 _ (List.getElem_mem hlt)
      have hxl := hf.lt _ (List.getElem_mem hlt)
      have e1 := sumR_take_succ hlt
      have e2 := sumR_take_le hf.roll (j + 1)
      have e3 := hf.sum
      have e5 := weighR_le (l := l) (f := inLow a b) (hf.roll.take j)
      have e6 := weighR_le (l := l) (f := inHigh a b) (hf.roll.take j)
      have E7 : betwLow l (r.take (j + 1)) a b = _ := weighR_take hlt
      have E8 : betwHigh l (r.take (j + 1)) a b = _ := weighR_take hlt
      have hp := pow_48 (n := l) hll.2
      unfold betwLow at hm1 N1 E7 ⊢
      unfold betwHigh at hm1 N1 E8 ⊢
      obtain ⟨x, hxe⟩ : ∃ x, x = r[j] := ⟨_, rfl⟩
      rw [← hxe] at d0 d1 hx hxl e1 E7 E8
      have n2 : weighR l (inLow a b) (r.take j) + x.2 ≤ 72057594037927935 := by omega
      have n3 : weighR l (inHigh a b) (r.take j) + x.2 ≤ 72057594037927935 := by omega
      have n0 := e5.1
      have n1 := e6.1
      have hx1 : x.1 ≤ 562949953421312 := by omega
      have hx2 := hx.2
      have HC := Lib.hid (fun W => reach_Between1 W x.1 l a b p q s (by omega))
      generalize weighR l (inLow a b) (r.take j) = m at n0 n2 E7 hm1 N1
      generalize weighR l (inHigh a b) (r.take j) = n at n1 n3 E8 hm1 N1
      generalize inLow a b (endsOf l x.1).1 (endsOf l x.1).2.1 = bl at E7 HC
      generalize inHigh a b (endsOf l x.1).1 (endsOf l x.1).2.1 = bh at E8 HC
      have E7 := Lib.hid E7
      have E8 := Lib.hid E8
      clear hcl e1 e2 e3 e5 e6 hxe hxl hp hx hm1
      go_wp2_with fail
      have W3 : Below w.heap.size w (wr.alloc (.cells #[.int .i64 x.1, .int .i64 x.2] 153)) := hB.alloc hs _
      refine (HC.out _ ((W3.cell (p := ⟨p, 0, none⟩) z1).trans H1.out) ((W3.cell (p := ⟨q, 0, none⟩) z2).trans H2.out) ((W3.cell (p := ⟨s, 0, none⟩) z3).trans H3.out)).mono ?_
      rintro e w4 ⟨rfl, hb4⟩
      have B4 : Below w.heap.size w w4 := Below.then_ (by repeat (first | with_reducible exact Below.refl _ _ | with_reducible assumption | ((with_reducible refine Below.setCell ?_ ?_ _); rotate_left; · (first | omega | exact Nat.le_refl _ | (simp <;> omega))) | (with_reducible refine Below.allocW ?_ _) | (with_reducible refine Below.drew ?_) | (with_reducible refine Below.extW ?_ _))) hb4
      have s4 : w.heap.size ≤ w4.heap.size := B4.size
      have z4_0 : wr.heap.size < w4.heap.size := by have := hb4.size; (try simp at this); omega
      have y4_0 : wr.heap.size ≤ w4.heap.size := Nat.le_of_lt z4_0
      have c4_0 := fun o => hb4.cell (p := ⟨wr.heap.size, o, none⟩) (by first | omega | (simp <;> omega))
      have f4_0 := fun o => hb4.frozen (p := ⟨wr.heap.size, o, none⟩) (by first | omega | (simp <;> omega))
      have L0 := Lib.hid ((N0.out.alloc _).below hb4)
      have l1 := (N1.out.alloc _).below hb4
      have L1 := Lib.hid l1
      have LO := Lib.hid ((KO.out.alloc _).below hb4)
      have cc := blk_cell l1
      have cf := blk_frozen l1
      have zz := lt_of_block l1
      have hne : w.heap.size ≠ w.heap.size + 1 := by omega
      clear l1 hb4
      cases bl
      all_goals cases bh
      all_goals (
        go_wp2_with fail
        go_roundw
        case rel =>
          have F7 := E7.out
          have F8 := E8.out
          simp only [Bool.false_eq_true, if_false, if_true, Int.add_zero, reduceIte] at F7 F8
          refine ⟨j + 1, by omega, by go_num, ?_, ?_, ?_, (by repeat (first | with_reducible exact Below.refl _ _ | with_reducible assumption | ((with_reducible refine Below.setCell ?_ ?_ _); rotate_left; · (first | omega | exact Nat.le_refl _ | (simp <;> omega))) | (with_reducible refine Below.allocW ?_ _) | (with_reducible refine Below.drew ?_) | (with_reducible refine Below.extW ?_ _)))⟩
          · first
              | exact L0.out
              | exact L0.out.set hne _
              | exact (L0.out.set hne _).set hne _
          · rw [F7, F8]
            first
              | exact L1.out
              | exact L1.out.set0 _
              | exact L1.out.set1 _
              | exact (L1.out.set0 _).set1 _
          · first
              | exact LO.out
              | exact LO.out.setCellB (by simp only; omega)
              | exact (LO.out.setCellB (by simp only; omega)).setCellB (by simp only; omega)
        case measure => simp [intOf]; omega)
    · obtain rfl : j = r.length := by omega
      rw [List.take_length] at N1 hm1
      have cc := blk_cell hm1
      have cf0 := blk_frozen N0.out
      have cc0 := blk_cell N0.out
      have zn0 := lt_of_block N0.out
      clear hm1
      go_wp2_with fail
      exact bodyPost_ret (v := .agg #[.int .i64 (betwLow l r a b), .int .i64 (betwHigh l r a b)]) (by simp only [results, Tryz.results216]; go_simp) rfl ⟨rfl, (by repeat (first | with_reducible exact Below.refl _ _ | with_reducible assumption | ((with_reducible refine Below.setCell ?_ ?_ _); rotate_left; · (first | omega | exact Nat.le_refl _ | (simp <;> omega))) | (with_reducible refine Below.allocW ?_ _) | (with_reducible refine Below.drew ?_) | (with_reducible refine Below.extW ?_ _)))⟩
end Go.Proofs.YtcjnchjmpkapmaaGreat
/- What weighs on nodes: plain laws. -/
namespace Go.Proofs.YtcjnchjmpkapmaaGreat
open Go.ChangeShapes Go.WideShapes Go.ChangeAt Go.RowKit
set_option linter.unusedVariables false

/-- Runs of values: a value of one of them. -/
def covR (L : List (Int × Int)) (v : Int) : Prop := ∃ r ∈ L, r.1 ≤ v ∧ v ≤ r.2
/-- They rise, apart and not side by side. -/
structure Apart (L : List (Int × Int)) : Prop where
  sep : L.Pairwise fun a b => a.2 + 1 < b.1
  run : ∀ r ∈ L, r.1 ≤ r.2
/-- How many values of a run lie in another one. -/
def ov (r : Int × Int) (lo hi : Int) : Int := max 0 (min r.2 hi - max r.1 lo + 1)
def cntR (lo hi : Int) : List (Int × Int) → Int
  | [] => 0
  | r :: L => ov r lo hi + cntR lo hi L
theorem cntR_append (lo hi : Int) (a b : List (Int × Int)) : cntR lo hi (a ++ b) = cntR lo hi a + cntR lo hi b := by
  induction a with
  | nil => simp [cntR]
  | cons x a ih => simp only [List.cons_append, cntR, ih]; omega
theorem cntR_cut {L : List (Int × Int)} {lo hi m : Int} (h : ∀ r ∈ L, m ≤ r.1) : cntR lo hi L = cntR (max lo m) hi L := by
  induction L with
  | nil => rfl
  | cons r L ih =>
    simp only [cntR]
    rw [ih fun s hs => h s (by simp [hs])]
    have := h r (by simp)
    unfold ov; omega
theorem cntR_none {L : List (Int × Int)} {lo hi : Int} (h : ∀ r ∈ L, hi < r.1) : cntR lo hi L = 0 := by
  induction L with
  | nil => rfl
  | cons r L ih =>
    simp only [cntR]
    rw [ih fun s hs => h s (by simp [hs])]
    have := h r (by simp)
    unfold ov; omega
theorem covR_cons {r : Int × Int} {L : List (Int × Int)} {v : Int} : covR (r :: L) v ↔ (r.1 ≤ v ∧ v ≤ r.2) ∨ covR L v := by
  constructor
  · rintro ⟨s, hs, h⟩
    rcases List.mem_cons.1 hs with rfl | hs
    · exact .inl h
    · exact .inr ⟨s, hs, h⟩
  · rintro (h | ⟨s, hs, h⟩)
    · exact ⟨r, by simp, h⟩
    · exact ⟨s, by simp [hs], h⟩
theorem ov_facts (p q lo hi : Int) : ∃ a b, (a = q ∨ a = hi) ∧ a ≤ q ∧ a ≤ hi ∧ (b = p ∨ b = lo) ∧ p ≤ b ∧ lo ≤ b ∧ 0 ≤ ov (p, q) lo hi ∧ ((ov (p, q) lo hi = 0 ∧ a - b + 1 ≤ 0) ∨ (ov (p, q) lo hi = a - b + 1 ∧ 0 ≤ a - b + 1)) := by
  refine ⟨min q hi, max p lo, ?_, Int.min_le_left _ _, Int.min_le_right _ _, ?_, Int.le_max_left _ _, Int.le_max_right _ _, Int.le_max_left _ _, ?_⟩
  · omega
  · omega
  · unfold ov
    simp only
    generalize min q hi - max p lo + 1 = z
    omega
theorem cnt_spec : ∀ (L : List (Int × Int)) (lo hi : Int), Apart L → lo ≤ hi + 1 → 0 ≤ cntR lo hi L ∧ cntR lo hi L ≤ hi - lo + 1 ∧ (cntR lo hi L = hi - lo + 1 ↔ ∀ v, lo ≤ v → v ≤ hi → covR L v) ∧ (0 < cntR lo hi L ↔ ∃ v, lo ≤ v ∧ v ≤ hi ∧ covR L v) := by
  intro L
  induction L with
  | nil =>
    intro lo hi _ h
    simp only [cntR]
    refine ⟨Int.le_refl _, by omega, ⟨fun h1 v h2 h3 => by omega, fun h1 => ?_⟩, ⟨fun h1 => by omega, ?_⟩⟩
    · apply Classical.byContradiction
      intro hn
      obtain ⟨s, hs, _⟩ := h1 lo (Int.le_refl _) (by omega)
      simp at hs
    · rintro ⟨v, _, _, s, hs, _⟩
      simp at hs
  | cons r L ih =>
    intro lo hi hA h
    obtain ⟨p, q⟩ := r
    have hrun : p ≤ q := hA.run (p, q) (by simp)
    have hsep : (∀ s ∈ L, q + 1 < s.1) ∧ L.Pairwise (fun a b => a.2 + 1 < b.1) := List.pairwise_cons.1 hA.sep
    have hA' : Apart L := ⟨hsep.2, fun s hs => hA.run s (by simp [hs])⟩
    have hrs : ∀ v, covR L v → q + 1 < v := by
      rintro v ⟨s, hs, h1, h2⟩
      have := hsep.1 s hs
      omega
    obtain ⟨a, b, u1, u2, u3, u4, u5, u6, u7, u8⟩ := ov_facts p q lo hi
    simp only [cntR]
    by_cases hm : q ≤ hi
    · have hc := cntR_cut (L := L) (lo := lo) (hi := hi) (m := q + 1) (fun s hs => by have := hsep.1 s hs; omega)
      have m1 : lo ≤ max lo (q + 1) ∧ q + 1 ≤ max lo (q + 1) ∧ (max lo (q + 1) = lo ∨ max lo (q + 1) = q + 1) := by omega
      obtain ⟨i1, i2, i3, i4⟩ := ih (max lo (q + 1)) hi hA' (by omega)
      rw [hc]
      clear hc
      generalize max lo (q + 1) = m at m1 i1 i2 i3 i4
      generalize cntR m hi L = c at i1 i2 i3 i4
      generalize ov (p, q) lo hi = o at u7 u8
      refine ⟨by (clear i3 i4; omega), by (clear i3 i4; omega), ⟨fun h1 v h2 h3 => ?_, fun h1 => ?_⟩, ⟨fun h1 => ?_, ?_⟩⟩
      · rw [covR_cons]
        by_cases hv : v ≤ q
        · left; (clear i3 i4; omega)
        · right
          exact i3.1 (by (clear i3 i4; omega)) v (by (clear i3 i4; omega)) h3
      · have a1 : c = hi - m + 1 := i3.2 fun v h2 h3 => by
          rcases covR_cons.1 (h1 v (by (clear i3 i4; omega)) h3) with h4 | h4
          · (clear i3 i4; omega)
          · exact h4
        by_cases hl : lo ≤ q
        · rcases covR_cons.1 (h1 lo (Int.le_refl _) (by (clear i3 i4; omega))) with h4 | h4
          · (clear i3 i4; omega)
          · have := hrs _ h4; (clear i3 i4; omega)
        · (clear i3 i4; omega)
      · by_cases hc0 : 0 < c
        · obtain ⟨v, h2, h3, h4⟩ := i4.1 hc0
          exact ⟨v, by (clear i3 i4; omega), h3, covR_cons.2 (.inr h4)⟩
        · exact ⟨b, by (clear i3 i4; omega), by (clear i3 i4; omega), covR_cons.2 (.inl (by (clear i3 i4; omega)))⟩
      · rintro ⟨v, h2, h3, h4⟩
        rcases covR_cons.1 h4 with h5 | h5
        · (clear i3 i4; omega)
        · have := i4.2 ⟨v, by have := hrs _ h5; (clear i3 i4; omega), h3, h5⟩
          (clear i3 i4; omega)
    · have hc : cntR lo hi L = 0 := cntR_none fun s hs => by have := hsep.1 s hs; omega
      rw [hc]
      clear hc
      generalize ov (p, q) lo hi = o at u7 u8
      refine ⟨by omega, by omega, ⟨fun h1 v h2 h3 => covR_cons.2 (.inl (by omega)), fun h1 => ?_⟩, ⟨fun h1 => ⟨b, by omega, by omega, covR_cons.2 (.inl (by omega))⟩, ?_⟩⟩
      · by_cases hl : lo ≤ hi
        · rcases covR_cons.1 (h1 lo (Int.le_refl _) hl) with h4 | h4
          · omega
          · have := hrs _ h4; omega
        · omega
      · rintro ⟨v, h2, h3, h4⟩
        rcases covR_cons.1 h4 with h5 | h5
        · omega
        · have := hrs _ h5; omega
/-- Runs with one more. -/
structure WithS where
  ahead : List (Int × Int)
  x : Int × Int
  behind : List (Int × Int)
def withStep (s : WithS) (r : Int × Int) : WithS :=
  if r.2 + 1 < s.x.1 then { s with ahead := s.ahead ++ [r] }
  else if s.x.2 + 1 < r.1 then { s with behind := s.behind ++ [r] }
  else { s with x := (if r.1 < s.x.1 then r.1 else s.x.1, if s.x.2 < r.2 then r.2 else s.x.2) }
def withF (L : List (Int × Int)) (x : Int × Int) : WithS := L.foldl withStep ⟨[], x, []⟩
def withL (L : List (Int × Int)) (x : Int × Int) : List (Int × Int) := (withF L x).ahead ++ [(withF L x).x] ++ (withF L x).behind
structure WInv (pre : List (Int × Int)) (x : Int × Int) (s : WithS) : Prop where
  run : s.x.1 ≤ s.x.2
  a : ∀ r ∈ s.ahead, r ∈ pre ∧ r.2 + 1 < s.x.1
  b : ∀ r ∈ s.behind, r ∈ pre ∧ s.x.2 + 1 < r.1
  asep : s.ahead.Pairwise fun a b => a.2 + 1 < b.1
  bsep : s.behind.Pairwise fun a b => a.2 + 1 < b.1
  cov : ∀ v, (covR s.ahead v ∨ (s.x.1 ≤ v ∧ v ≤ s.x.2) ∨ covR s.behind v) ↔ (covR pre v ∨ (x.1 ≤ v ∧ v ≤ x.2))
theorem covR_append {a b : List (Int × Int)} {v : Int} : covR (a ++ b) v ↔ covR a v ∨ covR b v := by
  constructor
  · rintro ⟨t, ht, g⟩
    rcases List.mem_append.1 ht with ht | ht
    · exact .inl ⟨t, ht, g⟩
    · exact .inr ⟨t, ht, g⟩
  · rintro (⟨t, ht, g⟩ | ⟨t, ht, g⟩)
    · exact ⟨t, List.mem_append_left _ ht, g⟩
    · exact ⟨t, List.mem_append_right _ ht, g⟩
theorem covR_one {r : Int × Int} {v : Int} : covR [r] v ↔ r.1 ≤ v ∧ v ≤ r.2 :=
  ⟨by rintro ⟨t, ht, g⟩; rw [List.mem_singleton.1 ht] at g; exact g, fun g => ⟨r, by simp, g⟩⟩
theorem winv_step {pre : List (Int × Int)} {x r : Int × Int} {s : WithS} (h : WInv pre x s) (hr : r.1 ≤ r.2) (hp : ∀ q ∈ pre, q.2 + 1 < r.1) (hpr : ∀ q ∈ pre, q.1 ≤ q.2) : WInv (pre ++ [r]) x (withStep s r) := by
  have hrun := h.run
  have hb : ∀ q ∈ s.behind, s.x.2 + 1 < r.1 := fun q hq => by
    have h1 := (h.b q hq).2
    have h2 := hp q (h.b q hq).1
    have h3 := hpr q (h.b q hq).1
    omega
  unfold withStep
  by_cases c1 : r.2 + 1 < s.x.1
  · rw [if_pos c1]
    refine ⟨h.run, fun q hq => ?_, fun q hq => ⟨List.mem_append_left _ (h.b q hq).1, (h.b q hq).2⟩, ?_, h.bsep, fun v => ?_⟩
    · rcases List.mem_append.1 hq with hq | hq
      · exact ⟨List.mem_append_left _ (h.a q hq).1, (h.a q hq).2⟩
      · rw [List.mem_singleton.1 hq]; exact ⟨by simp, c1⟩
    · refine List.pairwise_append.2 ⟨h.asep, List.pairwise_singleton _ _, fun a ha b hb => ?_⟩
      rw [List.mem_singleton.1 hb]; exact hp a (h.a a ha).1
    · have := h.cov v
      simp only [covR_append, covR_one] at this ⊢
      constructor
      · rintro ((k | k) | k | k)
        · rcases this.1 (.inl k) with k | k <;> simp [k]
        · simp [k]
        · rcases this.1 (.inr (.inl k)) with k | k <;> simp [k]
        · rcases this.1 (.inr (.inr k)) with k | k <;> simp [k]
      · rintro ((k | k) | k)
        · rcases this.2 (.inl k) with k | k | k <;> simp [k]
        · simp [k]
        · rcases this.2 (.inr k) with k | k | k <;> simp [k]
  · rw [if_neg c1]
    by_cases c2 : s.x.2 + 1 < r.1
    · rw [if_pos c2]
      refine ⟨h.run, fun q hq => ⟨List.mem_append_left _ (h.a q hq).1, (h.a q hq).2⟩, fun q hq => ?_, h.asep, ?_, fun v => ?_⟩
      · rcases List.mem_append.1 hq with hq | hq
        · exact ⟨List.mem_append_left _ (h.b q hq).1, (h.b q hq).2⟩
        · rw [List.mem_singleton.1 hq]; exact ⟨by simp, c2⟩
      · refine List.pairwise_append.2 ⟨h.bsep, List.pairwise_singleton _ _, fun a ha b hb => ?_⟩
        rw [List.mem_singleton.1 hb]; exact hp a (h.b a ha).1
      · have := h.cov v
        simp only [covR_append, covR_one] at this ⊢
        constructor
        · rintro (k | k | k | k)
          · rcases this.1 (.inl k) with k | k <;> simp [k]
          · rcases this.1 (.inr (.inl k)) with k | k <;> simp [k]
          · rcases this.1 (.inr (.inr k)) with k | k <;> simp [k]
          · simp [k]
        · rintro ((k | k) | k)
          · rcases this.2 (.inl k) with k | k | k <;> simp [k]
          · simp [k]
          · rcases this.2 (.inr k) with k | k | k <;> simp [k]
    · rw [if_neg c2]
      have hb0 : s.behind = [] := by
        cases hbs : s.behind with
        | nil => rfl
        | cons q qs => exact absurd (hb q (by rw [hbs]; simp)) c2
      have m1 : (if r.1 < s.x.1 then r.1 else s.x.1) = min r.1 s.x.1 := by split <;> omega
      have m2 : (if s.x.2 < r.2 then r.2 else s.x.2) = max r.2 s.x.2 := by split <;> omega
      rw [m1, m2]
      refine ⟨by simp only; omega, fun q hq => ⟨List.mem_append_left _ (h.a q hq).1, ?_⟩, fun q hq => ?_, h.asep, h.bsep, fun v => ?_⟩
      · have := (h.a q hq).2
        have := hp q (h.a q hq).1
        simp only; omega
      · simp only [hb0] at hq; simp at hq
      · have := h.cov v
        simp only [covR_append, covR_one, hb0] at this ⊢
        have hn : ¬ covR [] v := by rintro ⟨t, ht, _⟩; simp at ht
        constructor
        · rintro (k | k | k)
          · rcases this.1 (.inl k) with k | k <;> simp [k]
          · by_cases k2 : r.1 ≤ v ∧ v ≤ r.2
            · simp [k2]
            · rcases this.1 (.inr (.inl (by omega))) with k | k <;> simp [k]
          · exact absurd k hn
        · rintro ((k | k) | k)
          · rcases this.2 (.inl k) with k | k | k
            · simp [k]
            · exact .inr (.inl (by omega))
            · exact absurd k hn
          · exact .inr (.inl (by omega))
          · rcases this.2 (.inr k) with k | k | k
            · simp [k]
            · exact .inr (.inl (by omega))
            · exact absurd k hn
theorem withF_inv {L : List (Int × Int)} (hA : Apart L) {x : Int × Int} (hx : x.1 ≤ x.2) : WInv L x (withF L x) := by
  suffices h : ∀ k, k ≤ L.length → WInv (L.take k) x ((L.take k).foldl withStep ⟨[], x, []⟩) by
    have := h L.length (Nat.le_refl _)
    rwa [List.take_length] at this
  intro k
  induction k with
  | zero => exact fun _ => ⟨hx, by simp, by simp, by simp, by simp, fun v => by simp [covR]⟩
  | succ k ih =>
    intro hk
    have hlt : k < L.length := by omega
    rw [List.take_succ_eq_append_getElem hlt, List.foldl_append]
    refine winv_step (ih (by omega)) (hA.run _ (List.getElem_mem hlt)) (fun q hq => ?_) (fun q hq => hA.run q (List.mem_of_mem_take hq))
    obtain ⟨i, hi, rfl⟩ := List.getElem_of_mem hq
    simp only [List.length_take] at hi
    rw [List.getElem_take]
    exact List.pairwise_iff_getElem.1 hA.sep i k (by omega) hlt (by omega)
theorem withL_apart {L : List (Int × Int)} (hA : Apart L) {x : Int × Int} (hx : x.1 ≤ x.2) : Apart (withL L x) ∧ ∀ v, covR (withL L x) v ↔ covR L v ∨ (x.1 ≤ v ∧ v ≤ x.2) := by
  have W := withF_inv hA hx
  unfold withL
  generalize withF L x = s at W
  refine ⟨⟨?_, ?_⟩, fun v => ?_⟩
  · rw [List.append_assoc]
    refine List.pairwise_append.2 ⟨W.asep, List.pairwise_cons.2 ⟨fun b hb => (W.b b hb).2, W.bsep⟩, fun a ha b hb => ?_⟩
    have h1 := (W.a a ha).2
    have h2 := W.run
    rcases List.mem_cons.1 hb with rfl | hb
    · exact h1
    · have := (W.b b hb).2; omega
  · intro r hr
    rcases List.mem_append.1 hr with hr | hr
    · rcases List.mem_append.1 hr with hr | hr
      · exact hA.run r (W.a r hr).1
      · rw [List.mem_singleton.1 hr]; exact W.run
    · exact hA.run r (W.b r hr).1
  · rw [covR_append, covR_append, covR_one, ← W.cov, or_assoc]
/-- The runs that nodes hold. -/
def runsF (l : Nat) (ids : List Int) : List (Int × Int) := ids.foldl (fun o x => withL o (loN l x, hiN l x)) []
theorem runsF_snoc (l : Nat) (ids : List Int) (x : Int) : runsF l (ids ++ [x]) = withL (runsF l ids) (loN l x, hiN l x) := by
  unfold runsF; rw [List.foldl_append]; rfl
theorem runsF_apart {l : Nat} {ids : List Int} (hn : ∀ x ∈ ids, isNode l x = true) : Apart (runsF l ids) ∧ ∀ v, covR (runsF l ids) v ↔ held l ids v := by
  suffices h : ∀ k, k ≤ ids.length → Apart (runsF l (ids.take k)) ∧ ∀ v, covR (runsF l (ids.take k)) v ↔ held l (ids.take k) v by
    have := h ids.length (Nat.le_refl _)
    rwa [List.take_length] at this
  intro k
  induction k with
  | zero => exact fun _ => ⟨⟨by simp [runsF], by simp [runsF]⟩, fun v => by simp [runsF, covR, held]⟩
  | succ k ih =>
    intro hk
    have hlt : k < ids.length := by omega
    obtain ⟨i1, i2⟩ := ih (by omega)
    rw [List.take_succ_eq_append_getElem hlt, runsF_snoc]
    have := withL_apart i1 (x := (loN l ids[k], hiN l ids[k])) (lo_hi (hn _ (List.getElem_mem hlt)))
    refine ⟨this.1, fun v => ?_⟩
    rw [this.2, i2, held_append, held_one]
/-- Tiles one behind the other, from a value to another one. -/
def chainT (l : Nat) (b : Int) : Int → List Int → Prop
  | a, [] => a = b + 1
  | a, t :: L => isNode l t = true ∧ loN l t = a ∧ hiN l t ≤ b ∧ chainT l b (hiN l t + 1) L
def ends2 (l : Nat) (t : Int) : Int × Int := (loN l t, hiN l t)
theorem chain_cnt {l : Nat} {b : Int} (lo hi : Int) : ∀ (L : List Int) (a : Int), a ≤ b + 1 → chainT l b a L → cntR lo hi (L.map (ends2 l)) = ov (a, b) lo hi := by
  intro L
  induction L with
  | nil =>
    intro a ha h
    simp only [chainT] at h
    simp only [List.map_nil, cntR, ov]; omega
  | cons t L ih =>
    intro a ha h
    obtain ⟨h1, h2, h3, h4⟩ := h
    have hw := lo_hi h1
    simp only [List.map_cons, cntR]
    rw [ih _ (by omega) h4]
    unfold ov ends2
    simp only
    omega
/-- How many values of a run nodes hold. -/
def heldC (l : Nat) (ids : List Int) (x : Int) : Int := cntR (loN l x) (hiN l x) (runsF l ids)
theorem heldC_spec {l : Nat} {ids : List Int} (hn : ∀ y ∈ ids, isNode l y = true) {x : Int} (hx : isNode l x = true) : 0 ≤ heldC l ids x ∧ heldC l ids x ≤ hiN l x - loN l x + 1 ∧ (heldC l ids x = hiN l x - loN l x + 1 ↔ ∀ v, loN l x ≤ v → v ≤ hiN l x → held l ids v) ∧ (0 < heldC l ids x ↔ ∃ v, loN l x ≤ v ∧ v ≤ hiN l x ∧ held l ids v) := by
  obtain ⟨h1, h2⟩ := runsF_apart hn
  have := cnt_spec (runsF l ids) (loN l x) (hiN l x) h1 (by have := lo_hi hx; omega)
  unfold heldC
  simpa only [h2] using this
/-- Is all that a node holds held by tiles, is some of it? -/
def allT (T : List Int) (x : Int) : Bool := T.any fun t => abv t x
def someT (T : List Int) (x : Int) : Bool := T.any fun t => abv t x || abv x t
theorem tiles_all {l : Nat} {C : Int → Prop} {T : List Int} (h : Tiles l C T) {x : Int} (hx : isNode l x = true) : (allT T x = true ↔ ∀ v, loN l x ≤ v → v ≤ hiN l x → C v) ∧ (someT T x = true ↔ ∃ v, loN l x ≤ v ∧ v ≤ hiN l x ∧ C v) := by
  have hw := lo_hi hx
  constructor
  · constructor
    · intro ha v h1 h2
      obtain ⟨t, ht, g⟩ := List.any_eq_true.1 ha
      have := (abv_iff (h.node t ht) hx).1 g
      exact (h.cov v).1 ⟨t, ht, by omega, by omega⟩
    · intro hv
      obtain ⟨t, ht, g⟩ := h.top x hx hv
      exact List.any_eq_true.2 ⟨t, ht, g⟩
  · constructor
    · intro ha
      obtain ⟨t, ht, g⟩ := List.any_eq_true.1 ha
      have hwt := lo_hi (h.node t ht)
      rcases Bool.or_eq_true _ _ ▸ g with g | g
      · have := (abv_iff (h.node t ht) hx).1 g
        exact ⟨loN l x, Int.le_refl _, hw, (h.cov _).1 ⟨t, ht, by omega, by omega⟩⟩
      · have := (abv_iff hx (h.node t ht)).1 g
        exact ⟨loN l t, by omega, by omega, (h.cov _).1 ⟨t, ht, Int.le_refl _, hwt⟩⟩
    · rintro ⟨v, h1, h2, hv⟩
      obtain ⟨t, ht, g1, g2⟩ := (h.cov v).2 hv
      refine List.any_eq_true.2 ⟨t, ht, ?_⟩
      rcases lam (h.node t ht) hx (by omega) (by omega) with g | g <;> simp [g]
/-- What is on tiles. -/
def onT (T : List Int) (r : List Nd) : Int × Int := (wIds (allT T) r, wIds (someT T) r)
theorem wIds_congr {p q : Int → Bool} {r : List Nd} (h : ∀ x ∈ r, p x.1 = q x.1) : wIds p r = wIds q r := by
  induction r with
  | nil => rfl
  | cons x r ih => simp only [wIds, h x (by simp), ih fun y hy => h y (by simp [hy])]
theorem onT_congr {l : Nat} {C D : Int → Prop} {T U : List Int} {r : List Nd} (h : Tiles l C T) (k : Tiles l D U) (hn : ∀ x ∈ r, isNode l x.1 = true) (hCD : ∀ v, 0 ≤ v → v ≤ 2 ^ l - 1 → (C v ↔ D v)) : onT T r = onT U r := by
  have e : ∀ x, isNode l x = true → (∀ v, loN l x ≤ v → v ≤ hiN l x → (C v ↔ D v)) := fun x hx v h1 h2 => hCD v (by have := lo_0 hx; omega) (by have := hi_top hx; omega)
  unfold onT
  refine Prod.ext (wIds_congr fun x hx => ?_) (wIds_congr fun x hx => ?_)
  · rw [Bool.eq_iff_iff, (tiles_all h (hn x hx)).1, (tiles_all k (hn x hx)).1]
    exact ⟨fun g v h1 h2 => (e _ (hn x hx) v h1 h2).1 (g v h1 h2), fun g v h1 h2 => (e _ (hn x hx) v h1 h2).2 (g v h1 h2)⟩
  · rw [Bool.eq_iff_iff, (tiles_all h (hn x hx)).2, (tiles_all k (hn x hx)).2]
    exact ⟨fun ⟨v, h1, h2, g⟩ => ⟨v, h1, h2, (e _ (hn x hx) v h1 h2).1 g⟩, fun ⟨v, h1, h2, g⟩ => ⟨v, h1, h2, (e _ (hn x hx) v h1 h2).2 g⟩⟩
/-- The document's: node by node, by how many values are held. -/
def refOn (l : Nat) (ids : List Int) (off : Bool) (r : List Nd) : Int × Int :=
  (wIds (fun x => decide ((if off = true then hiN l x - loN l x + 1 - heldC l ids x else heldC l ids x) = hiN l x - loN l x + 1)) r, wIds (fun x => decide (0 < (if off = true then hiN l x - loN l x + 1 - heldC l ids x else heldC l ids x))) r)
theorem ref_on {l : Nat} {ids T : List Int} {r : List Nd} (hi : ∀ y ∈ ids, isNode l y = true) (h : Tiles l (held l ids) T) (hn : ∀ x ∈ r, isNode l x.1 = true) : onT T r = refOn l ids false r := by
  unfold onT refOn
  refine Prod.ext (wIds_congr fun x hx => ?_) (wIds_congr fun x hx => ?_)
  · rw [Bool.eq_iff_iff, (tiles_all h (hn x hx)).1, decide_eq_true_eq, if_neg (by simp)]
    exact (heldC_spec hi (hn x hx)).2.2.1.symm
  · rw [Bool.eq_iff_iff, (tiles_all h (hn x hx)).2, decide_eq_true_eq, if_neg (by simp)]
    exact (heldC_spec hi (hn x hx)).2.2.2.symm
theorem ref_off {l : Nat} {ids T : List Int} {r : List Nd} (hi : ∀ y ∈ ids, isNode l y = true) (h : Tiles l (fun v => (0 ≤ v ∧ v ≤ 2 ^ l - 1) ∧ ¬ held l ids v) T) (hn : ∀ x ∈ r, isNode l x.1 = true) : onT T r = refOn l ids true r := by
  unfold onT refOn
  have e : ∀ x, isNode l x = true → ∀ v, loN l x ≤ v → v ≤ hiN l x → 0 ≤ v ∧ v ≤ 2 ^ l - 1 := fun x hx v h1 h2 => ⟨by have := lo_0 hx; omega, by have := hi_top hx; omega⟩
  refine Prod.ext (wIds_congr fun x hx => ?_) (wIds_congr fun x hx => ?_)
  · rw [Bool.eq_iff_iff, (tiles_all h (hn x hx)).1, decide_eq_true_eq, if_pos rfl]
    obtain ⟨s1, s2, s3, s4⟩ := heldC_spec hi (hn x hx)
    constructor
    · intro g
      have : ¬ 0 < heldC l ids x.1 := fun hc => by
        obtain ⟨v, h1, h2, h3⟩ := s4.1 hc
        exact (g v h1 h2).2 h3
      omega
    · intro g v h1 h2
      refine ⟨e _ (hn x hx) v h1 h2, fun hv => ?_⟩
      have := s4.2 ⟨v, h1, h2, hv⟩
      omega
  · rw [Bool.eq_iff_iff, (tiles_all h (hn x hx)).2, decide_eq_true_eq, if_pos rfl]
    obtain ⟨s1, s2, s3, s4⟩ := heldC_spec hi (hn x hx)
    constructor
    · rintro ⟨v, h1, h2, _, h3⟩
      have : heldC l ids x.1 ≠ hiN l x.1 - loN l x.1 + 1 := fun hc => h3 (s3.1 hc v h1 h2)
      omega
    · intro g
      apply Classical.byContradiction
      intro hc
      have := s3.2 fun v h1 h2 => Classical.byContradiction fun hv => hc ⟨v, h1, h2, e _ (hn x hx) v h1 h2, hv⟩
      omega
/-- What is on at least, and off at most, are all. -/
theorem on_off {l : Nat} {C : Int → Prop} {T U : List Int} {r : List Nd} (h : Tiles l C T) (k : Tiles l (fun v => (0 ≤ v ∧ v ≤ 2 ^ l - 1) ∧ ¬ C v) U) (hn : ∀ x ∈ r, isNode l x.1 = true) : (onT T r).1 + (onT U r).2 = sumR r ∧ (onT T r).2 + (onT U r).1 = sumR r := by
  have e : ∀ x, isNode l x = true → ∀ v, loN l x ≤ v → v ≤ hiN l x → 0 ≤ v ∧ v ≤ 2 ^ l - 1 := fun x hx v h1 h2 => ⟨by have := lo_0 hx; omega, by have := hi_top hx; omega⟩
  have a1 : ∀ x, isNode l x = true → someT U x = !allT T x := by
    intro x hx
    rw [Bool.eq_iff_iff, (tiles_all k hx).2, Bool.not_eq_true', ← Bool.not_eq_true, (tiles_all h hx).1]
    constructor
    · rintro ⟨v, h1, h2, _, h3⟩ g
      exact h3 (g v h1 h2)
    · intro g
      apply Classical.byContradiction
      intro hc
      exact g fun v h1 h2 => Classical.byContradiction fun hv => hc ⟨v, h1, h2, e x hx v h1 h2, hv⟩
  have a2 : ∀ x, isNode l x = true → allT U x = !someT T x := by
    intro x hx
    rw [Bool.eq_iff_iff, (tiles_all k hx).1, Bool.not_eq_true', ← Bool.not_eq_true, (tiles_all h hx).2]
    constructor
    · rintro g ⟨v, h1, h2, h3⟩
      exact (g v h1 h2).2 h3
    · intro g v h1 h2
      exact ⟨e x hx v h1 h2, fun hv => g ⟨v, h1, h2, hv⟩⟩
  unfold onT
  simp only
  clear h k
  induction r with
  | nil => simp [wIds, sumR]
  | cons x r ih =>
    have := ih fun y hy => hn y (by simp [hy])
    have b1 := a1 _ (hn x (by simp))
    have b2 := a2 _ (hn x (by simp))
    simp only [wIds, sumR, b1, b2]
    cases allT T x.1 <;> cases someT T x.1 <;> simp <;> omega
/-- On the tiles of a run it is what is between its ends. -/
theorem on_run {l : Nat} {a b : Int} (hab : a ≤ b) {T : List Int} {r : List Nd} (h : Tiles l (fun v => a ≤ v ∧ v ≤ b) T) (hn : ∀ x ∈ r, isNode l x.1 = true) : onT T r = (betwLow l r a b, betwHigh l r a b) := by
  unfold onT betwLow betwHigh
  rw [weighR_ids, weighR_ids]
  refine Prod.ext (wIds_congr fun x hx => ?_) (wIds_congr fun x hx => ?_)
  · have hw := lo_hi (hn x hx)
    rw [Bool.eq_iff_iff, (tiles_all h (hn x hx)).1]
    simp only [inLow, Bool.and_eq_true, decide_eq_true_eq]
    constructor
    · intro g
      exact ⟨(g _ (Int.le_refl _) hw).1, (g _ hw (Int.le_refl _)).2⟩
    · rintro ⟨g1, g2⟩ v h1 h2
      unfold loN at h1; unfold hiN at h2
      omega
  · have hw := lo_hi (hn x hx)
    rw [Bool.eq_iff_iff, (tiles_all h (hn x hx)).2]
    simp only [inHigh, Bool.and_eq_true, decide_eq_true_eq]
    constructor
    · rintro ⟨v, h1, h2, h3, h4⟩
      unfold loN at h1; unfold hiN at h2
      omega
    · rintro ⟨g1, g2⟩
      unfold loN hiN at *
      by_cases hc : a ≤ (endsOf l x.1).1
      · exact ⟨_, Int.le_refl _, hw, hc, g1⟩
      · exact ⟨a, by omega, by omega, Int.le_refl _, by omega⟩
theorem Tiles.congr {l : Nat} {C D : Int → Prop} {T : List Int} (h : Tiles l C T) (e : ∀ v, C v ↔ D v) : Tiles l D T := ⟨h.node, fun v => (h.cov v).trans (e v), fun x hx hv => h.top x hx fun v h1 h2 => (e v).2 (hv v h1 h2)⟩
theorem Tiles.perm {l : Nat} {C : Int → Prop} {T U : List Int} (h : Tiles l C T) (e : ∀ t, t ∈ T ↔ t ∈ U) : Tiles l C U := by
  refine ⟨fun t ht => h.node t ((e t).2 ht), fun v => ?_, fun x hx hv => ?_⟩
  · rw [← h.cov]
    exact ⟨fun ⟨t, ht, g⟩ => ⟨t, (e t).2 ht, g⟩, fun ⟨t, ht, g⟩ => ⟨t, (e t).1 ht, g⟩⟩
  · obtain ⟨t, ht, g⟩ := h.top x hx hv
    exact ⟨t, (e t).1 ht, g⟩
end Go.Proofs.YtcjnchjmpkapmaaGreat
/- What is told of what came: how far it may be off. No program in sight. -/
namespace Go.Proofs.YtcjnchjmpkapmaaGreat
open Go.ChangeShapes Go.WideShapes Go.ChangeAt Go.RowKit
set_option linter.unusedVariables false

theorem light_inner {l : Nat} {r : List Nd} (hr : Roll r) {k : Int} (hl : lightOf l r k = true) (h0 : 0 ≤ sumR r / k) {id : Int} (h1 : 1 ≤ l ∧ l ≤ 48) (h2 : 1 ≤ id) (h3 : id < 2 ^ l) : getR r id ≤ sumR r / k := by
  by_cases hg : getR r id = 0
  · omega
  · have hm := getR_pos hr hg
    have hn : isNode l id = true := by
      have := pow_pos' l
      simp only [isNode, decide_eq_true_eq, Int.toNat_natCast]; omega
    have hk : (kidsOf l id).2.2 = true := by
      unfold kidsOf
      rw [if_pos ⟨hn, by simpa using h3⟩]
    apply Classical.byContradiction
    intro hc
    have : r.any (heavy l (sumR r / k)) = true := List.any_eq_true.2 ⟨_, hm, by simp only [heavy, hk, Bool.true_and, decide_eq_true_eq]; omega⟩
    simp only [lightOf, this] at hl
    cases hl
theorem path_node {l : Nat} {y a : Int} (h0 : 0 ≤ y) (h1 : y < 2 ^ l) (ha : a ∈ pathOf l y) : 1 ≤ a ∧ a < 2 ^ l := by
  obtain ⟨d, hd, rfl⟩ := List.mem_map.1 ha
  have hd := List.mem_range.1 hd
  have hpb := pow_pos' (l - d)
  have hpd := pow_pos' d
  have e2 : (2 : Int) ^ l = 2 ^ d * 2 ^ (l - d) := by rw [← Int.pow_add]; congr 1; omega
  constructor
  · rw [Int.le_ediv_iff_mul_le hpb, Int.one_mul]
    have := pow_le' (show l - d ≤ l by omega)
    omega
  · rw [Int.ediv_lt_iff_lt_mul hpb]
    have h2 : (2 : Int) ≤ 2 ^ (l - d) := by have := pow_le' (show 1 ≤ l - d by omega); simpa using this
    have h3 := Int.mul_le_mul_of_nonneg_left h2 (Int.le_of_lt (pow_pos' l))
    omega
/-- Those nodes that hold a value, and not it alone. -/
def around (y : Int) (lo hi : Int) : Bool := decide (lo ≤ y) && decide (y < hi)
theorem around_le {l : Nat} {r : List Nd} (hr : Roll r) (hn : ∀ x ∈ r, isNode l x.1 = true) {k : Int} (hl : lightOf l r k = true) (h0 : 0 ≤ sumR r / k) (h1 : 1 ≤ l ∧ l ≤ 48) (y : Int) : weighR l (around y) r ≤ l * (sumR r / k) := by
  have hm : 0 ≤ (l : Int) * (sumR r / k) := Int.mul_nonneg (by omega) h0
  by_cases hy : 0 ≤ y ∧ y < 2 ^ l
  · rw [weighR_ids]
    have := wIds_path hr (fun id => around y (endsOf l id).1 (endsOf l id).2.1) (sumR r / k) (pathOf l y) (fun x hx hp => by
      simp only [around, Bool.and_eq_true, decide_eq_true_eq] at hp
      exact on_path (hn x hx) hp.1 hp.2) (fun a ha => by
      have := path_node hy.1 hy.2 ha
      exact light_inner hr hl h0 h1 this.1 this.2) h0
    rwa [pathOf_len] at this
  · rw [weighR_none]
    · exact hm
    · intro x hx
      have := ends_bounds (hn x hx)
      simp only [around, Bool.and_eq_false_iff, decide_eq_false_iff_not]
      omega
theorem high_low {l : Nat} {r : List Nd} (hn : ∀ x ∈ r, isNode l x.1 = true) (y : Int) : highOf l r y - lowOf l r y = weighR l (around y) r := by
  unfold highOf lowOf
  induction r with
  | nil => rfl
  | cons x r ih =>
    have h1 := ih fun z hz => hn z (by simp [hz])
    have h2 := ends_bounds (hn x (by simp))
    simp only [weighR]
    by_cases a1 : (endsOf l x.1).1 ≤ y
    · by_cases a2 : (endsOf l x.1).2.1 ≤ y
      · have : around y (endsOf l x.1).1 (endsOf l x.1).2.1 = false := by simp only [around, Bool.and_eq_false_iff, decide_eq_false_iff_not]; omega
        simp only [this, a1, a2, decide_true, if_true, Bool.false_eq_true, if_false]; omega
      · have : around y (endsOf l x.1).1 (endsOf l x.1).2.1 = true := by simp only [around, Bool.and_eq_true, decide_eq_true_eq]; omega
        simp only [this, a1, a2, decide_true, decide_false, if_true, Bool.false_eq_true, if_false]; omega
    · have a2 : ¬ (endsOf l x.1).2.1 ≤ y := by omega
      have : around y (endsOf l x.1).1 (endsOf l x.1).2.1 = false := by simp only [around, Bool.and_eq_false_iff, decide_eq_false_iff_not]; omega
      simp only [this, a1, a2, decide_false, Bool.false_eq_true, if_false]; omega
/-- The rank of a number among all that was accepted. -/
def rankQ (l : Int) (q : List Nd) (y : Int) : Int := lowOf l q y
theorem rank_holds {l : Nat} {r q : List Nd} (h : Flow l r q) (hr : Roll r) (hq : Roll q) (y : Int) : lowOf l r y ≤ rankQ l q y ∧ rankQ l q y ≤ highOf l r y := by
  refine ⟨h.le hr hq (f := fun _ hi => decide (hi ≤ y)) (g := fun _ hi => decide (hi ≤ y)) ?_, h.ge hr hq (g := fun _ hi => decide (hi ≤ y)) (f := fun lo _ => decide (lo ≤ y)) ?_⟩
  · intro lo hi a b h1 h2 h3; simp only [decide_eq_true_eq] at *; omega
  · intro lo hi a b h1 h2 h3 h4; simp only [decide_eq_true_eq] at *; omega
end Go.Proofs.YtcjnchjmpkapmaaGreat
