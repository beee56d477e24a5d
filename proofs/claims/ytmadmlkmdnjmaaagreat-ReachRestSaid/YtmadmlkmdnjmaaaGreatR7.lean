/-
  Texts of this proof, one behind the other: TilesSort, TilesJoin, TilesRest, ReachOn, ReachOn2, Ref18On, Ref18OnY, Alive18, OpenInts, ReachOnW.
-/
import Derived.Test.YtmadmlkmdnjmaaaGreatLaid
import Derived.Test.YtmadmlkmdnjmaaaGreatP3
import Derived.Test.YtmadmlkmdnjmaaaGreatR4
import Derived.Test.YtmadmlkmdnjmaaaGreatR6
/- Package tiles: slices.SortFunc under Join's comparator. -/
set_option linter.unusedSimpArgs false namespace Go.Proofs.YtmadmlkmdnjmaaaGreat
open Go.ChangeShapes Go.WideShapes Go.ChangeAt Go.RowKit
set_option linter.unusedVariables false
set_option linter.unusedSimpArgs false
set_option maxRecDepth 100000

abbrev NodeI (l : Nat) := { x : Int // isNode l x = true }
def encI {l : Nat} (x : NodeI l) : Value := .int .i64 x.1
theorem cmpT_sub (l : Nat) (a b : Int) : cmpT l a b < 0 ↔ loN l a < loN l b ∨ (loN l a = loN l b ∧ a < b) := by
  unfold cmpT; split <;> omega
theorem swo_T (l : Nat) : Go.Sort.SWO (Go.Proofs.ltOf fun x y : NodeI l => cmpT l x.1 y.1) where
  irrefl x := by simp only [Go.Proofs.ltOf, decide_eq_false_iff_not, cmpT_sub]; omega
  trans x y z h1 h2 := by simp only [Go.Proofs.ltOf, decide_eq_true_eq, cmpT_sub] at *; omega
  ntrans x y z h1 h2 := by simp only [Go.Proofs.ltOf, decide_eq_false_iff_not, cmpT_sub] at *; omega
theorem leT_of {l : Nat} {a b : Int} (h : ¬ cmpT l b a < 0) : leT l a b := by
  rw [cmpT_sub] at h; unfold leT; omega
theorem enters_cmpT : ∀ args W, (callFunc 143 args).run Tryz.prog W = .ok (.enter 143 args) W := enters_of Tryz.func143 (by kernel_rfl) rfl
theorem putRow_I {l : Nat} [Inhabited (NodeI l)] (w : World) (b off : Nat) (d : Array (NodeI l)) : Go.Sort.putRow encI w b off d = Go.Sort.putRow (Value.int .i64) w b off (d.map (·.1)) := by
  have e : ∀ cs : Array Value, Go.Sort.putCells encI off d cs = Go.Sort.putCells (Value.int .i64) off (d.map (·.1)) cs := by
    intro cs
    unfold Go.Sort.putCells
    apply Array.ext
    · simp
    · intro i h1 h2
      simp only [Array.getElem_mapIdx, Array.size_map]
      split
      · rename_i hc
        have hk : i - off < d.size := by omega
        rw [getElem!_pos d _ hk, getElem!_pos (d.map (·.1)) _ (by simpa using hk)]
        simp [encI]
      · rfl
  unfold Go.Sort.putRow
  rw [show Go.Sort.putCells encI off d = Go.Sort.putCells (Value.int .i64) off (d.map (·.1)) from funext e]
theorem tiles_sort (w : World) (base l p : Nat) (v : Value) (ids : List Int) (hl : 1 ≤ l ∧ l ≤ 48) (hn : ∀ x ∈ ids, isNode l x = true) (ho : Own w base 3 encZ v ids) (hp : w.cell? ⟨p, 0, none⟩ = some (.int .i64 l)) (hpb : p < base) (hbw : base ≤ w.heap.size) (hm : ids.length ≤ 67108864) :
    Calls Tryz.prog 142 #[v, .func (.func 143) #[] #[.pointer (some ⟨p, 0, none⟩)]] w fun e w' => e = .returned (.tuple #[]) ∧ ∃ s, s.Perm ids ∧ s.Pairwise (leT l) ∧ Own w' base 3 encZ v s ∧ Turn (fun b => v.ownBlock = some b) w w' := by
  obtain ⟨lq, rfl⟩ : ∃ lq : List (NodeI l), ids = lq.map (·.1) := ⟨ids.pmap (fun x h => ⟨x, h⟩) hn, by rw [List.map_pmap]; simp⟩
  haveI : Inhabited (NodeI l) := ⟨⟨1, (isNode_root hl).1⟩⟩
  have ho' := ho
  rcases ho' with ⟨rfl, h0⟩ | ⟨b, off, cap, cur, rfl, hb, hh, h1, h2, h3, hc⟩
  · refine (Go.Proofs.AnyF.slices_SortFunc_none (P := Tryz.prog) (ρ := _) { Tryz.sortInt with } none 0 _ w).mono ?_
    rintro e' w' ⟨rfl, rfl⟩
    exact ⟨rfl, [], by rw [h0], .nil, by rw [h0] at ho; exact ho, Turn.refl _ _⟩
  · have hH : Go.Sort.Holds encI w b off lq.toArray := by
      intro j hj
      have hj : j < lq.length := by simpa using hj
      have := ho.holdsZ j (by simpa using hj)
      have e1 : (lq.map (·.1)).toArray[j]! = lq[j].1 := by rw [getElem!_pos _ _ (by simpa using hj)]; simp
      have e2 : lq.toArray[j]! = lq[j] := by rw [getElem!_pos _ _ (by simpa using hj)]; simp
      rw [e1] at this
      rw [e2]
      exact this
    have put : ∀ (m : Nat) (os : Array Obj) (dk : Array (NodeI l)), dk.size = lq.length → Own (Go.Proofs.sortWorld encI w b off m dk os) base 3 encZ (.slice (some ⟨b, off, none⟩) (lq.map (·.1)).length cap) (dk.toList.map (·.1)) ∧ Turn (fun c => c = b) w (Go.Proofs.sortWorld encI w b off m dk os) := by
      intro m os dk hd
      have hl' : (dk.toList.map (·.1)).length = (lq.map (·.1)).length := by simp [hd]
      have := ho.putZ (dk.toList.map (·.1)) (dk.toList.map (·.1)) hl' [] (by simp) m os
      rw [hl'] at this
      have e : (dk.toList.map (·.1)).toArray = dk.map (·.1) := by rw [← Array.toList_map, Array.toArray_toList]
      rw [e, ← putRow_I] at this
      exact ⟨this.1, this.2.1⟩
    have hC : Go.Proofs.CmpLays1 Tryz.prog 143 #[.pointer (some ⟨p, 0, none⟩)] encI (fun x y : NodeI l => cmpT l x.1 y.1) b off lq.toArray.size w := by
      intro m os dk hs x y
      have hT := (put m os dk (by simpa using hs)).2
      have hcp := (hT.cell (b := p) (o := 0) (by omega) (by omega)).trans hp
      refine (tiles_cmp _ l x.1 y.1 p x.2 y.2 hcp).mono ?_
      rintro e W ⟨rfl, ⟨⟨q, os'⟩, rfl⟩⟩
      exact ⟨rfl, q, os', rfl⟩
    have := Go.Proofs.Any.slices_SortFunc Tryz.sortInt (encI (l := l)) (fun _ => rfl) (fun x y : NodeI l => cmpT l x.1 y.1) (swo_T l) 143 #[.pointer (some ⟨p, 0, none⟩)] b off cap lq.toArray w enters_cmpT hC hH (lt_of_block hh) (by simp at hm ⊢; omega)
    rw [show lq.toArray.size = (lq.map (·.1)).length by simp] at this
    refine Calls.mono this ?_
    rintro e' w' ⟨rfl, d', n, os, hp', hs', rfl⟩
    have hsz : d'.size = lq.length := by have := hp'.1; simpa using this
    obtain ⟨o1, o2⟩ := put n os d' hsz
    refine ⟨rfl, d'.toList.map (·.1), ?_, ?_, o1, o2.mono fun c _ h => by subst h; rfl⟩
    · have := perm_of_in (d := lq.toArray) (d' := d') (by simpa using hp')
      exact (by simpa using this : d'.toList.Perm lq).map _
    · rw [List.pairwise_map]
      have := pairwise_of_in (d := d') (n := (lq.map (·.1)).length) (by simp [hsz]) hs'
      exact this.imp fun {a b} h => by
        simp only [Go.Proofs.ltOf, decide_eq_false_iff_not] at h
        exact leT_of h
end Go.Proofs.YtmadmlkmdnjmaaaGreat
/- Package tiles: Join. -/
namespace Go.Proofs.YtmadmlkmdnjmaaaGreat
open Go.ChangeShapes Go.WideShapes Go.ChangeAt Go.RowKit
set_option linter.unusedVariables false
set_option linter.unusedSimpArgs false
set_option maxRecDepth 100000

theorem joinF_snoc {s : List Int} {k : Nat} (h : k < s.length) : joinF (s.take (k + 1)) = joinStep (joinF (s.take k)) s[k] := by
  unfold joinF
  rw [List.take_succ_eq_append_getElem h, List.foldl_append]; rfl
theorem climb_len : ∀ (T : List Int) (x : Int), (climb T x).1.length ≤ T.length := by
  intro T
  induction T with
  | nil => intro x; simp [climb]
  | cons t T ih => intro x; simp only [climb]; split
                   · have := ih (x / 2); simp only [List.length_cons]; omega
                   · simp
theorem joinStep_len (T : List Int) (x : Int) : (joinStep T x).length ≤ T.length + 1 := by
  unfold joinStep
  cases T with
  | nil => simp
  | cons t T =>
    simp only
    split
    · simp
    · have := climb_len (t :: T) x
      simp only [List.length_cons] at this ⊢; omega
theorem joinF_len (s : List Int) : (joinF s).length ≤ s.length := by
  suffices h : ∀ k, k ≤ s.length → (joinF (s.take k)).length ≤ k by
    have := h s.length (Nat.le_refl _)
    rwa [List.take_length] at this
  intro k
  induction k with
  | zero => intro _; simp [joinF]
  | succ k ih =>
    intro hk
    rw [joinF_snoc (by omega)]
    have := joinStep_len (joinF (s.take k)) s[k]
    have := ih (by omega)
    omega
/-- The pair climbs on: what is left to be seen. -/
structure ClimbSt (l : Nat) (T0 : List Int) (x : Int) (T : List Int) (j : Int) : Prop where
  same : climb T j = climb T0 x
  node : isNode l j = true
  nodes : ∀ t ∈ T, isNode l t = true
  sep : T.Pairwise (fun a b => hiN l b < loN l a)
  left : ∀ t ∈ T, hiN l t < loN l j
  len : T.length ≤ T0.length
theorem ClimbSt.up {l : Nat} {T0 T : List Int} {x t j : Int} (h : ClimbSt l T0 x (t :: T) j) (hs : sibN t = j) : ClimbSt l T0 x T (j / 2) := by
  have hlt := h.left t (by simp)
  obtain ⟨n1, _, _, n2, _, _⟩ := sib_pair (h.nodes t (by simp)) h.node hs hlt
  refine ⟨?_, n1, fun u hu => h.nodes u (by simp [hu]), (List.pairwise_cons.1 h.sep).2, fun u hu => ?_, by have := h.len; simp only [List.length_cons] at this; omega⟩
  · rw [← h.same]; simp only [climb, if_pos hs]
  · rw [n2]; exact (List.pairwise_cons.1 h.sep).1 u hu
theorem ClimbSt.stop {l : Nat} {T0 T : List Int} {x j : Int} (h : ClimbSt l T0 x T j) (hs : ∀ t ts, T = t :: ts → sibN t ≠ j) : climb T0 x = (T, j) := by
  rw [← h.same]
  cases T with
  | nil => rfl
  | cons t T => simp only [climb, if_neg (hs t T rfl)]
theorem joinStep_not {T : List Int} {x : Int} (h : ∀ t ts, T = t :: ts → abv t x = false) : (joinStep T x).reverse = (climb T x).1.reverse ++ [(climb T x).2] := by
  cases T with
  | nil => rfl
  | cons t T => simp only [joinStep, h t T rfl, Bool.false_eq_true, if_false, List.reverse_cons]
theorem join_right {l : Nat} {pre T : List Int} {x : Int} (h : JInv l pre T) (hp : ∀ q ∈ pre, isNode l q = true) (hx : isNode l x = true) (hs : ∀ q ∈ pre, leT l q x) (hh : ∀ t ts, T = t :: ts → abv t x = false) : ∀ t ∈ T, hiN l t < loN l x := by
  have hc : ¬ ∃ t ∈ T, abv t x = true := by
    rintro ⟨t, ht, ha⟩
    cases T with
    | nil => simp at ht
    | cons u us =>
      have hu : abv u x = true := by
        rcases List.mem_cons.1 ht with rfl | ht'
        · exact ha
        · exfalso
          have h1 := (List.pairwise_cons.1 h.sep).1 t ht'
          obtain ⟨q, hq, e⟩ := h.low u (by simp)
          have h2 := (abv_iff (h.node t (by simp [ht'])) hx).1 ha
          have h3 := lo_hi hx
          rcases hs q hq with h4 | h4 <;> omega
      rw [hh u us rfl] at hu; cases hu
  intro t ht
  apply Classical.byContradiction
  intro hn
  obtain ⟨q, hq, e⟩ := h.low t ht
  have hqx : loN l q ≤ loN l x := by rcases hs q hq with h4 | h4 <;> omega
  have hlx := lo_hi hx
  rcases lam (h.node t ht) hx (by omega) (by omega) with h1 | h1
  · exact hc ⟨t, ht, h1⟩
  · have h2 := (abv_iff hx (h.node t ht)).1 h1
    have h3 : loN l q = loN l x := by omega
    have h4 : abv q x = true := lo_same (hp q hq) hx h3 (by rcases hs q hq with h4 | h4 <;> omega)
    obtain ⟨u, hu, h5⟩ := h.cov q hq
    exact hc ⟨u, hu, abv_trans (h.node u hu) (hp q hq) hx h5 h4⟩
set_option maxHeartbeats 2000000 in
theorem tiles_Join (w : World) (l : Nat) (hl : 1 ≤ l ∧ l ≤ 48) (A : Option Addr) (cap : Nat) (ids : List Int) (hS : Sl w w.heap.size encZ A ids) (hm : ids.length ≤ 67108864) (hn : ∀ x ∈ ids, isNode l x = true) :
    Calls Tryz.prog 74 #[.int .i64 l, .slice A ids.length cap] w fun e w' => ∃ v T, e = .returned (.tuple #[v, .bool true]) ∧ Own w' w.heap.size 3 encZ v T ∧ Tiles l (held l ids) T ∧ T.Pairwise (fun a b => hiN l a < loN l b) ∧ T.length ≤ ids.length ∧ Below w.heap.size w w' := by
  have HS := Lib.hid hS
  have HN := Lib.hid hn
  have hall : ids.all (isNode l) = true := List.all_eq_true.2 hn
  have HA := Lib.hid (fun (W : World) (h : Sl W W.heap.size encZ A ids) => tilesAll W l hl A cap ids h hm)
  rw [hall] at HA
  have HC := Lib.hid (fun (W : World) (h : Sl W W.heap.size encZ A ids) => clone_Z W A cap ids h hm)
  have HT := Lib.hid (fun (W : World) base p v (ho : Own W base 3 encZ v ids) h1 h2 h3 => tiles_sort W base l p v ids hl hn ho h1 h2 h3 hm)
  have K0 := Lib.hid (show (w.alloc (.cells #[.int .i64 l] 3)).heap[w.heap.size]? = some (.cells #[.int .i64 l] 3 (0, 0)) from heap_alloc_new w _)
  have BW : Hid (Below w.heap.size w (w.alloc (.cells #[.int .i64 l] 3))) := Lib.hid (by repeat (first | with_reducible exact Below.refl _ _ | with_reducible assumption | ((with_reducible refine Below.setCell ?_ ?_ _); rotate_left; · (first | omega | exact Nat.le_refl _ | (simp <;> omega))) | (with_reducible refine Below.allocW ?_ _) | (with_reducible refine Below.drew ?_) | (with_reducible refine Below.extW ?_ _)))
  clear hS hn hall
  go_enter Tryz.func74, Tryz.ntmps74
  go_upto_region 1 with fail
  generalize w.alloc (.cells #[.int .i64 l] 3) = W0 at K0 BW ⊢
  have c0 := blk_cell K0.out
  have z0 := lt_of_block K0.out
  have S0 := Lib.hid (HS.out.keep (B' := W0.heap.size) BW.out.size fun p hp => BW.out.cell hp)
  go_wp2_with fail
  refine (HA.out _ S0.out).mono ?_
  rintro e w1 ⟨rfl, hb1⟩
  have K1 := Lib.hid (blk_below K0.out hb1)
  have S1 := Lib.hid (S0.out.keep (B' := w1.heap.size) hb1.size fun p hp => hb1.cell hp)
  have B1 := Lib.hid (BW.out.trans (hb1.mono BW.out.size))
  clear hb1 c0 z0 K0 BW S0
  go_wp2_with fail
  refine (HC.out _ S1.out).mono ?_
  rintro e w2 ⟨v, rfl, ho, hb2⟩
  have K2 := Lib.hid (blk_below K1.out hb2)
  have B2 := Lib.hid (B1.out.trans (hb2.mono B1.out.size))
  have O2 := Lib.hid ho
  have hz1 := lt_of_block K1.out
  have hz2 := hb2.size
  obtain ⟨A2, cap2, rfl, _⟩ := ho.form
  clear ho hb2
  go_wp2_with fail
  refine (HT.out _ _ w.heap.size _ O2.out (blk_cell K2.out 0) hz1 hz2).mono ?_
  rintro e w3 ⟨rfl, s, hp, hs, ho3, hT3⟩
  have B3 := Lib.hid (B2.out.trans (hT3.below (base := w.heap.size) (fun b hb => by have := (O2.out.lt b hb).1; have := B1.out.size; omega) B2.out.size))
  have hsl : s.length = ids.length := hp.length_eq
  rw [← hsl] at ho3
  have S3 := Lib.hid ho3.sl
  have HP := Lib.hid hp
  have HSo := Lib.hid hs
  have HSN := Lib.hid (fun x (hx : x ∈ s) => HN.out x (hp.mem_iff.1 hx))
  have hsm : s.length ≤ 67108864 := by omega
  rw [← hsl]
  have HL := Lib.hid hsl
  clear hp hs ho3 hT3 hsl O2 B2 K2 K1 hz1 hz2 B1 S1 HC HT HA
  go_wp2_with fail
  go_loopw [7, 23] (fun vt i wr => ∃ (k : Nat), k ≤ s.length ∧ i = .int .i64 k ∧ Own wr w3.heap.size 3 encZ vt (joinF (s.take k)).reverse ∧ Below w3.heap.size w3 wr) (fun _ i _ => s.length - (intOf i).toNat)
  case atStart => exact ⟨0, Nat.zero_le _, rfl, .inl ⟨rfl, rfl⟩, Below.refl _ _⟩
  case round =>
    obtain ⟨k, hk, rfl, hown, hB⟩ := hrel
    have KB := Lib.hid hB
    have hszB := hB.size
    obtain ⟨At, ct, rfl, hct1, hct2, _⟩ := hown.form
    rw [List.length_reverse] at hown hct1 ⊢
    have KO := Lib.hid hown
    clear hown hB
    by_cases hlt : k < s.length
    · obtain ⟨g, off, rfl, hg, hcl⟩ := S3.out.at_ hlt
      have ds0 := hcl 0 (.int .i64 s[k]) rfl
      simp only [Nat.mul_one, Nat.add_zero] at ds0
      have ds := (KB.out.cell (p := ⟨g, off + k, none⟩) hg).trans ds0
      have lg : g < wr.heap.size := Nat.lt_of_lt_of_le hg hszB
      have hxn := HSN.out _ (List.getElem_mem hlt)
      have J := Lib.hid (joinF_inv (s := s.take k) (fun x hx => HSN.out x (List.mem_of_mem_take hx)) (HSo.out.sublist (List.take_sublist k s)))
      have hle : ∀ q ∈ s.take k, leT l q s[k] := by
        intro q hq
        obtain ⟨i, hi, rfl⟩ := List.getElem_of_mem hq
        rw [List.getElem_take]
        simp only [List.length_take] at hi
        exact List.pairwise_iff_getElem.1 HSo.out i k (by omega) hlt (by omega)
      have HX := Lib.hid (And.intro hxn (fun hno => join_right J.out (fun x hx => HSN.out x (List.mem_of_mem_take hx)) hxn hle hno))
      have EJ := Lib.hid (joinF_snoc hlt)
      have hT0 : (joinF (s.take k)).length ≤ 67108864 := by have := joinF_len (s.take k); simp only [List.length_take] at this; omega
      have nx := node_max hxn
      have nx2 := nx.2.1
      generalize joinF (s.take k) = T0 at KO J HX EJ hT0 hct1 ⊢
      generalize s[k] = x at ds HX EJ nx nx2
      clear hcl ds0 hxn hle nx
      by_cases htop : ∃ t ts, T0 = t :: ts ∧ abv t x = true
      · obtain ⟨t, ts, rfl, hab⟩ := htop
        have hin : ts.length < (t :: ts).reverse.length := by simp
        obtain ⟨g2, off2, rfl, hg2, hcl2⟩ := KO.out.sl.at_ hin
        have dt := hcl2 0 (.int .i64 t) (by simp [encZ])
        simp only [Nat.mul_one, Nat.add_zero] at dt
        have nt := node_max (J.out.node t (by simp))
        have nt2 := nt.2.1
        have E1 := Lib.hid (show joinF (s.take (k + 1)) = t :: ts by rw [EJ.out]; simp only [joinStep, hab, if_true])
        have HAb := Lib.hid (fun W => twig_Above W t x (by omega) (by omega))
        rw [hab] at HAb
        simp only [List.length_cons] at hT0 hct1 KO ⊢
        clear hcl2 nt hin EJ
        go_wp2_with fail
        refine (HAb.out _).mono ?_
        rintro e w5 ⟨rfl, hb5⟩
        have O5 := Lib.hid (KO.out.below hb5)
        have B5 := Lib.hid (KB.out.trans (hb5.mono KB.out.size))
        clear hb5
        go_wp2_with fail
        go_roundw
        case rel => exact ⟨k + 1, by omega, by go_num, by rw [E1.out]; exact O5.out, B5.out⟩
        case measure => simp [intOf]; omega
      · have hno := Lib.hid (show ∀ t ts, T0 = t :: ts → abv t x = false from fun t ts h => by
          rw [← Bool.not_eq_true]; exact fun h' => htop ⟨t, ts, h, h'⟩)
        clear htop
        rcases T0 with _ | ⟨t, ts⟩
        · have KB5 := KB
          have K5 := KO
          go_wp2_with fail
          clear KO KB
          obtain ⟨w5, h5⟩ : ∃ W, W = wr := ⟨_, rfl⟩
          subst h5
          go_loopw [7, 9, 11] (fun vt jv n wx => ∃ (T2 : List Int) (j : Int), jv = .int .i64 j ∧ n = .int .i64 T2.length ∧ ClimbSt l ([] : List Int) x T2 j ∧ Own wx w3.heap.size 3 encZ vt T2.reverse ∧ Below w3.heap.size w3 wx) (fun _ _ n _ => (intOf n).toNat)
          case atStart => exact ⟨_, x, rfl, by simp, ⟨rfl, HX.out.1, J.out.node, J.out.sep, HX.out.2 hno.out, Nat.le_refl _⟩, K5.out, KB5.out⟩
          case round =>
            obtain ⟨T2, j, rfl, rfl, hC, hO2, hB2⟩ := hrel
            have C2 := Lib.hid hC
            have B2 := Lib.hid hB2
            have hT2 : T2.length ≤ 67108864 := by have := hC.len; simp only [List.length_cons, List.length_nil] at this hT0; omega
            obtain ⟨A3, c3, rfl, hc3, hc4, _⟩ := hO2.form
            rw [List.length_reverse] at hO2 hc3 ⊢
            have O2 := Lib.hid hO2
            have nj := node_max hC.node
            have nj1 := nj.1
            have nj2 := nj.2.1
            clear hC hO2 hB2 nj
            rcases T2 with _ | ⟨t, ts⟩
            · have hst := Lib.hid (show ∀ u us, ([] : List Int) = u :: us → sibN u ≠ j by intro u us h; cases h)
              go_wp2_with ((at_builtin; refine wpList_push tyZ rfl _ _ rfl encZ wr w3.heap.size _ ([] : List Int).reverse rfl O2.out j (by go_simp) rfl ?c1 ?c2 ?c3 ?c4))
              case c1 => simp only [List.length_reverse, List.length_cons, List.length_nil]; omega
              case c2 => simp only [maxLen, List.length_reverse, List.length_cons, List.length_nil]; omega
              case c3 => exact B2.out.size
              case c4 =>
                intro v' w' ho' hg' hs' _ hb' _
                have hB' := Lib.hid (B2.out.trans hb')
                have hO' := Lib.hid (show Own w' w3.heap.size 3 encZ v' (joinF (s.take (k + 1))).reverse by rw [EJ.out, joinStep_not hno.out, C2.out.stop hst.out]; simpa using ho')
                clear ho' hg' hb'
                go_wp2_with fail
                go_roundw
                case rel => exact ⟨k + 1, by omega, by go_num, hO'.out, hB'.out⟩
                case measure => simp [intOf]; omega
            · have hin : ts.length < (t :: ts).reverse.length := by simp
              obtain ⟨g2, off2, rfl, hg2, hcl2⟩ := O2.out.sl.at_ hin
              have dt := hcl2 0 (.int .i64 t) (by simp [encZ])
              simp only [Nat.mul_one, Nat.add_zero] at dt
              have nt := node_max (C2.out.nodes t (by simp))
              have hxor := xor_one (t := t) (by omega) (by omega)
              simp only [List.length_cons] at hT2 hc3 O2 ⊢
              clear hcl2 nt hin
              by_cases hs2 : sibN t = j
              · have C3 := Lib.hid (C2.out.up hs2)
                have hO3 := O2.out.cut (lo := 0) (hi := ts.length) (mx := ts.length) (Nat.zero_le _) (by simp) (Nat.le_refl _) (by omega)
                have ex : ((t :: ts).reverse.take ts.length).drop 0 = ts.reverse := by simp
                have eA : (if ts.length = 0 then (some ⟨g2, off2, none⟩ : Option Addr) else Option.map (fun x : Addr => x.add (0 * 1)) (some ⟨g2, off2, none⟩)) = some ⟨g2, off2, none⟩ := by
                  split
                  · rfl
                  · simp [add_plain]
                rw [ex, eA, Nat.sub_zero] at hO3
                have O3 := Lib.hid hO3
                clear hO3 ex eA
                go_wp2_with fail
                go_roundw
                case rel => exact ⟨ts, j / 2, rfl, rfl, C3.out, O3.out, B2.out⟩
                case measure => simp [intOf]
              · have hst := Lib.hid (show ∀ u us, t :: ts = u :: us → sibN u ≠ j by rintro u us h; cases h; exact hs2)
                have hdec : (sibN t == j) = false := by simpa using hs2
                clear hs2
                go_wp2_with ((at_builtin; refine wpList_push tyZ rfl _ _ rfl encZ wr w3.heap.size _ (t :: ts).reverse rfl O2.out j (by go_simp) rfl ?c1 ?c2 ?c3 ?c4))
                case c1 => simp only [List.length_reverse, List.length_cons, List.length_nil]; omega
                case c2 => simp only [maxLen, List.length_reverse, List.length_cons, List.length_nil]; omega
                case c3 => exact B2.out.size
                case c4 =>
                  intro v' w' ho' hg' hs' _ hb' _
                  have hB' := Lib.hid (B2.out.trans hb')
                  have hO' := Lib.hid (show Own w' w3.heap.size 3 encZ v' (joinF (s.take (k + 1))).reverse by rw [EJ.out, joinStep_not hno.out, C2.out.stop hst.out]; simpa using ho')
                  clear ho' hg' hb'
                  go_wp2_with fail
                  go_roundw
                  case rel => exact ⟨k + 1, by omega, by go_num, hO'.out, hB'.out⟩
                  case measure => simp [intOf]; omega
        · have hin : ts.length < (t :: ts).reverse.length := by simp
          obtain ⟨g2, off2, rfl, hg2, hcl2⟩ := KO.out.sl.at_ hin
          have dt := hcl2 0 (.int .i64 t) (by simp [encZ])
          simp only [Nat.mul_one, Nat.add_zero] at dt
          have nt := node_max (J.out.node t (by simp))
          have nt2 := nt.2.1
          have HAb := Lib.hid (fun W => twig_Above W t x (by omega) (by omega))
          rw [hno.out t ts rfl] at HAb
          simp only [List.length_cons] at hT0 hct1 KO ⊢
          clear hcl2 nt hin
          go_wp2_with fail
          refine (HAb.out _).mono ?_
          rintro e w6 ⟨rfl, hb6⟩
          have K5 := Lib.hid (KO.out.below hb6)
          have KB5 := Lib.hid (KB.out.trans (hb6.mono KB.out.size))
          clear hb6 KO KB
          go_wp2_with fail
          go_loopw [7, 9, 11] (fun vt jv n wx => ∃ (T2 : List Int) (j : Int), jv = .int .i64 j ∧ n = .int .i64 T2.length ∧ ClimbSt l (t :: ts) x T2 j ∧ Own wx w3.heap.size 3 encZ vt T2.reverse ∧ Below w3.heap.size w3 wx) (fun _ _ n _ => (intOf n).toNat)
          case atStart => exact ⟨_, x, rfl, by simp, ⟨rfl, HX.out.1, J.out.node, J.out.sep, HX.out.2 hno.out, Nat.le_refl _⟩, K5.out, KB5.out⟩
          case round =>
            obtain ⟨T2, j, rfl, rfl, hC, hO2, hB2⟩ := hrel
            have C2 := Lib.hid hC
            have B2 := Lib.hid hB2
            have hT2 : T2.length ≤ 67108864 := by have := hC.len; simp only [List.length_cons, List.length_nil] at this hT0; omega
            obtain ⟨A3, c3, rfl, hc3, hc4, _⟩ := hO2.form
            rw [List.length_reverse] at hO2 hc3 ⊢
            have O2 := Lib.hid hO2
            have nj := node_max hC.node
            have nj1 := nj.1
            have nj2 := nj.2.1
            clear hC hO2 hB2 nj
            rcases T2 with _ | ⟨t, ts⟩
            · have hst := Lib.hid (show ∀ u us, ([] : List Int) = u :: us → sibN u ≠ j by intro u us h; cases h)
              go_wp2_with ((at_builtin; refine wpList_push tyZ rfl _ _ rfl encZ wr w3.heap.size _ ([] : List Int).reverse rfl O2.out j (by go_simp) rfl ?c1 ?c2 ?c3 ?c4))
              case c1 => simp only [List.length_reverse, List.length_cons, List.length_nil]; omega
              case c2 => simp only [maxLen, List.length_reverse, List.length_cons, List.length_nil]; omega
              case c3 => exact B2.out.size
              case c4 =>
                intro v' w' ho' hg' hs' _ hb' _
                have hB' := Lib.hid (B2.out.trans hb')
                have hO' := Lib.hid (show Own w' w3.heap.size 3 encZ v' (joinF (s.take (k + 1))).reverse by rw [EJ.out, joinStep_not hno.out, C2.out.stop hst.out]; simpa using ho')
                clear ho' hg' hb'
                go_wp2_with fail
                go_roundw
                case rel => exact ⟨k + 1, by omega, by go_num, hO'.out, hB'.out⟩
                case measure => simp [intOf]; omega
            · have hin : ts.length < (t :: ts).reverse.length := by simp
              obtain ⟨g2, off2, rfl, hg2, hcl2⟩ := O2.out.sl.at_ hin
              have dt := hcl2 0 (.int .i64 t) (by simp [encZ])
              simp only [Nat.mul_one, Nat.add_zero] at dt
              have nt := node_max (C2.out.nodes t (by simp))
              have hxor := xor_one (t := t) (by omega) (by omega)
              simp only [List.length_cons] at hT2 hc3 O2 ⊢
              clear hcl2 nt hin
              by_cases hs2 : sibN t = j
              · have C3 := Lib.hid (C2.out.up hs2)
                have hO3 := O2.out.cut (lo := 0) (hi := ts.length) (mx := ts.length) (Nat.zero_le _) (by simp) (Nat.le_refl _) (by omega)
                have ex : ((t :: ts).reverse.take ts.length).drop 0 = ts.reverse := by simp
                have eA : (if ts.length = 0 then (some ⟨g2, off2, none⟩ : Option Addr) else Option.map (fun x : Addr => x.add (0 * 1)) (some ⟨g2, off2, none⟩)) = some ⟨g2, off2, none⟩ := by
                  split
                  · rfl
                  · simp [add_plain]
                rw [ex, eA, Nat.sub_zero] at hO3
                have O3 := Lib.hid hO3
                clear hO3 ex eA
                go_wp2_with fail
                go_roundw
                case rel => exact ⟨ts, j / 2, rfl, rfl, C3.out, O3.out, B2.out⟩
                case measure => simp [intOf]
              · have hst := Lib.hid (show ∀ u us, t :: ts = u :: us → sibN u ≠ j by rintro u us h; cases h; exact hs2)
                have hdec : (sibN t == j) = false := by simpa using hs2
                clear hs2
                go_wp2_with ((at_builtin; refine wpList_push tyZ rfl _ _ rfl encZ wr w3.heap.size _ (t :: ts).reverse rfl O2.out j (by go_simp) rfl ?c1 ?c2 ?c3 ?c4))
                case c1 => simp only [List.length_reverse, List.length_cons, List.length_nil]; omega
                case c2 => simp only [maxLen, List.length_reverse, List.length_cons, List.length_nil]; omega
                case c3 => exact B2.out.size
                case c4 =>
                  intro v' w' ho' hg' hs' _ hb' _
                  have hB' := Lib.hid (B2.out.trans hb')
                  have hO' := Lib.hid (show Own w' w3.heap.size 3 encZ v' (joinF (s.take (k + 1))).reverse by rw [EJ.out, joinStep_not hno.out, C2.out.stop hst.out]; simpa using ho')
                  clear ho' hg' hb'
                  go_wp2_with fail
                  go_roundw
                  case rel => exact ⟨k + 1, by omega, by go_num, hO'.out, hB'.out⟩
                  case measure => simp [intOf]; omega
    · obtain rfl : k = s.length := by omega
      rw [List.take_length] at KO ⊢
      have JF := joinF_inv (l := l) (s := s) HSN.out HSo.out
      have TI := join_tiles (l := l) (s := s) HSN.out HSo.out
      have hTl := joinF_len s
      rw [HL.out] at hTl
      go_wp2_with fail
      go_ret2
      refine ⟨.slice At (joinF s).length ct, (joinF s).reverse, rfl, ?_, ?_, ?_, ?_, ?_⟩
      · have := KO.out.base_le (b := w.heap.size) B3.out.size
        exact this
      · refine (TI.perm (U := (joinF s).reverse) fun t => by simp).congr fun v => ?_
        unfold held
        constructor
        · rintro ⟨t, ht, g⟩; exact ⟨t, HP.out.mem_iff.1 ht, g⟩
        · rintro ⟨t, ht, g⟩; exact ⟨t, HP.out.mem_iff.2 ht, g⟩
      · rw [List.pairwise_reverse]; exact JF.sep
      · rw [List.length_reverse]; exact hTl
      · exact B3.out.trans (KB.out.mono B3.out.size)
end Go.Proofs.YtmadmlkmdnjmaaaGreat
/- Package tiles: Rest. -/
namespace Go.Proofs.YtmadmlkmdnjmaaaGreat
open Go.ChangeShapes Go.WideShapes Go.ChangeAt Go.RowKit
set_option linter.unusedVariables false
set_option linter.unusedSimpArgs false
set_option maxRecDepth 100000

theorem restF_snoc {l : Nat} {T : List Int} {k : Nat} (h : k < T.length) : restF l (T.take (k + 1)) = restStep l (restF l (T.take k)) T[k] := by
  unfold restF
  rw [List.take_succ_eq_append_getElem h, List.foldl_append]; rfl
theorem restF_len {l : Nat} (hl : 1 ≤ l ∧ l ≤ 48) (T : List Int) : ∀ k, k ≤ T.length → (restF l (T.take k)).1.length ≤ 97 * k := by
  intro k
  induction k with
  | zero => intro _; simp [restF]
  | succ k ih =>
    intro hk
    rw [restF_snoc (by omega)]
    have := ih (by omega)
    unfold restStep
    simp only
    split
    · rw [List.length_append]
      have := ofTiles_len hl (restF l (T.take k)).2 (loN l T[k] - 1)
      omega
    · omega
theorem tiles_Join_no (w : World) (l : Nat) (hl : 1 ≤ l ∧ l ≤ 48) (A : Option Addr) (cap : Nat) (ids : List Int) (hS : Sl w w.heap.size encZ A ids) (hm : ids.length ≤ 67108864) (hn : ids.all (isNode l) = false) :
    Calls Tryz.prog 74 #[.int .i64 l, .slice A ids.length cap] w fun e w' => e = .returned (.tuple #[.slice none 0 0, .bool false]) ∧ Below w.heap.size w w' := by
  have HA := Lib.hid (fun (W : World) (h : Sl W W.heap.size encZ A ids) => tilesAll W l hl A cap ids h hm)
  rw [hn] at HA
  have BW : Below w.heap.size w (w.alloc (.cells #[.int .i64 l] 3)) := (by repeat (first | with_reducible exact Below.refl _ _ | with_reducible assumption | ((with_reducible refine Below.setCell ?_ ?_ _); rotate_left; · (first | omega | exact Nat.le_refl _ | (simp <;> omega))) | (with_reducible refine Below.allocW ?_ _) | (with_reducible refine Below.drew ?_) | (with_reducible refine Below.extW ?_ _)))
  have S0 := Lib.hid (hS.keep (B' := (w.alloc (.cells #[.int .i64 l] 3)).heap.size) BW.size fun p hp => BW.cell hp)
  clear hS hn BW
  go_enter Tryz.func74, Tryz.ntmps74
  go_wp2_with fail
  refine (HA.out _ S0.out).mono ?_
  rintro e w1 ⟨rfl, hb1⟩
  have B1 : Below w.heap.size w w1 := Below.then_ (by repeat (first | with_reducible exact Below.refl _ _ | with_reducible assumption | ((with_reducible refine Below.setCell ?_ ?_ _); rotate_left; · (first | omega | exact Nat.le_refl _ | (simp <;> omega))) | (with_reducible refine Below.allocW ?_ _) | (with_reducible refine Below.drew ?_) | (with_reducible refine Below.extW ?_ _))) hb1
  have s1 : w.heap.size ≤ w1.heap.size := B1.size
  go_wp2_with fail
  go_ret2
  exact ⟨rfl, (by repeat (first | with_reducible exact Below.refl _ _ | with_reducible assumption | ((with_reducible refine Below.setCell ?_ ?_ _); rotate_left; · (first | omega | exact Nat.le_refl _ | (simp <;> omega))) | (with_reducible refine Below.allocW ?_ _) | (with_reducible refine Below.drew ?_) | (with_reducible refine Below.extW ?_ _)))⟩
theorem tiles_Rest_no (w : World) (l : Nat) (hl : 1 ≤ l ∧ l ≤ 48) (A : Option Addr) (cap : Nat) (ids : List Int) (hS : Sl w w.heap.size encZ A ids) (hm : ids.length ≤ 67108864) (hn : ids.all (isNode l) = false) :
    Calls Tryz.prog 30 #[.int .i64 l, .slice A ids.length cap] w fun e w' => e = .returned (.tuple #[.slice none 0 0, .bool false]) ∧ Below w.heap.size w w' := by
  have HA := Lib.hid (fun (W : World) (h : Sl W W.heap.size encZ A ids) => tilesAll W l hl A cap ids h hm)
  rw [hn] at HA
  have HS := Lib.hid hS
  clear hS hn
  go_enter Tryz.func30, Tryz.ntmps30
  go_wp2_with fail
  refine (HA.out _ HS.out).mono ?_
  rintro e w1 ⟨rfl, hb1⟩
  have B1 : Below w.heap.size w w1 := Below.then_ (by repeat (first | with_reducible exact Below.refl _ _ | with_reducible assumption | ((with_reducible refine Below.setCell ?_ ?_ _); rotate_left; · (first | omega | exact Nat.le_refl _ | (simp <;> omega))) | (with_reducible refine Below.allocW ?_ _) | (with_reducible refine Below.drew ?_) | (with_reducible refine Below.extW ?_ _))) hb1
  have s1 : w.heap.size ≤ w1.heap.size := B1.size
  go_wp2_with fail
  go_ret2
  exact ⟨rfl, (by repeat (first | with_reducible exact Below.refl _ _ | with_reducible assumption | ((with_reducible refine Below.setCell ?_ ?_ _); rotate_left; · (first | omega | exact Nat.le_refl _ | (simp <;> omega))) | (with_reducible refine Below.allocW ?_ _) | (with_reducible refine Below.drew ?_) | (with_reducible refine Below.extW ?_ _)))⟩
set_option maxHeartbeats 2000000 in
theorem tiles_Rest (w : World) (l : Nat) (hl : 1 ≤ l ∧ l ≤ 48) (A : Option Addr) (cap : Nat) (ids : List Int) (hS : Sl w w.heap.size encZ A ids) (hm : ids.length ≤ 65536) (hn : ∀ x ∈ ids, isNode l x = true) :
    Calls Tryz.prog 30 #[.int .i64 l, .slice A ids.length cap] w fun e w' => ∃ v T, e = .returned (.tuple #[v, .bool true]) ∧ Own w' w.heap.size 3 encZ v T ∧ Tiles l (fun x => (0 ≤ x ∧ x ≤ 2 ^ l - 1) ∧ ¬ held l ids x) T ∧ T.length ≤ 97 * (ids.length + 1) ∧ Below w.heap.size w w' := by
  have HS := Lib.hid hS
  have hall : ids.all (isNode l) = true := List.all_eq_true.2 hn
  have HA := Lib.hid (fun (W : World) (h : Sl W W.heap.size encZ A ids) => tilesAll W l hl A cap ids h (by omega))
  rw [hall] at HA
  have HJ := Lib.hid (fun (W : World) (h : Sl W W.heap.size encZ A ids) => tiles_Join W l hl A cap ids h (by omega) hn)
  have HO := Lib.hid (fun W a b h1 h2 h3 => tiles_Of W l hl a b h1 h2 h3)
  have HLn := Lib.hid (fun a b => ofTiles_len hl a b)
  have HRl := Lib.hid (fun T => restF_len hl T)
  have HRI := Lib.hid (fun (T : List Int) h1 h2 => restF_inv hl (T := T) h1 h2)
  have HRT := Lib.hid (fun (T : List Int) h1 h2 => rest_tiles hl (T := T) h1 h2)
  have pw := pow_48 (n := l) hl.2
  have pw0 := pow_pos' l
  have l2 : (l : Int) ≤ 48 := by omega
  clear hS hn hall hl
  go_enter Tryz.func30, Tryz.ntmps30
  go_wp2_with fail
  refine (HA.out _ HS.out).mono ?_
  rintro e w1 ⟨rfl, hb1⟩
  have S1 := Lib.hid (HS.out.keep (B' := w1.heap.size) hb1.size fun p hp => hb1.cell hp)
  have B1 := Lib.hid hb1
  clear hb1
  go_wp2_with fail
  refine (HJ.out _ S1.out).mono ?_
  rintro e w2 ⟨v, T, rfl, ho, hT, hs, hTl, hb2⟩
  have B2 := Lib.hid (B1.out.trans (hb2.mono B1.out.size))
  obtain ⟨A2, cap2, rfl, hc1, hc2, hS2, _⟩ := ho.form
  have ST := Lib.hid hS2
  have TI := Lib.hid hT
  have TS := Lib.hid hs
  have hTl2 : T.length ≤ 65536 := by omega
  clear ho hT hs hb2 hS2 B1 S1 HA HJ
  go_wp2_with fail
  go_loopw [8, 9, 32] (fun vo f i wr => ∃ (k : Nat), k ≤ T.length ∧ i = .int .i64 k ∧ f = .int .i64 (restF l (T.take k)).2 ∧ Own wr w2.heap.size 3 encZ vo (restF l (T.take k)).1 ∧ Below w2.heap.size w2 wr) (fun _ _ i _ => T.length - (intOf i).toNat)
  case atStart => exact ⟨0, Nat.zero_le _, rfl, rfl, .inl ⟨rfl, rfl⟩, Below.refl _ _⟩
  case round =>
    obtain ⟨k, hk, rfl, rfl, hown, hB⟩ := hrel
    have KB := Lib.hid hB
    have hszB := hB.size
    have RI := HRI.out (T.take k) (fun t ht => TI.out.node t (List.mem_of_mem_take ht)) (TS.out.sublist (List.take_sublist k T))
    have r0 := RI.from0
    have hrl := HRl.out T k hk
    by_cases hlt : k < T.length
    · obtain ⟨g, off, rfl, hg, hcl⟩ := ST.out.at_ hlt
      have ds0 := hcl 0 (.int .i64 T[k]) rfl
      simp only [Nat.mul_one, Nat.add_zero] at ds0
      have ds := (KB.out.cell (p := ⟨g, off + k, none⟩) hg).trans ds0
      have lg : g < wr.heap.size := Nat.lt_of_lt_of_le hg hszB
      have hxn := TI.out.node _ (List.getElem_mem hlt)
      have nx := node_max hxn
      have nx2 := nx.2.1
      have nh := hi_top hxn
      have nl := lo_0 hxn
      have nlh := lo_hi hxn
      have HE := Lib.hid (fun W => twig_Ends W l T[k] (by omega))
      rw [ends_node hxn] at HE
      have E0 := Lib.hid (restF_snoc (l := l) hlt)
      unfold restStep at E0
      obtain ⟨o, ho⟩ : ∃ o, o = restF l (T.take k) := ⟨_, rfl⟩
      rw [← ho] at hown RI r0 hrl E0 ⊢
      clear ho
      obtain ⟨O, f⟩ := o
      simp only at hown r0 hrl E0 ⊢
      generalize loN l T[k] = lo at HE E0 nl nlh
      generalize hiN l T[k] = hi at HE E0 nh nlh
      generalize T[k] = x at ds HE hxn nx nx2
      obtain ⟨Ao, co, rfl, hco1, hco2, _⟩ := hown.form
      have KO := Lib.hid hown
      clear hcl ds0 hxn nx hown RI hB
      by_cases hfl : f < lo
      · have HOf := Lib.hid (fun W => HO.out W f (lo - 1) (by omega) (by omega) (by omega))
        have hL := HLn.out f (lo - 1)
        rw [if_pos hfl] at E0
        have E1 := E0
        generalize ofTiles l f (lo - 1) = M at HOf hL E1
        clear E0
        go_wp2_with fail
        refine (HE.out _).mono ?_
        rintro e w5 ⟨rfl, hb5⟩
        have O5 := Lib.hid (KO.out.below hb5)
        have B5 := Lib.hid (KB.out.trans (hb5.mono hszB))
        clear hb5
        go_wp2_with fail
        refine (HOf.out _).mono ?_
        rintro e w6 ⟨v6, rfl, ho6, hb6⟩
        have O6 := Lib.hid (O5.out.below hb6)
        have B6 := Lib.hid (B5.out.trans (hb6.mono B5.out.size))
        obtain ⟨A6, c6, rfl, _, _, hS6, _⟩ := ho6.form
        have S6 := Lib.hid hS6
        clear hb6 ho6 hS6
        go_wp2_with ((at_builtin; refine wpList_app tyZ rfl _ _ rfl encZ w2.heap.size (.slice Ao O.length co) O rfl O6.out A6 c6 M w6.heap.size rfl S6.out ?c1 ?c2 ?c3 ?c4))
        case c1 => omega
        case c2 => simp only [maxLen]; omega
        case c3 => exact B6.out.size
        case c4 =>
          intro v' w' ho' _ _ hb' _
          have O7 := Lib.hid ho'
          have B7 := Lib.hid (B6.out.trans hb')
          clear ho' hb'
          go_wp2_with fail
          go_roundw
          case rel => exact ⟨k + 1, by omega, by go_num, by rw [E1.out], by rw [E1.out]; exact O7.out, B7.out⟩
          case measure => simp [intOf]; omega
      · rw [if_neg hfl] at E0
        have hdec : decide (f < lo) = false := by simpa using hfl
        go_wp2_with fail
        refine (HE.out _).mono ?_
        rintro e w5 ⟨rfl, hb5⟩
        have O5 := Lib.hid (KO.out.below hb5)
        have B5 := Lib.hid (KB.out.trans (hb5.mono hszB))
        clear hb5
        go_wp2_with fail
        go_roundw
        case rel => exact ⟨k + 1, by omega, by go_num, by rw [E0.out], by rw [E0.out]; exact O5.out, B5.out⟩
        case measure => simp [intOf]; omega
    · obtain rfl : k = T.length := by omega
      rw [List.take_length] at hown r0 hrl ⊢
      have RT := HRT.out T TI.out.node TS.out
      have hfin : Tiles l (fun x => (0 ≤ x ∧ x ≤ 2 ^ l - 1) ∧ ¬ held l ids x) (restL l T) := RT.congr fun v => by rw [TI.out.cov]
      have FT := Lib.hid hfin
      have E0 : Hid (restL l T = if (restF l T).2 ≤ 2 ^ l - 1 then (restF l T).1 ++ ofTiles l (restF l T).2 (2 ^ l - 1) else (restF l T).1) := Lib.hid rfl
      obtain ⟨o, ho⟩ : ∃ o, o = restF l T := ⟨_, rfl⟩
      rw [← ho] at hown r0 hrl E0 ⊢
      clear ho RI RT hfin
      obtain ⟨O, f⟩ := o
      simp only at hown r0 hrl E0 ⊢
      obtain ⟨Ao, co, rfl, hco1, hco2, _⟩ := hown.form
      have KO := Lib.hid hown
      clear hown hB
      have hsh : bits .shl .i64 1 l = bits .shl .i64 1 l := rfl
      clear hsh
      by_cases hfl : f ≤ 2 ^ l - 1
      · have HOf := Lib.hid (fun W => HO.out W f (2 ^ l - 1) (by omega) (by omega) (by omega))
        have hL := HLn.out f (2 ^ l - 1)
        rw [if_pos hfl] at E0
        have E1 := E0
        generalize ofTiles l f (2 ^ l - 1) = M at HOf hL E1
        clear E0
        go_wp2_with fail
        refine (HOf.out _).mono ?_
        rintro e w6 ⟨v6, rfl, ho6, hb6⟩
        have O6 := Lib.hid (KO.out.below hb6)
        have B6 := Lib.hid (KB.out.trans (hb6.mono hszB))
        obtain ⟨A6, c6, rfl, _, _, hS6, _⟩ := ho6.form
        have S6 := Lib.hid hS6
        clear hb6 ho6 hS6
        go_wp2_with ((at_builtin; refine wpList_app tyZ rfl _ _ rfl encZ w2.heap.size (.slice Ao O.length co) O rfl O6.out A6 c6 M w6.heap.size rfl S6.out ?c1 ?c2 ?c3 ?c4))
        case c1 => omega
        case c2 => simp only [maxLen]; omega
        case c3 => exact B6.out.size
        case c4 =>
          intro v' w' ho' _ _ hb' _
          have O7 := Lib.hid ho'
          have B7 := Lib.hid (B6.out.trans hb')
          clear ho' hb'
          go_wp2_with fail
          go_ret2
          refine ⟨_, restL l T, rfl, ?_, FT.out, ?_, B2.out.trans (B7.out.mono B2.out.size)⟩
          · rw [E1.out]; exact O7.out.base_le B2.out.size
          · rw [E1.out, List.length_append]; omega
      · rw [if_neg hfl] at E0
        have hdec : decide (f ≤ 2 ^ l - 1) = false := by simpa using hfl
        go_wp2_with fail
        go_ret2
        refine ⟨_, rfl, restL l T, ?_, FT.out, ?_, B2.out.trans (KB.out.mono B2.out.size)⟩
        · rw [E0.out]; exact KO.out.base_le B2.out.size
        · rw [E0.out]; omega
end Go.Proofs.YtmadmlkmdnjmaaaGreat
/- Package reach: On, Off. -/
namespace Go.Proofs.YtmadmlkmdnjmaaaGreat
open Go.ChangeShapes Go.WideShapes Go.ChangeAt Go.RowKit
set_option linter.unusedVariables false
set_option linter.unusedSimpArgs false
set_option maxRecDepth 100000

theorem anyT_take {T : List Int} {f : Int → Bool} {q : Nat} (h : q < T.length) : (T.take (q + 1)).any f = ((T.take q).any f || f T[q]) := by
  rw [List.take_succ_eq_append_getElem h, List.any_append]; simp
theorem reach_on1 (w : World) (l : Nat) (id : Int) (p : Nat) (A : Option Addr) (cap : Nat) (T : List Int) (hc : w.cell? ⟨p, 0, none⟩ = some (.slice A T.length cap)) (hS : Sl w w.heap.size encZ A T) (hm : T.length ≤ 67108864) (hT : ∀ t ∈ T, isNode l t = true) (hid : isNode l id = true) :
    Calls Tryz.prog 146 #[.int .i64 id, .pointer (some ⟨p, 0, none⟩)] w fun e w' => e = .returned (.tuple #[.bool (allT T id), .bool (someT T id)]) ∧ Below w.heap.size w w' := by
  have ni := (node_max hid).2.1
  have HS := Lib.hid hS
  have HT := Lib.hid hT
  have zp := lt_of_cell hc
  clear hS hT hid
  go_enter Tryz.func146, Tryz.ntmps146
  go_wp2_with fail
  go_loopw [4, 9] (fun s i wr => ∃ q : Nat, q ≤ T.length ∧ i = .int .i64 q ∧ s = .bool (someT (T.take q) id) ∧ allT (T.take q) id = false ∧ Below w.heap.size w wr) (fun _ i _ => T.length - (intOf i).toNat)
  case atStart => exact ⟨0, Nat.zero_le _, rfl, by simp [someT], by simp [allT], Below.refl _ _⟩
  case round =>
    obtain ⟨q, hq, rfl, rfl, hall, hB⟩ := hrel
    have hsz := hB.size
    have HA := Lib.hid hall
    clear hall
    by_cases hlt : q < T.length
    · obtain ⟨b1, o1, rfl, hb1, hc1⟩ := HS.out.at_ hlt
      have d1 := hc1 0 (.int .i64 T[q]) rfl
      simp only [Nat.mul_one, Nat.add_zero] at d1
      have e1 := (hB.cell (p := ⟨b1, o1 + q, none⟩) hb1).trans d1
      have lb1 : b1 < wr.heap.size := Nat.lt_of_lt_of_le hb1 hsz
      have nt := (node_max (HT.out _ (List.getElem_mem hlt))).2.1
      have EA := Lib.hid (show allT (T.take (q + 1)) id = (allT (T.take q) id || abv T[q] id) from anyT_take hlt)
      have ES := Lib.hid (show someT (T.take (q + 1)) id = (someT (T.take q) id || (abv T[q] id || abv id T[q])) from anyT_take hlt)
      have EB := Lib.hid (show abv T[q] id = true → allT T id = true ∧ someT T id = true from fun h => ⟨List.any_eq_true.2 ⟨_, List.getElem_mem hlt, h⟩, List.any_eq_true.2 ⟨_, List.getElem_mem hlt, by rw [h]; rfl⟩⟩)
      have H1 := Lib.hid (fun W => twig_Above W T[q] id (by omega) (by omega))
      have H2 := Lib.hid (fun W => twig_Above W id T[q] (by omega) (by omega))
      rw [HA.out] at EA
      generalize T[q] = t at e1 EA ES EB H1 H2 nt
      generalize abv t id = a1 at EA ES EB H1
      generalize abv id t = a2 at ES H2
      generalize someT (T.take q) id = sb at ES ⊢
      clear hc1 d1 nt
      cases a1
      · cases sb
        · go_wp2_with fail
          refine (H1.out _).mono ?_
          rintro e w3 ⟨rfl, hb3⟩
          have B3 := Lib.hid (hB.trans (hb3.mono hsz))
          clear hb3
          go_wp2_with fail
          refine (H2.out _).mono ?_
          rintro e w4 ⟨rfl, hb4⟩
          have B4 := Lib.hid (B3.out.trans (hb4.mono B3.out.size))
          clear hb4
          go_wp2_with fail
          go_roundw
          case rel => exact ⟨q + 1, by omega, by go_num, by rw [ES.out]; cases a2 <;> rfl, by rw [EA.out]; rfl, B4.out⟩
          case measure => simp [intOf]; omega
        · go_wp2_with fail
          refine (H1.out _).mono ?_
          rintro e w3 ⟨rfl, hb3⟩
          have B3 := Lib.hid (hB.trans (hb3.mono hsz))
          clear hb3
          go_wp2_with fail
          go_roundw
          case rel => exact ⟨q + 1, by omega, by go_num, by rw [ES.out]; rfl, by rw [EA.out]; rfl, B3.out⟩
          case measure => simp [intOf]; omega
      · obtain ⟨g1, g2⟩ := EB.out rfl
        have G := Lib.hid (And.intro g1 g2)
        clear g1 g2
        go_wp2_with fail
        refine (H1.out _).mono ?_
        rintro e w3 ⟨rfl, hb3⟩
        go_wp2_with fail
        go_ret2
        exact ⟨by rw [G.out.1, G.out.2]; rfl, hB.trans (hb3.mono hsz)⟩
    · obtain rfl : q = T.length := by omega
      rw [List.take_length] at HA ⊢
      go_wp2_with fail
      go_ret2
      exact ⟨by rw [HA.out]; rfl, hB⟩
theorem wIds_take {f : Int → Bool} {r : List Nd} {q : Nat} (h : q < r.length) : wIds f (r.take (q + 1)) = wIds f (r.take q) + if f r[q].1 = true then r[q].2 else 0 := by
  rw [List.take_succ_eq_append_getElem h]
  generalize r.take q = s
  generalize r[q] = x
  induction s with
  | nil => simp [wIds]
  | cons y s ih => simp only [List.cons_append, wIds, ih]; omega
theorem wIds_rng {f : Int → Bool} {r : List Nd} (h : Roll r) : 0 ≤ wIds f r ∧ wIds f r ≤ sumR r := by
  have h0 : ∀ x ∈ r, 0 ≤ x.2 := fun x hx => by have := (h.2 x hx).2; omega
  refine ⟨wIds_0 h0, ?_⟩
  rw [sumR_ids]
  exact wIds_le h0 fun _ _ _ => rfl
set_option maxHeartbeats 2000000 in
theorem reach_sum (w : World) (g K l : Nat) (k : Int) (r : List Nd) (F : Nat → Prop) (fn : Nat) (caps : Array Value) (P Q : Int → Bool) (h : DigAt w g K l k r F) (hn : r.length ≤ 67108864) (eg : ∀ args W, (callFunc fn args).run Tryz.prog W = .ok (.enter fn args) W)
    (step : ∀ W x, Below w.heap.size w W → x ∈ r → Calls Tryz.prog fn (#[.int .i64 x.1] ++ caps) W fun e W' => e = .returned (.tuple #[.bool (P x.1), .bool (Q x.1)]) ∧ Below W.heap.size W W') :
    Calls Tryz.prog 91 #[.pointer (some ⟨g, 0, none⟩), .func (.func fn) #[] caps] w fun e w' => e = .returned (.agg #[.int .i64 (wIds P r), .int .i64 (wIds Q r)]) ∧ Below w.heap.size w w' := by
  have hf := h.fits
  have hll := h.l_le
  have HD := Lib.hid h
  have ST := Lib.hid step
  clear h step
  go_enter Tryz.func91, Tryz.ntmps91
  go_wp2_with fail
  have B0 : Below w.heap.size w ((w.alloc (.cells #[.int .i64 0, .int .i64 0] 51)).alloc (.cells #[.int .i64 0, .int .i64 0] 51)) := (by repeat (first | with_reducible exact Below.refl _ _ | with_reducible assumption | ((with_reducible refine Below.setCell ?_ ?_ _); rotate_left; · (first | omega | exact Nat.le_refl _ | (simp <;> omega))) | (with_reducible refine Below.allocW ?_ _) | (with_reducible refine Below.drew ?_) | (with_reducible refine Below.extW ?_ _)))
  have K0 := Lib.hid ((bothAt.new w 0 0).alloc (.cells #[.int .i64 0, .int .i64 0] 51))
  have K1 := Lib.hid (bothAt.new (w.alloc (.cells #[.int .i64 0, .int .i64 0] 51)) 0 0)
  simp only [World.size_alloc] at K1
  refine (digest_Nodes _ g K l k r F (HD.out.below B0) hn).mono ?_
  rintro e w2 ⟨v, rfl, ho, hb2⟩
  have B2 : Below w.heap.size w w2 := Below.then_ (by repeat (first | with_reducible exact Below.refl _ _ | with_reducible assumption | ((with_reducible refine Below.setCell ?_ ?_ _); rotate_left; · (first | omega | exact Nat.le_refl _ | (simp <;> omega))) | (with_reducible refine Below.allocW ?_ _) | (with_reducible refine Below.drew ?_) | (with_reducible refine Below.extW ?_ _))) hb2
  have s2 : w.heap.size ≤ w2.heap.size := B2.size
  have HO := Lib.hid ho
  simp only [World.size_alloc] at HO
  have M0 := Lib.hid (K0.out.below hb2)
  have M1 := Lib.hid (K1.out.below hb2)
  have z0 : w.heap.size + 2 ≤ w2.heap.size := by have := hb2.size; simp at this; omega
  obtain ⟨A, cap, rfl, _⟩ := ho.form
  clear ho K0 K1 hb2 B0
  go_wp2_with fail
  go_loopw [13] (fun i wr => ∃ q : Nat, q ≤ r.length ∧ i = .int .i64 q ∧ bothAt wr w.heap.size 0 0 ∧ bothAt wr (w.heap.size + 1) (wIds P (r.take q)) (wIds Q (r.take q)) ∧ Own wr (w.heap.size + 1 + 1) 116 encN (.slice A r.length cap) r ∧ Below w.heap.size w wr) (fun i _ => r.length - (intOf i).toNat)
  case atStart => exact ⟨0, Nat.zero_le _, rfl, M0.out, M1.out, HO.out, B2⟩
  case round =>
    obtain ⟨j, hj, rfl, hm0, hm1, hown, hB⟩ := hrel
    have KO := Lib.hid hown
    have N0 := Lib.hid hm0
    have N1 := Lib.hid hm1
    have hs := hB.size
    have zn1 := lt_of_block hm1
    clear hown hm0
    by_cases hlt : j < r.length
    · obtain ⟨c, off, rfl, hc, hcl⟩ := KO.out.sl.at_ hlt
      have d0 := hcl 0 (.int .i64 r[j].1) rfl
      have d1 := hcl 1 (.int .i64 r[j].2) rfl
      simp only [Nat.add_zero] at d0
      have hx := hf.roll.2 _ (List.getElem_mem hlt)
      have hxl := hf.lt _ (List.getElem_mem hlt)
      have e1 := sumR_take_succ hlt
      have e2 := sumR_take_le hf.roll (j + 1)
      have e3 := hf.sum
      have e5 := wIds_rng (f := P) (hf.roll.take j)
      have e6 := wIds_rng (f := Q) (hf.roll.take j)
      have E7 : wIds P (r.take (j + 1)) = _ := wIds_take hlt
      have E8 : wIds Q (r.take (j + 1)) = _ := wIds_take hlt
      have hp := pow_48 (n := l) hll.2
      have HC := Lib.hid (fun W hW => ST.out W r[j] hW (List.getElem_mem hlt))
      obtain ⟨x, hxe⟩ : ∃ x, x = r[j] := ⟨_, rfl⟩
      rw [← hxe] at d0 d1 hx hxl e1 E7 E8 HC
      have n2 : wIds P (r.take j) + x.2 ≤ 72057594037927935 := by omega
      have n3 : wIds Q (r.take j) + x.2 ≤ 72057594037927935 := by omega
      have n0 := e5.1
      have n1 := e6.1
      have hx1 : x.1 ≤ 562949953421312 := by omega
      have hx2 := hx.2
      generalize wIds P (r.take j) = m at n0 n2 E7 hm1 N1
      generalize wIds Q (r.take j) = n at n1 n3 E8 hm1 N1
      generalize P x.1 = bl at E7 HC
      generalize Q x.1 = bh at E8 HC
      have E7 := Lib.hid E7
      have E8 := Lib.hid E8
      clear hcl e1 e2 e3 e5 e6 hxe hxl hp hx hm1
      go_wp2_with fail
      have W3 : Below w.heap.size w (wr.alloc (.cells #[.int .i64 x.1, .int .i64 x.2] 116)) := hB.alloc hs _
      refine (HC.out _ W3).mono ?_
      rintro e w4 ⟨rfl, hb4⟩
      have B4 : Below w.heap.size w w4 := Below.then_ (by repeat (first | with_reducible exact Below.refl _ _ | with_reducible assumption | ((with_reducible refine Below.setCell ?_ ?_ _); rotate_left; · (first | omega | exact Nat.le_refl _ | (simp <;> omega))) | (with_reducible refine Below.allocW ?_ _) | (with_reducible refine Below.drew ?_) | (with_reducible refine Below.extW ?_ _))) hb4
      have s4 : w.heap.size ≤ w4.heap.size := B4.size
      have z4_0 : wr.heap.size < w4.heap.size := by have := hb4.size; (try simp at this); omega
      have y4_0 : wr.heap.size ≤ w4.heap.size := Nat.le_of_lt z4_0
      have c4_0 := fun o => hb4.cell (p := ⟨wr.heap.size, o, none⟩) (by first | omega | (simp <;> omega))
      have f4_0 := fun o => hb4.frozen (p := ⟨wr.heap.size, o, none⟩) (by first | omega | (simp <;> omega))
      have L0 := Lib.hid ((N0.out.alloc _).below hb4)
      have l1 := (N1.out.alloc _).below hb4
      have L1 := Lib.hid l1
      have LO := Lib.hid ((KO.out.alloc _).below hb4)
      have cc := blk_cell l1
      have cf := blk_frozen l1
      have zz := lt_of_block l1
      have hne : w.heap.size ≠ w.heap.size + 1 := by omega
      clear l1 hb4
      cases bl
      all_goals cases bh
      all_goals (
        go_wp2_with fail
        go_roundw
        case rel =>
          have F7 := E7.out
          have F8 := E8.out
          simp only [Bool.false_eq_true, if_false, if_true, Int.add_zero, reduceIte] at F7 F8
          refine ⟨j + 1, by omega, by go_num, ?_, ?_, ?_, (by repeat (first | with_reducible exact Below.refl _ _ | with_reducible assumption | ((with_reducible refine Below.setCell ?_ ?_ _); rotate_left; · (first | omega | exact Nat.le_refl _ | (simp <;> omega))) | (with_reducible refine Below.allocW ?_ _) | (with_reducible refine Below.drew ?_) | (with_reducible refine Below.extW ?_ _)))⟩
          · first
              | exact L0.out
              | exact L0.out.set hne _
              | exact (L0.out.set hne _).set hne _
          · rw [F7, F8]
            first
              | exact L1.out
              | exact L1.out.set0 _
              | exact L1.out.set1 _
              | exact (L1.out.set0 _).set1 _
          · first
              | exact LO.out
              | exact LO.out.setCellB (by simp only; omega)
              | exact (LO.out.setCellB (by simp only; omega)).setCellB (by simp only; omega)
        case measure => simp [intOf]; omega)
    · obtain rfl : j = r.length := by omega
      rw [List.take_length] at N1 hm1
      have cc := blk_cell hm1
      have cf0 := blk_frozen N0.out
      have cc0 := blk_cell N0.out
      have zn0 := lt_of_block N0.out
      clear hm1
      go_wp2_with fail
      exact bodyPost_ret (v := .agg #[.int .i64 (wIds P r), .int .i64 (wIds Q r)]) (by simp only [results, Tryz.results91]; go_simp) rfl ⟨rfl, (by repeat (first | with_reducible exact Below.refl _ _ | with_reducible assumption | ((with_reducible refine Below.setCell ?_ ?_ _); rotate_left; · (first | omega | exact Nat.le_refl _ | (simp <;> omega))) | (with_reducible refine Below.allocW ?_ _) | (with_reducible refine Below.drew ?_) | (with_reducible refine Below.extW ?_ _)))⟩
theorem enters_on1 : ∀ args W, (callFunc 146 args).run Tryz.prog W = .ok (.enter 146 args) W := enters_of Tryz.func146 (by kernel_rfl) rfl
theorem reach_on (w : World) (g K l : Nat) (k : Int) (r : List Nd) (F : Nat → Prop) (A : Option Addr) (cap : Nat) (T : List Int) (h : DigAt w g K l k r F) (hn : r.length ≤ 67108864) (hS : Sl w w.heap.size encZ A T) (hm : T.length ≤ 67108864) (hT : ∀ t ∈ T, isNode l t = true) (hr : ∀ x ∈ r, isNode l x.1 = true) :
    Calls Tryz.prog 75 #[.pointer (some ⟨g, 0, none⟩), .slice A T.length cap] w fun e w' => e = .returned (.agg #[.int .i64 (onT T r).1, .int .i64 (onT T r).2]) ∧ Below w.heap.size w w' := by
  have hb : Below w.heap.size w ((w.alloc (.cells #[.slice A T.length cap] 49)).alloc (.cells #[.int .i64 0, .int .i64 0] 51)) := (by repeat (first | with_reducible exact Below.refl _ _ | with_reducible assumption | ((with_reducible refine Below.setCell ?_ ?_ _); rotate_left; · (first | omega | exact Nat.le_refl _ | (simp <;> omega))) | (with_reducible refine Below.allocW ?_ _) | (with_reducible refine Below.drew ?_) | (with_reducible refine Below.extW ?_ _)))
  have HD := Lib.hid (h.below hb)
  have KB := Lib.hid hb
  have KC := Lib.hid (show ((w.alloc (.cells #[.slice A T.length cap] 49)).alloc (.cells #[.int .i64 0, .int .i64 0] 51)).heap[w.heap.size]? = some (.cells #[.slice A T.length cap] 49 (0, 0)) from (heap_new_lt _ _ _ (by simp)).trans (heap_alloc_new w _))
  have K4 := Lib.hid (bothAt.new (w.alloc (.cells #[.slice A T.length cap] 49)) 0 0)
  simp only [World.size_alloc] at K4
  have S0 := Lib.hid (hS.keep (B' := ((w.alloc (.cells #[.slice A T.length cap] 49)).alloc (.cells #[.int .i64 0, .int .i64 0] 51)).heap.size) hb.size fun p hp => hb.cell hp)
  have HT := Lib.hid hT
  have HR := Lib.hid hr
  clear h hS hb hT hr
  go_enter Tryz.func75, Tryz.ntmps75
  go_upto_region 1 with fail
  generalize (w.alloc (.cells #[.slice A T.length cap] 49)).alloc (.cells #[.int .i64 0, .int .i64 0] 51) = W0 at HD KB KC K4 S0 ⊢
  have HSum := Lib.hid (reach_sum W0 g K l k r F 146 #[.pointer (some ⟨w.heap.size, 0, none⟩)] (allT T) (someT T) HD.out hn enters_on1 (fun W x hW hx => reach_on1 W l x.1 w.heap.size A cap T (blk_cell (blk_below KC.out hW) 0) (S0.out.keep hW.size fun p hp => hW.cell hp) hm HT.out (HR.out x hx)))
  have zk := lt_of_block K4.out
  go_wp2_with fail
  refine HSum.out.mono ?_
  rintro e w1 ⟨rfl, hb1⟩
  have M4 := Lib.hid (K4.out.below hb1)
  have BB := Lib.hid (KB.out.trans (hb1.mono KB.out.size))
  have cc := blk_cell M4.out
  have cf := blk_frozen M4.out
  have zz := lt_of_block M4.out
  clear hb1 zk
  go_wp2_with fail
  exact bodyPost_ret (v := .agg #[.int .i64 (wIds (allT T) r), .int .i64 (wIds (someT T) r)]) (by simp only [results, Tryz.results75]; go_simp) rfl ⟨rfl, (BB.out.setCell (p := ⟨w.heap.size + 1, 0, none⟩) (by simp only; omega) _).setCell (p := ⟨w.heap.size + 1, 1, none⟩) (by simp only; omega) _⟩
end Go.Proofs.YtmadmlkmdnjmaaaGreat
/- Package reach: On, Off, whole. -/
namespace Go.Proofs.YtmadmlkmdnjmaaaGreat
open Go.ChangeShapes Go.WideShapes Go.ChangeAt Go.RowKit
set_option linter.unusedVariables false
set_option linter.unusedSimpArgs false
set_option maxRecDepth 100000

/-- What On and Off tell. -/
def onV (l : Nat) (ids : List Int) (off : Bool) (r : List Nd) : Int × Int × Int := if ids.all (isNode l) = true then ((refOn l ids off r).1, (refOn l ids off r).2, 0) else (0, 0, 2)
theorem onV_yes {l : Nat} {ids : List Int} {off : Bool} {r : List Nd} (h : ids.all (isNode l) = true) : bothV (onV l ids off r) = .tuple #[.agg #[.int .i64 (refOn l ids off r).1, .int .i64 (refOn l ids off r).2], .int .i64 0] := by unfold onV; rw [if_pos h]; rfl
theorem onV_no {l : Nat} {ids : List Int} {off : Bool} {r : List Nd} (h : ids.all (isNode l) = false) : bothV (onV l ids off r) = .tuple #[.agg #[.int .i64 0, .int .i64 0], .int .i64 2] := by unfold onV; rw [h]; rfl
theorem reach_On_nil (w : World) (v : Value) : Calls Tryz.prog 19 #[.pointer none, v] w fun e w' => e = .returned (bothV (0, 0, 1)) ∧ Below w.heap.size w w' := by
  unfold bothV
  go_enter Tryz.func19, Tryz.ntmps19
  go_wp2_with fail
  exact bodyPost_ret (v := .tuple #[.agg #[.int .i64 0, .int .i64 0], .int .i64 1]) (by simp only [results, Tryz.results19]; go_simp) rfl ⟨rfl, (by repeat (first | with_reducible exact Below.refl _ _ | with_reducible assumption | ((with_reducible refine Below.setCell ?_ ?_ _); rotate_left; · (first | omega | exact Nat.le_refl _ | (simp <;> omega))) | (with_reducible refine Below.allocW ?_ _) | (with_reducible refine Below.drew ?_) | (with_reducible refine Below.extW ?_ _)))⟩
theorem reach_Off_nil (w : World) (v : Value) : Calls Tryz.prog 20 #[.pointer none, v] w fun e w' => e = .returned (bothV (0, 0, 1)) ∧ Below w.heap.size w w' := by
  unfold bothV
  go_enter Tryz.func20, Tryz.ntmps20
  go_wp2_with fail
  exact bodyPost_ret (v := .tuple #[.agg #[.int .i64 0, .int .i64 0], .int .i64 1]) (by simp only [results, Tryz.results20]; go_simp) rfl ⟨rfl, (by repeat (first | with_reducible exact Below.refl _ _ | with_reducible assumption | ((with_reducible refine Below.setCell ?_ ?_ _); rotate_left; · (first | omega | exact Nat.le_refl _ | (simp <;> omega))) | (with_reducible refine Below.allocW ?_ _) | (with_reducible refine Below.drew ?_) | (with_reducible refine Below.extW ?_ _)))⟩
set_option maxHeartbeats 1000000 in
theorem reach_On (w : World) (g K l : Nat) (k : Int) (r : List Nd) (F : Nat → Prop) (A : Option Addr) (cap : Nat) (ids : List Int) (h : DigAt w g K l k r F) (hn : r.length ≤ 67108864) (hS : Sl w w.heap.size encZ A ids) (hm : ids.length ≤ 67108864) (hr : ∀ x ∈ r, isNode l x.1 = true) :
    Calls Tryz.prog 19 #[.pointer (some ⟨g, 0, none⟩), .slice A ids.length cap] w fun e w' => e = .returned (bothV (onV l ids false r)) ∧ Below w.heap.size w w' := by
  have hl := h.l_le
  have hb : Below w.heap.size w (w.alloc (.cells #[.int .i64 0, .int .i64 0] 51)) := (by repeat (first | with_reducible exact Below.refl _ _ | with_reducible assumption | ((with_reducible refine Below.setCell ?_ ?_ _); rotate_left; · (first | omega | exact Nat.le_refl _ | (simp <;> omega))) | (with_reducible refine Below.allocW ?_ _) | (with_reducible refine Below.drew ?_) | (with_reducible refine Below.extW ?_ _)))
  have HD := Lib.hid (h.below hb)
  have KB := Lib.hid hb
  have K4 := Lib.hid (bothAt.new w 0 0)
  have S0 := Lib.hid (hS.keep (B' := (w.alloc (.cells #[.int .i64 0, .int .i64 0] 51)).heap.size) hb.size fun p hp => hb.cell hp)
  cases hall : ids.all (isNode l)
  · rw [onV_no hall]
    have HJ := Lib.hid (fun W h => tiles_Join_no W l hl A cap ids h hm hall)
    clear h hS hb hr hall
    go_enter Tryz.func19, Tryz.ntmps19
    go_upto_region 1 with fail
    generalize w.alloc (.cells #[.int .i64 0, .int .i64 0] 51) = W0 at HD KB K4 S0 ⊢
    go_wp2_with fail
    refine (digest_Conf _ g K l k r F HD.out).mono ?_
    rintro e w1 ⟨rfl, hb1⟩
    have M4 := Lib.hid (K4.out.below hb1)
    have S1 := Lib.hid (S0.out.keep (B' := w1.heap.size) hb1.size fun p hp => hb1.cell hp)
    have B1 := Lib.hid (KB.out.trans (hb1.mono KB.out.size))
    clear hb1
    go_wp2_with fail
    refine (HJ.out _ S1.out).mono ?_
    rintro e w2 ⟨rfl, hb2⟩
    have N4 := Lib.hid (M4.out.below hb2)
    have B2 := Lib.hid (B1.out.trans (hb2.mono B1.out.size))
    have cc := blk_cell N4.out
    have cf := blk_frozen N4.out
    have zz := lt_of_block N4.out
    clear hb2
    go_wp2_with fail
    exact bodyPost_ret (v := .tuple #[.agg #[.int .i64 0, .int .i64 0], .int .i64 2]) (by simp only [results, Tryz.results19]; go_simp) rfl ⟨rfl, (B2.out.setCell (p := ⟨w.heap.size, 0, none⟩) (by simp only; omega) _).setCell (p := ⟨w.heap.size, 1, none⟩) (by simp only; omega) _⟩
  · rw [onV_yes hall]
    have hnn : ∀ x ∈ ids, isNode l x = true := fun x hx => List.all_eq_true.1 hall x hx
    have HJ := Lib.hid (fun W h => tiles_Join W l hl A cap ids h hm hnn)
    have HO := Lib.hid (fun W A2 c2 T h1 h2 h3 h4 => reach_on W g K l k r F A2 c2 T h1 hn h2 h3 h4 hr)
    have HE := Lib.hid (fun (T : List Int) (hT : Tiles l (held l ids) T) => ref_on (r := r) hnn hT hr)
    clear h hS hb hr hall hnn
    go_enter Tryz.func19, Tryz.ntmps19
    go_upto_region 1 with fail
    generalize w.alloc (.cells #[.int .i64 0, .int .i64 0] 51) = W0 at HD KB K4 S0 ⊢
    go_wp2_with fail
    refine (digest_Conf _ g K l k r F HD.out).mono ?_
    rintro e w1 ⟨rfl, hb1⟩
    have M4 := Lib.hid (K4.out.below hb1)
    have S1 := Lib.hid (S0.out.keep (B' := w1.heap.size) hb1.size fun p hp => hb1.cell hp)
    have B1 := Lib.hid (KB.out.trans (hb1.mono KB.out.size))
    have D1 := Lib.hid (HD.out.below hb1)
    clear hb1
    go_wp2_with fail
    refine (HJ.out _ S1.out).mono ?_
    rintro e w2 ⟨v, T, rfl, ho, hT, hs, hTl, hb2⟩
    have N4 := Lib.hid (M4.out.below hb2)
    have B2 := Lib.hid (B1.out.trans (hb2.mono B1.out.size))
    have D2 := Lib.hid (D1.out.below hb2)
    obtain ⟨A2, c2, rfl, _, _, hS2, _⟩ := ho.form
    have S2 := Lib.hid hS2
    have hTm : T.length ≤ 67108864 := by omega
    have TN := Lib.hid hT.node
    have EE := Lib.hid (HE.out T hT)
    clear hb2 ho hS2 hT hs
    go_wp2_with fail
    refine (HO.out _ A2 c2 T D2.out S2.out hTm TN.out).mono ?_
    rintro e w3 ⟨rfl, hb3⟩
    rw [EE.out]
    have O4 := Lib.hid (N4.out.below hb3)
    have B3 := Lib.hid (B2.out.trans (hb3.mono B2.out.size))
    have cc := blk_cell O4.out
    have cf := blk_frozen O4.out
    have zz := lt_of_block O4.out
    clear hb3
    go_wp2_with fail
    exact bodyPost_ret (v := .tuple #[.agg #[.int .i64 (refOn l ids false r).1, .int .i64 (refOn l ids false r).2], .int .i64 0]) (by simp only [results, Tryz.results19]; go_simp) rfl ⟨rfl, (B3.out.setCell (p := ⟨w.heap.size, 0, none⟩) (by simp only; omega) _).setCell (p := ⟨w.heap.size, 1, none⟩) (by simp only; omega) _⟩
set_option maxHeartbeats 1000000 in
theorem reach_Off (w : World) (g K l : Nat) (k : Int) (r : List Nd) (F : Nat → Prop) (A : Option Addr) (cap : Nat) (ids : List Int) (h : DigAt w g K l k r F) (hn : r.length ≤ 67108864) (hS : Sl w w.heap.size encZ A ids) (hm : ids.length ≤ 65536) (hr : ∀ x ∈ r, isNode l x.1 = true) :
    Calls Tryz.prog 20 #[.pointer (some ⟨g, 0, none⟩), .slice A ids.length cap] w fun e w' => e = .returned (bothV (onV l ids true r)) ∧ Below w.heap.size w w' := by
  have hl := h.l_le
  have hb : Below w.heap.size w (w.alloc (.cells #[.int .i64 0, .int .i64 0] 51)) := (by repeat (first | with_reducible exact Below.refl _ _ | with_reducible assumption | ((with_reducible refine Below.setCell ?_ ?_ _); rotate_left; · (first | omega | exact Nat.le_refl _ | (simp <;> omega))) | (with_reducible refine Below.allocW ?_ _) | (with_reducible refine Below.drew ?_) | (with_reducible refine Below.extW ?_ _)))
  have HD := Lib.hid (h.below hb)
  have KB := Lib.hid hb
  have K4 := Lib.hid (bothAt.new w 0 0)
  have S0 := Lib.hid (hS.keep (B' := (w.alloc (.cells #[.int .i64 0, .int .i64 0] 51)).heap.size) hb.size fun p hp => hb.cell hp)
  cases hall : ids.all (isNode l)
  · rw [onV_no hall]
    have HJ := Lib.hid (fun W h => tiles_Rest_no W l hl A cap ids h (by omega) hall)
    clear h hS hb hr hall
    go_enter Tryz.func20, Tryz.ntmps20
    go_upto_region 1 with fail
    generalize w.alloc (.cells #[.int .i64 0, .int .i64 0] 51) = W0 at HD KB K4 S0 ⊢
    go_wp2_with fail
    refine (digest_Conf _ g K l k r F HD.out).mono ?_
    rintro e w1 ⟨rfl, hb1⟩
    have M4 := Lib.hid (K4.out.below hb1)
    have S1 := Lib.hid (S0.out.keep (B' := w1.heap.size) hb1.size fun p hp => hb1.cell hp)
    have B1 := Lib.hid (KB.out.trans (hb1.mono KB.out.size))
    clear hb1
    go_wp2_with fail
    refine (HJ.out _ S1.out).mono ?_
    rintro e w2 ⟨rfl, hb2⟩
    have N4 := Lib.hid (M4.out.below hb2)
    have B2 := Lib.hid (B1.out.trans (hb2.mono B1.out.size))
    have cc := blk_cell N4.out
    have cf := blk_frozen N4.out
    have zz := lt_of_block N4.out
    clear hb2
    go_wp2_with fail
    exact bodyPost_ret (v := .tuple #[.agg #[.int .i64 0, .int .i64 0], .int .i64 2]) (by simp only [results, Tryz.results20]; go_simp) rfl ⟨rfl, (B2.out.setCell (p := ⟨w.heap.size, 0, none⟩) (by simp only; omega) _).setCell (p := ⟨w.heap.size, 1, none⟩) (by simp only; omega) _⟩
  · rw [onV_yes hall]
    have hnn : ∀ x ∈ ids, isNode l x = true := fun x hx => List.all_eq_true.1 hall x hx
    have HJ := Lib.hid (fun W h => tiles_Rest W l hl A cap ids h hm hnn)
    have HO := Lib.hid (fun W A2 c2 T h1 h2 h3 h4 => reach_on W g K l k r F A2 c2 T h1 hn h2 h3 h4 hr)
    have HE := Lib.hid (fun (T : List Int) hT => ref_off (r := r) (T := T) hnn hT hr)
    clear h hS hb hr hall hnn
    go_enter Tryz.func20, Tryz.ntmps20
    go_upto_region 1 with fail
    generalize w.alloc (.cells #[.int .i64 0, .int .i64 0] 51) = W0 at HD KB K4 S0 ⊢
    go_wp2_with fail
    refine (digest_Conf _ g K l k r F HD.out).mono ?_
    rintro e w1 ⟨rfl, hb1⟩
    have M4 := Lib.hid (K4.out.below hb1)
    have S1 := Lib.hid (S0.out.keep (B' := w1.heap.size) hb1.size fun p hp => hb1.cell hp)
    have B1 := Lib.hid (KB.out.trans (hb1.mono KB.out.size))
    have D1 := Lib.hid (HD.out.below hb1)
    clear hb1
    go_wp2_with fail
    refine (HJ.out _ S1.out).mono ?_
    rintro e w2 ⟨v, T, rfl, ho, hT, hTl, hb2⟩
    have N4 := Lib.hid (M4.out.below hb2)
    have B2 := Lib.hid (B1.out.trans (hb2.mono B1.out.size))
    have D2 := Lib.hid (D1.out.below hb2)
    obtain ⟨A2, c2, rfl, _, _, hS2, _⟩ := ho.form
    have S2 := Lib.hid hS2
    have hTm : T.length ≤ 67108864 := by omega
    have TN := Lib.hid hT.node
    have EE := Lib.hid (HE.out T hT)
    clear hb2 ho hS2 hT
    go_wp2_with fail
    refine (HO.out _ A2 c2 T D2.out S2.out hTm TN.out).mono ?_
    rintro e w3 ⟨rfl, hb3⟩
    rw [EE.out]
    have O4 := Lib.hid (N4.out.below hb3)
    have B3 := Lib.hid (B2.out.trans (hb3.mono B2.out.size))
    have cc := blk_cell O4.out
    have cf := blk_frozen O4.out
    have zz := lt_of_block O4.out
    clear hb3
    go_wp2_with fail
    exact bodyPost_ret (v := .tuple #[.agg #[.int .i64 (refOn l ids true r).1, .int .i64 (refOn l ids true r).2], .int .i64 0]) (by simp only [results, Tryz.results20]; go_simp) rfl ⟨rfl, (B3.out.setCell (p := ⟨w.heap.size, 0, none⟩) (by simp only; omega) _).setCell (p := ⟨w.heap.size, 1, none⟩) (by simp only; omega) _⟩
end Go.Proofs.YtmadmlkmdnjmaaaGreat
/- The reference of layer 18 (reach): held, On. -/
namespace Go.Proofs.YtmadmlkmdnjmaaaGreat
open Go.ChangeShapes Go.WideShapes Go.ChangeAt Go.RowKit
set_option linter.unusedVariables false
set_option linter.unusedSimpArgs false
set_option maxRecDepth 100000

theorem ov_0 (r : Int × Int) (lo hi : Int) : 0 ≤ ov r lo hi := by unfold ov; omega
theorem cntR_0 (lo hi : Int) (L : List (Int × Int)) : 0 ≤ cntR lo hi L := by
  induction L with
  | nil => simp [cntR]
  | cons r L ih => have := ov_0 r lo hi; simp only [cntR]; omega
theorem cntR_take {L : List (Int × Int)} {k : Nat} (h : k < L.length) (lo hi : Int) : cntR lo hi (L.take (k + 1)) = cntR lo hi (L.take k) + ov L[k] lo hi := by
  rw [List.take_succ_eq_append_getElem h, cntR_append]; simp only [cntR]; omega
theorem cntR_take_le (L : List (Int × Int)) (k : Nat) (lo hi : Int) : cntR lo hi (L.take k) ≤ cntR lo hi L := by
  conv => rhs; rw [← List.take_append_drop k L, cntR_append]
  have := cntR_0 lo hi (L.drop k)
  omega
set_option maxHeartbeats 2000000 in
theorem ref18_held (w : World) (l : Nat) (hl : 1 ≤ l ∧ l ≤ 48) (A : Option Addr) (cap : Nat) (ids : List Int) (hS : Sl w w.heap.size encZ A ids) (hm : ids.length ≤ 65536) (hn : ∀ x ∈ ids, isNode l x = true) (lo hi : Int) (h0 : 0 ≤ lo) (h1 : lo ≤ hi + 1) (h2 : hi ≤ 281474976710656) :
    Calls Tryz.prog 79 #[.int .i64 l, .slice A ids.length cap, .int .i64 lo, .int .i64 hi] w fun e w' => e = .returned (.int .i64 (cntR lo hi (runsF l ids))) ∧ Below w.heap.size w w' := by
  have HS := Lib.hid hS
  have HJ := Lib.hid (fun W h => ref5_Join W l hl A cap ids h hm hn)
  have hrl := runsF_len l ids
  have hTl : (layR l (runsF l ids)).length ≤ 67108864 := by have := layR_len hl (runsF l ids); omega
  have hTn : ∀ t ∈ layR l (runsF l ids), isNode l t = true := by
    intro t ht
    obtain ⟨r, hr, ht⟩ := List.mem_flatMap.1 ht
    have := runsF_in hn r hr
    exact (of_tiles hl this.1 this.2.2).node t ht
  have HTN := Lib.hid hTn
  have hcnt := layR_cnt hl lo hi (runsF l ids) (runsF_in hn)
  have hup := (cnt_spec (runsF l ids) lo hi (runsF_apart hn).1 h1).2.1
  rw [← hcnt] at hup ⊢
  generalize layR l (runsF l ids) = T at *
  have hup' : ∀ k, cntR lo hi ((T.take k).map (ends2 l)) ≤ hi - lo + 1 := fun k => by
    rw [List.map_take]
    exact Int.le_trans (cntR_take_le _ k lo hi) hup
  have HU := Lib.hid hup'
  clear hS hn hTn hcnt hup hup' hl
  go_enter Tryz.func79, Tryz.ntmps79
  go_wp2_with fail
  refine (HJ.out _ HS.out).mono ?_
  rintro e w1 ⟨v, rfl, ho, hb1⟩
  obtain ⟨A1, c1, rfl, _, _, hS1, _⟩ := ho.form
  have S1 := Lib.hid hS1
  have B1 := Lib.hid hb1
  clear ho hS1 hb1 HJ HS
  go_wp2_with fail
  go_loopw [11, 12] (fun nv i wr => ∃ k : Nat, k ≤ T.length ∧ i = .int .i64 k ∧ nv = .int .i64 (cntR lo hi ((T.take k).map (ends2 l))) ∧ Below w1.heap.size w1 wr) (fun _ i _ => T.length - (intOf i).toNat)
  case atStart => exact ⟨0, Nat.zero_le _, rfl, rfl, Below.refl _ _⟩
  case round =>
    obtain ⟨k, hk, rfl, rfl, hB⟩ := hrel
    have hsz := hB.size
    have KB := Lib.hid hB
    have n0 := cntR_0 lo hi ((T.take k).map (ends2 l))
    have n1 := HU.out k
    by_cases hlt : k < T.length
    · obtain ⟨b1, o1, rfl, hb1, hc1⟩ := S1.out.at_ hlt
      have d1 := hc1 0 (.int .i64 T[k]) rfl
      simp only [Nat.mul_one, Nat.add_zero] at d1
      have e1 := (hB.cell (p := ⟨b1, o1 + k, none⟩) hb1).trans d1
      have lb1 : b1 < wr.heap.size := Nat.lt_of_lt_of_le hb1 hsz
      have hx := HTN.out _ (List.getElem_mem hlt)
      obtain ⟨m1, m2, m3⟩ := node_max hx
      have hl0 := lo_0 hx
      have hlh := lo_hi hx
      have HE := Lib.hid (fun W => ref2_Ends W l T[k] (by omega))
      rw [ends_node hx] at HE
      have ES : cntR lo hi ((T.take (k + 1)).map (ends2 l)) = cntR lo hi ((T.take k).map (ends2 l)) + ov (ends2 l T[k]) lo hi := by
        have := cntR_take (L := T.map (ends2 l)) (k := k) (by simpa using hlt) lo hi
        rw [← List.map_take, ← List.map_take] at this
        simpa using this
      have n2 := HU.out (k + 1)
      rw [ES] at n2
      have eov : ov (ends2 l T[k]) lo hi = max 0 (min (hiN l T[k]) hi - max (loN l T[k]) lo + 1) := rfl
      rw [eov] at ES n2
      generalize cntR lo hi ((T.take k).map (ends2 l)) = n at *
      generalize loN l T[k] = p at *
      generalize hiN l T[k] = q at *
      generalize T[k] = x at *
      have E1 := Lib.hid ES
      have N2 := Lib.hid n2
      clear hc1 d1 hx hB ES n2 eov
      rcases lt_or_dec p lo with c1 | c1
      · rcases lt_or_dec hi q with c2 | c2
        · rcases le_or_dec lo hi with c3 | c3
          all_goals (
            go_wp2_with fail
            refine (HE.out _).mono ?_
            rintro e w3 ⟨rfl, hb3⟩
            have B3 := Lib.hid (KB.out.trans (hb3.mono hsz))
            clear hb3
            have N3 := N2.out
            have z1 : n + hi ≤ 9223372036854775807 := by omega
            go_wp2_with fail
            go_roundw
            case rel => exact ⟨k + 1, by omega, by go_num, by rw [E1.out]; exact congrArg (Value.int .i64) (by (try simp only [decide_eq_false_iff_not] at c1 c2 c3); omega), B3.out⟩
            case measure => simp [intOf]; omega)
        · rcases le_or_dec lo q with c3 | c3
          all_goals (
            go_wp2_with fail
            refine (HE.out _).mono ?_
            rintro e w3 ⟨rfl, hb3⟩
            have B3 := Lib.hid (KB.out.trans (hb3.mono hsz))
            clear hb3
            have N3 := N2.out
            have z1 : n + q ≤ 9223372036854775807 := by omega
            go_wp2_with fail
            go_roundw
            case rel => exact ⟨k + 1, by omega, by go_num, by rw [E1.out]; exact congrArg (Value.int .i64) (by (try simp only [decide_eq_false_iff_not] at c1 c2 c3); omega), B3.out⟩
            case measure => simp [intOf]; omega)
      · rcases lt_or_dec hi q with c2 | c2
        · rcases le_or_dec p hi with c3 | c3
          all_goals (
            go_wp2_with fail
            refine (HE.out _).mono ?_
            rintro e w3 ⟨rfl, hb3⟩
            have B3 := Lib.hid (KB.out.trans (hb3.mono hsz))
            clear hb3
            have N3 := N2.out
            have z1 : n + hi ≤ 9223372036854775807 := by omega
            go_wp2_with fail
            go_roundw
            case rel => exact ⟨k + 1, by omega, by go_num, by rw [E1.out]; exact congrArg (Value.int .i64) (by (try simp only [decide_eq_false_iff_not] at c1 c2 c3); omega), B3.out⟩
            case measure => simp [intOf]; omega)
        · rcases le_or_dec p q with c3 | c3
          all_goals (
            go_wp2_with fail
            refine (HE.out _).mono ?_
            rintro e w3 ⟨rfl, hb3⟩
            have B3 := Lib.hid (KB.out.trans (hb3.mono hsz))
            clear hb3
            have N3 := N2.out
            have z1 : n + q ≤ 9223372036854775807 := by omega
            go_wp2_with fail
            go_roundw
            case rel => exact ⟨k + 1, by omega, by go_num, by rw [E1.out]; exact congrArg (Value.int .i64) (by (try simp only [decide_eq_false_iff_not] at c1 c2 c3); omega), B3.out⟩
            case measure => simp [intOf]; omega)
    · obtain rfl : k = T.length := by omega
      rw [List.take_length]
      go_wp2_with fail
      go_ret
      exact ⟨rfl, B1.out.trans (KB.out.mono B1.out.size)⟩
/-- What the reference's On looks at: a node's number of values that are held, or not. -/
def numN (l : Nat) (ids : List Int) (off : Bool) (x : Int) : Int := if off = true then hiN l x - loN l x + 1 - heldC l ids x else heldC l ids x
theorem refOn_num (l : Nat) (ids : List Int) (off : Bool) (r : List Nd) : refOn l ids off r = (wIds (fun x => decide (numN l ids off x = hiN l x - loN l x + 1)) r, wIds (fun x => decide (0 < numN l ids off x)) r) := rfl
theorem ref18_On_no (w : World) (k : Int) (l : Nat) (hl : 1 ≤ l ∧ l ≤ 48) (A : Option Addr) (cap : Nat) (r : List Nd) (Ai : Option Addr) (capi : Nat) (ids : List Int) (off : Bool) (hSi : Sl w w.heap.size encZ Ai ids) (hIi : ∀ x ∈ ids, i64 x) (hmi : ids.length ≤ 67108864) (hall : ids.all (isNode l) = false) :
    Calls Tryz.prog 23 #[.agg #[.int .i64 k, .int .i64 l, .slice A r.length cap], .slice Ai ids.length capi, .bool off] w fun e w' => e = .returned (bothV (onV l ids off r)) ∧ Below w.heap.size w w' := by
  rw [onV_no hall]
  have HS := Lib.hid hSi
  have HA := Lib.hid hall
  have HI := Lib.hid hIi
  clear hSi hall hIi hl
  go_enter Tryz.func23, Tryz.ntmps23
  go_wp2_with fail
  have K1 := Lib.hid ((bothAt.new (w.alloc (.cells #[.int .i64 k, .int .i64 l, .slice A r.length cap] 57)) 0 0).alloc (.cells #[.int .i64 0, .int .i64 0] 51))
  have K2 := Lib.hid (bothAt.new ((w.alloc (.cells #[.int .i64 k, .int .i64 l, .slice A r.length cap] 57)).alloc (.cells #[.int .i64 0, .int .i64 0] 51)) 0 0)
  simp only [World.size_alloc] at K1 K2
  go_loopw [10] (fun i wr => ∃ q : Nat, q ≤ ids.length ∧ i = .int .i64 q ∧ (ids.take q).all (isNode l) = true ∧ bothAt wr (w.heap.size + 1) 0 0 ∧ bothAt wr (w.heap.size + 1 + 1) 0 0 ∧ Below w.heap.size w wr) (fun i _ => ids.length - (intOf i).toNat)
  case atStart => exact ⟨0, Nat.zero_le _, rfl, by simp, K1.out, K2.out, (by repeat (first | with_reducible exact Below.refl _ _ | with_reducible assumption | ((with_reducible refine Below.setCell ?_ ?_ _); rotate_left; · (first | omega | exact Nat.le_refl _ | (simp <;> omega))) | (with_reducible refine Below.allocW ?_ _) | (with_reducible refine Below.drew ?_) | (with_reducible refine Below.extW ?_ _)))⟩
  case round =>
    obtain ⟨q, hq, rfl, ht, hm1, hm2, hB⟩ := hrel
    have hsz := hB.size
    have HT := Lib.hid ht
    have M1 := Lib.hid hm1
    have M2 := Lib.hid hm2
    have KB := Lib.hid hB
    clear ht hm1 hm2
    by_cases hlt : q < ids.length
    · obtain ⟨b1, o1, rfl, hb1, hc1⟩ := HS.out.at_ hlt
      have d1 := hc1 0 (.int .i64 ids[q]) rfl
      simp only [Nat.mul_one, Nat.add_zero] at d1
      have e1 := (hB.cell (p := ⟨b1, o1 + q, none⟩) hb1).trans d1
      have lb1 : b1 < wr.heap.size := Nat.lt_of_lt_of_le hb1 hsz
      have hx := (HI.out _ (List.getElem_mem hlt)).2
      have HR := Lib.hid (fun W => ref2_Right W l ids[q] hx)
      have HN := Lib.hid (fun (h : isNode l ids[q] = true) => all_take hlt HT.out h)
      generalize ids[q] = x at e1 hx HR HN
      clear hc1 d1 hB
      cases hN : isNode l x
      · go_wp2_with fail
        refine (HR.out _).mono ?_
        rintro e w3 ⟨rfl, hb3⟩
        rw [hN]
        have N1 := Lib.hid (M1.out.below hb3)
        have N2 := Lib.hid (M2.out.below hb3)
        have B3 := Lib.hid (KB.out.trans (hb3.mono hsz))
        have c1 := blk_cell N1.out
        have f1 := blk_frozen N1.out
        have z1 := lt_of_block N1.out
        have c2 := blk_cell N2.out
        have z2 := lt_of_block N2.out
        clear hb3
        go_wp2_with fail
        exact bodyPost_ret (v := .tuple #[.agg #[.int .i64 0, .int .i64 0], .int .i64 2]) (by simp only [results, Tryz.results23]; go_simp) rfl ⟨rfl, (B3.out.setCell (p := ⟨w.heap.size + 1, 0, none⟩) (by simp only; omega) _).setCell (p := ⟨w.heap.size + 1, 1, none⟩) (by simp only; omega) _⟩
      · have E := Lib.hid (HN.out hN)
        go_wp2_with fail
        refine (HR.out _).mono ?_
        rintro e w3 ⟨rfl, hb3⟩
        rw [hN]
        have N1 := Lib.hid (M1.out.below hb3)
        have N2 := Lib.hid (M2.out.below hb3)
        have B3 := Lib.hid (KB.out.trans (hb3.mono hsz))
        clear hb3
        go_wp2_with fail
        go_roundw
        case rel => exact ⟨q + 1, by omega, by go_num, E.out, N1.out, N2.out, B3.out⟩
        case measure => simp [intOf]; omega
    · obtain rfl : q = ids.length := by omega
      exfalso
      have := HT.out
      rw [List.take_length, HA.out] at this
      cases this
end Go.Proofs.YtmadmlkmdnjmaaaGreat
/- The reference of layer 18 (reach): On. -/
namespace Go.Proofs.YtmadmlkmdnjmaaaGreat
open Go.ChangeShapes Go.WideShapes Go.ChangeAt Go.RowKit
set_option linter.unusedVariables false
set_option linter.unusedSimpArgs false
set_option maxRecDepth 100000

theorem drewH (W : World) : W.drew.heap = W.heap := rfl
/-- Where On stands in its second loop. -/
structure OnW (w : World) (k : Int) (l : Nat) (A : Option Addr) (n cap : Nat) (lo hi : Int) (W : World) : Prop where
  d : W.heap[w.heap.size]? = some (.cells #[.int .i64 k, .int .i64 l, .slice A n cap] 57 (0, 0))
  o : bothAt W (w.heap.size + 1) 0 0
  v : bothAt W (w.heap.size + 1 + 1) lo hi
  blw : Below w.heap.size w W
section
variable {w : World} {k : Int} {l : Nat} {A : Option Addr} {n cap : Nat} {lo hi : Int} {W W' : World}
theorem OnW.below (h : OnW w k l A n cap lo hi W) (hb : Below W.heap.size W W') : OnW w k l A n cap lo hi W' := ⟨blk_below h.d hb, h.o.below hb, h.v.below hb, h.blw.trans (hb.mono h.blw.size)⟩
theorem OnW.set0 (h : OnW w k l A n cap lo hi W) (x : Int) : OnW w k l A n cap x hi (W.setCell ⟨w.heap.size + 1 + 1, 0, none⟩ (.int .i64 x)) :=
  ⟨(Below.heap_setCell _ _ _ _ (by simp only; omega)).trans h.d, h.o.set (by omega) _, h.v.set0 x, h.blw.setCell (p := ⟨w.heap.size + 1 + 1, 0, none⟩) (by simp only; omega) _⟩
theorem OnW.set1 (h : OnW w k l A n cap lo hi W) (x : Int) : OnW w k l A n cap lo x (W.setCell ⟨w.heap.size + 1 + 1, 1, none⟩ (.int .i64 x)) :=
  ⟨(Below.heap_setCell _ _ _ _ (by simp only; omega)).trans h.d, h.o.set (by omega) _, h.v.set1 x, h.blw.setCell (p := ⟨w.heap.size + 1 + 1, 1, none⟩) (by simp only; omega) _⟩
theorem OnW.drew (h : OnW w k l A n cap lo hi W) : OnW w k l A n cap lo hi W.drew := ⟨h.d, h.o, h.v, h.blw.drew⟩
end
set_option maxHeartbeats 8000000 in
theorem ref18_On_yes (w : World) (k : Int) (l : Nat) (hl : 1 ≤ l ∧ l ≤ 48) (A : Option Addr) (cap : Nat) (r : List Nd) (Ai : Option Addr) (capi : Nat) (ids : List Int) (off : Bool) (hS : Sl w w.heap.size encN A r) (hm : r.length ≤ 67108864) (hr : Roll r) (hs : sumR r ≤ 72057594037927935) (hrn : ∀ x ∈ r, isNode l x.1 = true)
    (hSi : Sl w w.heap.size encZ Ai ids) (hmi : ids.length ≤ 65536) (hn : ∀ x ∈ ids, isNode l x = true) :
    Calls Tryz.prog 23 #[.agg #[.int .i64 k, .int .i64 l, .slice A r.length cap], .slice Ai ids.length capi, .bool off] w fun e w' => e = .returned (bothV (onV l ids off r)) ∧ Below w.heap.size w w' := by
  rw [onV_yes (List.all_eq_true.2 hn), refOn_num]
  have HS := Lib.hid hSi
  have HSr := Lib.hid hS
  have HN := Lib.hid hn
  have HRN := Lib.hid hrn
  have HH := Lib.hid (fun W lo hi (h : Sl W W.heap.size encZ Ai ids) h0 h1 h2 => ref18_held W l hl Ai capi ids h hmi hn lo hi h0 h1 h2)
  have HHS := Lib.hid (fun x (hx : isNode l x = true) => heldC_spec hn hx)
  obtain ⟨P, hP⟩ : ∃ P : Int → Bool, P = fun x => decide (numN l ids off x = hiN l x - loN l x + 1) := ⟨_, rfl⟩
  obtain ⟨Q, hQ⟩ : ∃ Q : Int → Bool, Q = fun x => decide (0 < numN l ids off x) := ⟨_, rfl⟩
  rw [← hP, ← hQ]
  have HP := Lib.hid hP
  have HQ := Lib.hid hQ
  have pw := pow_48 (n := l) hl.2
  clear hSi hS hn hrn hl hP hQ
  go_enter Tryz.func23, Tryz.ntmps23
  go_wp2_with fail
  have K0 : Hid ((((w.alloc (.cells #[.int .i64 k, .int .i64 l, .slice A r.length cap] 57)).alloc (.cells #[.int .i64 0, .int .i64 0] 51)).alloc (.cells #[.int .i64 0, .int .i64 0] 51)).heap[w.heap.size]? = some (.cells #[.int .i64 k, .int .i64 l, .slice A r.length cap] 57 (0, 0))) := Lib.hid (by
    rw [Below.heap_alloc _ _ _ (by simp; omega), Below.heap_alloc _ _ _ (by simp)]; exact heap_alloc_new _ _)
  have K1 := Lib.hid ((bothAt.new (w.alloc (.cells #[.int .i64 k, .int .i64 l, .slice A r.length cap] 57)) 0 0).alloc (.cells #[.int .i64 0, .int .i64 0] 51))
  have K2 := Lib.hid (bothAt.new ((w.alloc (.cells #[.int .i64 k, .int .i64 l, .slice A r.length cap] 57)).alloc (.cells #[.int .i64 0, .int .i64 0] 51)) 0 0)
  simp only [World.size_alloc] at K1 K2
  go_loopw [10] (fun i wr => ∃ q : Nat, q ≤ ids.length ∧ i = .int .i64 q ∧ OnW w k l A r.length cap 0 0 wr) (fun i _ => ids.length - (intOf i).toNat)
  case atStart => exact ⟨0, Nat.zero_le _, rfl, K0.out, K1.out, K2.out, (by repeat (first | with_reducible exact Below.refl _ _ | with_reducible assumption | ((with_reducible refine Below.setCell ?_ ?_ _); rotate_left; · (first | omega | exact Nat.le_refl _ | (simp <;> omega))) | (with_reducible refine Below.allocW ?_ _) | (with_reducible refine Below.drew ?_) | (with_reducible refine Below.extW ?_ _)))⟩
  case round =>
    obtain ⟨q, hq, rfl, hW⟩ := hrel
    have hsz := hW.blw.size
    have KW := Lib.hid hW
    by_cases hlt : q < ids.length
    · obtain ⟨b1, o1, rfl, hb1, hc1⟩ := HS.out.at_ hlt
      have d1 := hc1 0 (.int .i64 ids[q]) rfl
      simp only [Nat.mul_one, Nat.add_zero] at d1
      have e1 := (hW.blw.cell (p := ⟨b1, o1 + q, none⟩) hb1).trans d1
      have lb1 : b1 < wr.heap.size := Nat.lt_of_lt_of_le hb1 hsz
      have hN := HN.out _ (List.getElem_mem hlt)
      have hx := (node_max hN).2.1
      have HR := Lib.hid (fun W => ref2_Right W l ids[q] (by omega))
      rw [hN] at HR
      generalize ids[q] = x at e1 hx HR
      clear hc1 d1 hW hN
      go_wp2_with fail
      refine (HR.out _).mono ?_
      rintro e w3 ⟨rfl, hb3⟩
      have W3 := Lib.hid (KW.out.below hb3)
      clear hb3
      go_wp2_with fail
      go_roundw
      case rel => exact ⟨q + 1, by omega, by go_num, W3.out⟩
      case measure => simp [intOf]; omega
    · obtain rfl : q = ids.length := by omega
      obtain ⟨wq, hwq⟩ : ∃ W, W = wr := ⟨_, rfl⟩
      subst hwq
      clear K0 K1 K2
      go_wp2_with fail
      go_loopw [11] (fun i wr => ∃ j : Nat, j ≤ r.length ∧ i = .int .i64 j ∧ OnW w k l A r.length cap (wIds P (r.take j)) (wIds Q (r.take j)) wr) (fun i _ => r.length - (intOf i).toNat)
      case atStart => exact ⟨0, Nat.zero_le _, rfl, KW.out⟩
      case round =>
        obtain ⟨j, hj, rfl, hW2⟩ := hrel
        have hszr := hW2.blw.size
        have KV := Lib.hid hW2
        have cd := blk_cell hW2.d
        have zd := lt_of_block hW2.d
        by_cases hlt : j < r.length
        · obtain ⟨c, off1, rfl, hc, hcl⟩ := HSr.out.at_ hlt
          have d0 := hcl 0 (.int .i64 r[j].1) rfl
          have d1 := hcl 1 (.int .i64 r[j].2) rfl
          simp only [Nat.add_zero] at d0
          have D01 := Lib.hid (And.intro d0 d1)
          have e0 := (hW2.blw.cell (p := ⟨c, off1 + j * 2, none⟩) hc).trans d0
          have zc : c < wr.heap.size := by omega
          have hx := hr.2 _ (List.getElem_mem hlt)
          have hxn := HRN.out _ (List.getElem_mem hlt)
          obtain ⟨m1, m2, m3⟩ := node_max hxn
          have g0 := lo_0 hxn
          have g1 := lo_hi hxn
          have hsp := HHS.out _ hxn
          have hs0 := hsp.1
          have hs1 := hsp.2.1
          have s1 := sumR_take_succ hlt
          have s2 := sumR_take_le hr (j + 1)
          have s5 := wIds_rng (f := P) (hr.take j)
          have s6 := wIds_rng (f := Q) (hr.take j)
          have E7 : wIds P (r.take (j + 1)) = _ := wIds_take hlt
          have E8 : wIds Q (r.take (j + 1)) = _ := wIds_take hlt
          have HE := Lib.hid (fun W => ref2_Ends W l r[j].1 (by omega))
          rw [ends_node hxn] at HE
          have HHd := Lib.hid (fun W h => HH.out W (loN l r[j].1) (hiN l r[j].1) h g0 (by omega) m3)
          have eh : heldC l ids r[j].1 = cntR (loN l r[j].1) (hiN l r[j].1) (runsF l ids) := rfl
          rw [← eh] at HHd
          have eP : P r[j].1 = decide (numN l ids off r[j].1 = hiN l r[j].1 - loN l r[j].1 + 1) := by rw [HP.out]
          have eQ : Q r[j].1 = decide (0 < numN l ids off r[j].1) := by rw [HQ.out]
          unfold numN at eP eQ
          obtain ⟨x, hxe⟩ : ∃ x, x = r[j] := ⟨_, rfl⟩
          rw [← hxe] at e0 D01 hx s1 E7 E8 HE HHd eP eQ hs0 hs1 g1 g0 m3
          have n2 : wIds P (r.take j) + x.2 ≤ 72057594037927935 := by omega
          have n3 : wIds Q (r.take j) + x.2 ≤ 72057594037927935 := by omega
          have n0 := s5.1
          have n1 := s6.1
          have hx2 := hx.2
          generalize wIds P (r.take j) = m at n0 n2 E7 KV
          generalize wIds Q (r.take j) = n at n1 n3 E8 KV
          generalize heldC l ids x.1 = h at *
          generalize loN l x.1 = lo at *
          generalize hiN l x.1 = hi at *
          generalize P x.1 = bp at *
          generalize Q x.1 = bq at *
          have E7 := Lib.hid E7
          have E8 := Lib.hid E8
          have EP := Lib.hid eP
          have EQ := Lib.hid eQ
          clear hcl d0 d1 s1 s2 s5 s6 hxe hx hxn hsp eh eP eQ hW2
          go_wp2_with fail
          refine (HE.out _).mono ?_
          rintro e w5 ⟨rfl, hb5⟩
          have V5 := Lib.hid (KV.out.below hb5)
          clear hb5 cd zd e0 zc
          go_upto_region 13 with fail
          have S5 := Lib.hid (HS.out.keep (B' := w5.heap.size) V5.out.blw.size fun p hp => V5.out.blw.cell hp)
          go_wp2_with fail
          refine (HHd.out _ S5.out).mono ?_
          rintro e w6 ⟨rfl, hb6⟩
          have V6 := Lib.hid (V5.out.below hb6)
          clear hb6 S5
          have d1w := (V6.out.blw.cell (p := ⟨c, off1 + j * 2 + 1, none⟩) hc).trans D01.out.2
          have zc := lt_of_cell d1w
          have cd := blk_cell V6.out.d
          have zd := lt_of_block V6.out.d
          have cc := blk_cell V6.out.v
          have cf := blk_frozen V6.out.v
          have zz := lt_of_block V6.out.v
          have EP' := EP.out
          have EQ' := EQ.out
          clear EP EQ
          cases off
          all_goals simp only [Bool.false_eq_true, if_false, if_true, reduceIte] at EP' EQ'
          · go_upto_region 16 with fail
            generalize hi - lo + 1 = a at EP' EQ' ⊢
            obtain ⟨N, hN⟩ : ∃ N, N = h := ⟨_, rfl⟩
            rw [← hN] at EP' EQ' ⊢
            have EP2 : bp = (N == a) := by rw [EP']; rfl
            have HEP := Lib.hid EP2
            have HEQ := Lib.hid EQ'
            clear EP' EQ' EP2 hN hs0 hs1
            cases hb : (N == a)
            all_goals rcases lt_or_dec 0 N with hq2 | hq2
            all_goals (
              have hbp := HEP.out
              rw [hb] at hbp
              have hbq := HEQ.out
              have F7 := E7.out
              have F8 := E8.out
              simp only [hbp, Bool.false_eq_true, if_false, if_true, reduceIte, Int.add_zero] at F7
              first
                | (simp only [hq2] at hbq; simp only [hbq, Bool.false_eq_true, if_false, if_true, reduceIte, Int.add_zero] at F8)
                | (simp only [hq2, decide_true] at hbq; simp only [hbq, Bool.false_eq_true, if_false, if_true, reduceIte, Int.add_zero] at F8)
              have f7 := Lib.hid F7
              have f8 := Lib.hid F8
              clear F7 F8 hbp hbq
              go_wp2_with fail
              try (go_region; go_wp2_with fail)
              try (go_region; go_wp2_with fail)
              go_roundw
              case rel =>
                refine ⟨j + 1, by omega, by go_num, ?_⟩
                rw [f7.out, f8.out]
                first
                  | exact V6.out
                  | exact (V6.out.set0 _).drew
                  | exact (V6.out.set1 _).drew
                  | exact ((V6.out.set0 _).set1 _).drew.drew
              case measure => simp [intOf]; omega)
          · go_upto_region 16 with fail
            generalize hN : hi - lo + 1 - h = N at EP' EQ' ⊢
            generalize hi - lo + 1 = a at EP' EQ' ⊢
            have EP2 : bp = (N == a) := by rw [EP']; rfl
            have HEP := Lib.hid EP2
            have HEQ := Lib.hid EQ'
            clear EP' EQ' EP2 hN hs0 hs1
            cases hb : (N == a)
            all_goals rcases lt_or_dec 0 N with hq2 | hq2
            all_goals (
              have hbp := HEP.out
              rw [hb] at hbp
              have hbq := HEQ.out
              have F7 := E7.out
              have F8 := E8.out
              simp only [hbp, Bool.false_eq_true, if_false, if_true, reduceIte, Int.add_zero] at F7
              first
                | (simp only [hq2] at hbq; simp only [hbq, Bool.false_eq_true, if_false, if_true, reduceIte, Int.add_zero] at F8)
                | (simp only [hq2, decide_true] at hbq; simp only [hbq, Bool.false_eq_true, if_false, if_true, reduceIte, Int.add_zero] at F8)
              have f7 := Lib.hid F7
              have f8 := Lib.hid F8
              clear F7 F8 hbp hbq
              go_wp2_with fail
              try (go_region; go_wp2_with fail)
              try (go_region; go_wp2_with fail)
              go_roundw
              case rel =>
                refine ⟨j + 1, by omega, by go_num, ?_⟩
                rw [f7.out, f8.out]
                first
                  | exact V6.out
                  | exact (V6.out.set0 _).drew
                  | exact (V6.out.set1 _).drew
                  | exact ((V6.out.set0 _).set1 _).drew.drew
              case measure => simp [intOf]; omega)
        · obtain rfl : j = r.length := by omega
          rw [List.take_length] at KV
          have c1 := blk_cell KV.out.o
          have f1 := blk_frozen KV.out.o
          have z1 := lt_of_block KV.out.o
          have c2 := blk_cell KV.out.v
          have z2 := lt_of_block KV.out.v
          have BW := KV.out.blw
          clear hW2
          go_wp2_with fail
          exact bodyPost_ret (v := .tuple #[.agg #[.int .i64 (wIds P r), .int .i64 (wIds Q r)], .int .i64 0]) (by simp only [results, Tryz.results23]; go_simp) rfl ⟨rfl, (by repeat (first | with_reducible exact Below.refl _ _ | with_reducible assumption | ((with_reducible refine Below.setCell ?_ ?_ _); rotate_left; · (first | omega | exact Nat.le_refl _ | (simp <;> omega))) | (with_reducible refine Below.allocW ?_ _) | (with_reducible refine Below.drew ?_) | (with_reducible refine Below.extW ?_ _)))⟩
end Go.Proofs.YtmadmlkmdnjmaaaGreat
/- Chapter 18's example. -/
namespace Go.Proofs.YtmadmlkmdnjmaaaGreat
open Go.ChangeShapes Go.WideShapes Go.ChangeAt Go.RowKit
set_option linter.unusedVariables false
set_option maxRecDepth 100000

theorem betw18_a : betw ((2 : Nat) : Int) nodes16 0 2 = (2, 3, 0) := by decide +kernel
theorem betw18_b : betw ((2 : Nat) : Int) nodes16 1 2 = (0, 1, 0) := by decide +kernel
theorem betw18_c : betw ((2 : Nat) : Int) nodes16 3 3 = (3, 4, 0) := by decide +kernel
theorem alive18 (w : World) : Calls Tryz.prog 22 #[] w fun e w' => e = .returned (.bool true) ∧ Below w.heap.size w w' := by
  have HS := Lib.hid (sl_lit w encN nodes16 116 _ rfl)
  have HC := Lib.hid (digest_Load · 2 2 4 (some ⟨w.heap.size, 0, none⟩) 3 nodes16 load16 · nodes16_ints (by decide))
  go_enter Tryz.func22, Tryz.ntmps22
  go_wp2_with fail
  refine (HC.out _ (HS.out.keep (by simp) fun p hp => rfl)).mono ?_
  rintro e w1 ⟨g, F, rfl, hD, _, hb1⟩
  have B1 : Below w.heap.size w w1 := Below.then_ (by repeat (first | with_reducible exact Below.refl _ _ | with_reducible assumption | ((with_reducible refine Below.setCell ?_ ?_ _); rotate_left; · (first | omega | exact Nat.le_refl _ | (simp <;> omega))) | (with_reducible refine Below.allocW ?_ _) | (with_reducible refine Below.drew ?_) | (with_reducible refine Below.extW ?_ _))) hb1
  have s1 : w.heap.size ≤ w1.heap.size := B1.size
  have KD := Lib.hid hD
  have HB := Lib.hid (fun (a b : Int) (w : World) h => reach_Between w g 2 2 4 nodes16 F a b h (by decide))
  clear hD
  go_wp2_with fail
  refine (HB.out 0 2 _ KD.out).mono ?_
  rintro e w2 ⟨rfl, hb2⟩
  have B2 : Below w.heap.size w w2 := Below.then_ (by repeat (first | with_reducible exact Below.refl _ _ | with_reducible assumption | ((with_reducible refine Below.setCell ?_ ?_ _); rotate_left; · (first | omega | exact Nat.le_refl _ | (simp <;> omega))) | (with_reducible refine Below.allocW ?_ _) | (with_reducible refine Below.drew ?_) | (with_reducible refine Below.extW ?_ _))) hb2
  have s2 : w.heap.size ≤ w2.heap.size := B2.size
  rw [betw18_a]
  unfold bothV
  have KD2 := Lib.hid ((KD.out.below hb2).alloc (.cells #[.int .i64 2, .int .i64 3] 51))
  go_wp2_with fail
  refine (HB.out 1 2 _ KD2.out).mono ?_
  rintro e w3 ⟨rfl, hb3⟩
  have B3 : Below w.heap.size w w3 := Below.then_ (by repeat (first | with_reducible exact Below.refl _ _ | with_reducible assumption | ((with_reducible refine Below.setCell ?_ ?_ _); rotate_left; · (first | omega | exact Nat.le_refl _ | (simp <;> omega))) | (with_reducible refine Below.allocW ?_ _) | (with_reducible refine Below.drew ?_) | (with_reducible refine Below.extW ?_ _))) hb3
  have s3 : w.heap.size ≤ w3.heap.size := B3.size
  have z3_0 : w2.heap.size < w3.heap.size := by have := hb3.size; (try simp at this); omega
  have y3_0 : w2.heap.size ≤ w3.heap.size := Nat.le_of_lt z3_0
  have c3_0 := fun o => hb3.cell (p := ⟨w2.heap.size, o, none⟩) (by first | omega | (simp <;> omega))
  have f3_0 := fun o => hb3.frozen (p := ⟨w2.heap.size, o, none⟩) (by first | omega | (simp <;> omega))
  rw [betw18_b]
  unfold bothV
  have KD3 := Lib.hid ((KD2.out.below hb3).alloc (.cells #[.int .i64 0, .int .i64 1] 51))
  go_wp2_with fail
  refine (HB.out 3 3 _ KD3.out).mono ?_
  rintro e w4 ⟨rfl, hb4⟩
  have B4 : Below w.heap.size w w4 := Below.then_ (by repeat (first | with_reducible exact Below.refl _ _ | with_reducible assumption | ((with_reducible refine Below.setCell ?_ ?_ _); rotate_left; · (first | omega | exact Nat.le_refl _ | (simp <;> omega))) | (with_reducible refine Below.allocW ?_ _) | (with_reducible refine Below.drew ?_) | (with_reducible refine Below.extW ?_ _))) hb4
  have s4 : w.heap.size ≤ w4.heap.size := B4.size
  have z4_0 : w2.heap.size < w4.heap.size := by have := hb4.size; (try simp at this); omega
  have y4_0 : w2.heap.size ≤ w4.heap.size := Nat.le_of_lt z4_0
  have c4_0 := fun o => hb4.cell (p := ⟨w2.heap.size, o, none⟩) (by first | omega | (simp <;> omega))
  have f4_0 := fun o => hb4.frozen (p := ⟨w2.heap.size, o, none⟩) (by first | omega | (simp <;> omega))
  have z4_1 : w3.heap.size < w4.heap.size := by have := hb4.size; (try simp at this); omega
  have y4_1 : w3.heap.size ≤ w4.heap.size := Nat.le_of_lt z4_1
  have c4_1 := fun o => hb4.cell (p := ⟨w3.heap.size, o, none⟩) (by first | omega | (simp <;> omega))
  have f4_1 := fun o => hb4.frozen (p := ⟨w3.heap.size, o, none⟩) (by first | omega | (simp <;> omega))
  rw [betw18_c]
  unfold bothV
  go_wp2_with fail
  go_ret
  exact ⟨rfl, (by repeat (first | with_reducible exact Below.refl _ _ | with_reducible assumption | ((with_reducible refine Below.setCell ?_ ?_ _); rotate_left; · (first | omega | exact Nat.le_refl _ | (simp <;> omega))) | (with_reducible refine Below.allocW ?_ _) | (with_reducible refine Below.drew ?_) | (with_reducible refine Below.extW ?_ _)))⟩
end Go.Proofs.YtmadmlkmdnjmaaaGreat
/- A list of ints that came in. -/
namespace Go.Proofs.YtmadmlkmdnjmaaaGreat
open Go.ChangeShapes Go.WideShapes Go.ChangeAt Go.RowKit
set_option linter.unusedVariables false
set_option maxRecDepth 100000

/-- A list of ints that came in. -/
theorem open_Ints {H : Type} {enc : TypeId × Value → H} {w : World} {base : Nat} {spare : Nat → Bool} {held : Bool} {r : Reach} {b0 : Nat} {v : Value} {d : DataW H} {p : List MemPlace}
    (hv : Value.okWide Tryz.prog w r b0 49 v) (h : DataW.Trod enc Tryz.prog w base spare held 49 v d p) :
    ∃ (ks : List Int) (A : Option Addr) (cap : Nat), v = .slice A ks.length cap ∧ Sl w w.heap.size encZ A ks ∧ (∀ x ∈ ks, i64 x) ∧ ks.length ≤ maxLen := by
  obtain ⟨A, n, cap, rfl⟩ := okWide_slice Tryz.underlying49 hv
  obtain ⟨fuel, hf⟩ := h
  obtain ⟨l, A', cap', hc, rest⟩ := slice_of_trod encZ i64 Tryz.underlying49 (by kernel_rfl) (by decide) (fun fuel cs x h => by
    obtain ⟨k, e0, _, k0⟩ := DataW.trod_int Tryz.underlying3 h
    exact ⟨k, e0, i64_of_wf k0⟩) hf
  have hc' : Value.slice A n cap = .slice A' l.length cap' := by simpa [Value.cells] using hc
  rw [hc']
  exact ⟨l, A', cap', rfl, rest⟩
end Go.Proofs.YtmadmlkmdnjmaaaGreat
/- Chapter 18: what weighs on nodes: the law. -/
namespace Go.Proofs.YtmadmlkmdnjmaaaGreat
open Go.ChangeShapes Go.WideShapes Go.ChangeAt Go.RowKit
set_option linter.unusedVariables false
set_option linter.unusedSimpArgs false
set_option maxRecDepth 100000

theorem ref18_On (w : World) (k : Int) (l : Nat) (hl : 1 ≤ l ∧ l ≤ 48) (A : Option Addr) (cap : Nat) (r : List Nd) (Ai : Option Addr) (capi : Nat) (ids : List Int) (off : Bool) (hS : Sl w w.heap.size encN A r) (hm : r.length ≤ 67108864) (hr : Roll r) (hs : sumR r ≤ 72057594037927935) (hrn : ∀ x ∈ r, isNode l x.1 = true)
    (hSi : Sl w w.heap.size encZ Ai ids) (hIi : ∀ x ∈ ids, i64 x) (hmi : ids.length ≤ 65536) :
    Calls Tryz.prog 23 #[.agg #[.int .i64 k, .int .i64 l, .slice A r.length cap], .slice Ai ids.length capi, .bool off] w fun e w' => e = .returned (bothV (onV l ids off r)) ∧ Below w.heap.size w w' := by
  cases hall : ids.all (isNode l)
  · exact ref18_On_no w k l hl A cap r Ai capi ids off hSi hIi (by omega) hall
  · exact ref18_On_yes w k l hl A cap r Ai capi ids off hS hm hr hs hrn hSi hmi fun x hx => List.all_eq_true.1 hall x hx
theorem law_ReachOn_no (l k K : Int) (r : List Nd) (A : Option Addr) (cap : Nat) (ids : List Int) (Ai : Option Addr) (capi : Nat) (w : World) (h : ¬ goodL l k K r) (hS : Sl w w.heap.size encN A r) (hI : ints r) (hm : r.length ≤ maxLen) :
    Calls Tryz.prog 5 #[loadedV l k K A r.length cap, .slice Ai ids.length capi] w fun e w' => e = .returned (.bool true) ∧ Below w.heap.size w w' := by
  have HC := Lib.hid (law16_Load_no · l k K A cap r h · hI hm)
  have HS := Lib.hid hS
  clear h hS
  unfold loadedV refDig at HC
  unfold loadedV
  go_enter Tryz.func5, Tryz.ntmps5
  go_wp2_with fail
  refine (reach_On_nil _ _).mono ?_
  rintro e w1 ⟨rfl, hb1⟩
  have B1 : Below w.heap.size w w1 := Below.then_ (by repeat (first | with_reducible exact Below.refl _ _ | with_reducible assumption | ((with_reducible refine Below.setCell ?_ ?_ _); rotate_left; · (first | omega | exact Nat.le_refl _ | (simp <;> omega))) | (with_reducible refine Below.allocW ?_ _) | (with_reducible refine Below.drew ?_) | (with_reducible refine Below.extW ?_ _))) hb1
  have s1 : w.heap.size ≤ w1.heap.size := B1.size
  have z1_0 : w.heap.size < w1.heap.size := by have := hb1.size; (try simp at this); omega
  have y1_0 : w.heap.size ≤ w1.heap.size := Nat.le_of_lt z1_0
  have c1_0 := fun o => hb1.cell (p := ⟨w.heap.size, o, none⟩) (by first | omega | (simp <;> omega))
  have f1_0 := fun o => hb1.frozen (p := ⟨w.heap.size, o, none⟩) (by first | omega | (simp <;> omega))
  unfold bothV
  go_wp2_with fail
  refine (reach_Off_nil _ _).mono ?_
  rintro e w2 ⟨rfl, hb2⟩
  have B2 : Below w.heap.size w w2 := Below.then_ (by repeat (first | with_reducible exact Below.refl _ _ | with_reducible assumption | ((with_reducible refine Below.setCell ?_ ?_ _); rotate_left; · (first | omega | exact Nat.le_refl _ | (simp <;> omega))) | (with_reducible refine Below.allocW ?_ _) | (with_reducible refine Below.drew ?_) | (with_reducible refine Below.extW ?_ _))) hb2
  have s2 : w.heap.size ≤ w2.heap.size := B2.size
  have z2_0 : w.heap.size < w2.heap.size := by have := hb2.size; (try simp at this); omega
  have y2_0 : w.heap.size ≤ w2.heap.size := Nat.le_of_lt z2_0
  have c2_0 := fun o => hb2.cell (p := ⟨w.heap.size, o, none⟩) (by first | omega | (simp <;> omega))
  have f2_0 := fun o => hb2.frozen (p := ⟨w.heap.size, o, none⟩) (by first | omega | (simp <;> omega))
  unfold bothV
  have BA : Below w.heap.size w (w2.alloc (.cells #[.int .i64 0, .int .i64 0] 51)) := (by repeat (first | with_reducible exact Below.refl _ _ | with_reducible assumption | ((with_reducible refine Below.setCell ?_ ?_ _); rotate_left; · (first | omega | exact Nat.le_refl _ | (simp <;> omega))) | (with_reducible refine Below.allocW ?_ _) | (with_reducible refine Below.drew ?_) | (with_reducible refine Below.extW ?_ _)))
  have S2 := Lib.hid (HS.out.keep BA.size fun p hp => BA.cell hp)
  clear BA
  go_wp2_with fail
  refine (HC.out _ S2.out).mono ?_
  rintro e w3 ⟨rfl, hb3⟩
  have B3 : Below w.heap.size w w3 := Below.then_ (by repeat (first | with_reducible exact Below.refl _ _ | with_reducible assumption | ((with_reducible refine Below.setCell ?_ ?_ _); rotate_left; · (first | omega | exact Nat.le_refl _ | (simp <;> omega))) | (with_reducible refine Below.allocW ?_ _) | (with_reducible refine Below.drew ?_) | (with_reducible refine Below.extW ?_ _))) hb3
  have s3 : w.heap.size ≤ w3.heap.size := B3.size
  have z3_0 : w.heap.size < w3.heap.size := by have := hb3.size; (try simp at this); omega
  have y3_0 : w.heap.size ≤ w3.heap.size := Nat.le_of_lt z3_0
  have c3_0 := fun o => hb3.cell (p := ⟨w.heap.size, o, none⟩) (by first | omega | (simp <;> omega))
  have f3_0 := fun o => hb3.frozen (p := ⟨w.heap.size, o, none⟩) (by first | omega | (simp <;> omega))
  go_wp2_with fail
  refine (alive18 _).mono ?_
  rintro e w4 ⟨rfl, hb4⟩
  have B4 : Below w.heap.size w w4 := Below.then_ (by repeat (first | with_reducible exact Below.refl _ _ | with_reducible assumption | ((with_reducible refine Below.setCell ?_ ?_ _); rotate_left; · (first | omega | exact Nat.le_refl _ | (simp <;> omega))) | (with_reducible refine Below.allocW ?_ _) | (with_reducible refine Below.drew ?_) | (with_reducible refine Below.extW ?_ _))) hb4
  have s4 : w.heap.size ≤ w4.heap.size := B4.size
  go_wp2_with fail
  go_ret
  exact ⟨rfl, (by repeat (first | with_reducible exact Below.refl _ _ | with_reducible assumption | ((with_reducible refine Below.setCell ?_ ?_ _); rotate_left; · (first | omega | exact Nat.le_refl _ | (simp <;> omega))) | (with_reducible refine Below.allocW ?_ _) | (with_reducible refine Below.drew ?_) | (with_reducible refine Below.extW ?_ _)))⟩
set_option maxHeartbeats 4000000 in
theorem law_ReachOn_yes (l K : Nat) (k : Int) (r : List Nd) (A : Option Addr) (cap : Nat) (ids : List Int) (Ai : Option Addr) (capi : Nat) (w : World) (h : goodL l k K r) (hS : Sl w w.heap.size encN A r) (hI : ints r) (hSi : Sl w w.heap.size encZ Ai ids) (hIi : ∀ x ∈ ids, i64 x) (hmi : ids.length ≤ maxLen) :
    Calls Tryz.prog 5 #[loadedV l k K A r.length cap, .slice Ai ids.length capi] w fun e w' => e = .returned (.bool true) ∧ Below w.heap.size w w' := by
  have hn : r.length ≤ 67108864 := by have := h.1; omega
  have hr := (goodL_parts h.2.2).1
  have hf := right_fits hr
  have HC := Lib.hid (law16_Load · l K k A cap r h · hI)
  have HS := Lib.hid (And.intro hS hSi)
  by_cases h30 : ids.length ≤ 30
  · have HB := Lib.hid (fun g F (w : World) (h : DigAt w g K l k r F) hs => reach_On w g K l k r F Ai capi ids h hn hs (by omega) (hf.1.nodes h.l_le))
    have HSh := Lib.hid (fun g F (w : World) (h : DigAt w g K l k r F) hs => reach_Off w g K l k r F Ai capi ids h hn hs (by omega) (hf.1.nodes h.l_le))
    have RB := Lib.hid (fun (w : World) hl h1 h2 => ref18_On w k l hl A cap r Ai capi ids false h1 hn hf.1.roll hf.1.sum (hf.1.nodes hl) h2 hIi (by omega))
    have RS := Lib.hid (fun (w : World) hl h1 h2 => ref18_On w k l hl A cap r Ai capi ids true h1 hn hf.1.roll hf.1.sum (hf.1.nodes hl) h2 hIi (by omega))
    generalize onV l ids false r = t at HB RB
    generalize onV l ids true r = s at HSh RS
    obtain ⟨t1, t2, t3⟩ := t
    obtain ⟨q1, q2, q3⟩ := s
    unfold bothV at HB HSh RB RS
    have i30 : decide ((30 : Int) < (ids.length : Int)) = false := by simp; omega
    clear h hS hr hf hSi
    unfold loadedV refDig at HC
    unfold loadedV
    go_enter Tryz.func5, Tryz.ntmps5
    go_wp2_with fail
    refine (reach_On_nil _ _).mono ?_
    rintro e w1 ⟨rfl, hb1⟩
    have B1 : Below w.heap.size w w1 := Below.then_ (by repeat (first | with_reducible exact Below.refl _ _ | with_reducible assumption | ((with_reducible refine Below.setCell ?_ ?_ _); rotate_left; · (first | omega | exact Nat.le_refl _ | (simp <;> omega))) | (with_reducible refine Below.allocW ?_ _) | (with_reducible refine Below.drew ?_) | (with_reducible refine Below.extW ?_ _))) hb1
    have s1 : w.heap.size ≤ w1.heap.size := B1.size
    have z1_0 : w.heap.size < w1.heap.size := by have := hb1.size; (try simp at this); omega
    have y1_0 : w.heap.size ≤ w1.heap.size := Nat.le_of_lt z1_0
    have c1_0 := fun o => hb1.cell (p := ⟨w.heap.size, o, none⟩) (by first | omega | (simp <;> omega))
    have f1_0 := fun o => hb1.frozen (p := ⟨w.heap.size, o, none⟩) (by first | omega | (simp <;> omega))
    unfold bothV
    go_wp2_with fail
    refine (reach_Off_nil _ _).mono ?_
    rintro e w2 ⟨rfl, hb2⟩
    have B2 : Below w.heap.size w w2 := Below.then_ (by repeat (first | with_reducible exact Below.refl _ _ | with_reducible assumption | ((with_reducible refine Below.setCell ?_ ?_ _); rotate_left; · (first | omega | exact Nat.le_refl _ | (simp <;> omega))) | (with_reducible refine Below.allocW ?_ _) | (with_reducible refine Below.drew ?_) | (with_reducible refine Below.extW ?_ _))) hb2
    have s2 : w.heap.size ≤ w2.heap.size := B2.size
    have z2_0 : w.heap.size < w2.heap.size := by have := hb2.size; (try simp at this); omega
    have y2_0 : w.heap.size ≤ w2.heap.size := Nat.le_of_lt z2_0
    have c2_0 := fun o => hb2.cell (p := ⟨w.heap.size, o, none⟩) (by first | omega | (simp <;> omega))
    have f2_0 := fun o => hb2.frozen (p := ⟨w.heap.size, o, none⟩) (by first | omega | (simp <;> omega))
    unfold bothV
    have BA : Below w.heap.size w (w2.alloc (.cells #[.int .i64 0, .int .i64 0] 51)) := (by repeat (first | with_reducible exact Below.refl _ _ | with_reducible assumption | ((with_reducible refine Below.setCell ?_ ?_ _); rotate_left; · (first | omega | exact Nat.le_refl _ | (simp <;> omega))) | (with_reducible refine Below.allocW ?_ _) | (with_reducible refine Below.drew ?_) | (with_reducible refine Below.extW ?_ _)))
    have S2 := Lib.hid (HS.out.1.keep BA.size fun p hp => BA.cell hp)
    clear BA
    go_wp2_with fail
    refine (HC.out _ S2.out).mono ?_
    rintro e w3 ⟨g, F, rfl, hD, _, hb3⟩
    have B3 : Below w.heap.size w w3 := Below.then_ (by repeat (first | with_reducible exact Below.refl _ _ | with_reducible assumption | ((with_reducible refine Below.setCell ?_ ?_ _); rotate_left; · (first | omega | exact Nat.le_refl _ | (simp <;> omega))) | (with_reducible refine Below.allocW ?_ _) | (with_reducible refine Below.drew ?_) | (with_reducible refine Below.extW ?_ _))) hb3
    have s3 : w.heap.size ≤ w3.heap.size := B3.size
    have z3_0 : w.heap.size < w3.heap.size := by have := hb3.size; (try simp at this); omega
    have y3_0 : w.heap.size ≤ w3.heap.size := Nat.le_of_lt z3_0
    have c3_0 := fun o => hb3.cell (p := ⟨w.heap.size, o, none⟩) (by first | omega | (simp <;> omega))
    have f3_0 := fun o => hb3.frozen (p := ⟨w.heap.size, o, none⟩) (by first | omega | (simp <;> omega))
    have hl := hD.l_le
    have KD := Lib.hid (hD.alloc (.cells #[.int .i64 k, .int .i64 l, .slice A r.length cap] 57))
    have BA : Below w.heap.size w (w3.alloc (.cells #[.int .i64 k, .int .i64 l, .slice A r.length cap] 57)) := (by repeat (first | with_reducible exact Below.refl _ _ | with_reducible assumption | ((with_reducible refine Below.setCell ?_ ?_ _); rotate_left; · (first | omega | exact Nat.le_refl _ | (simp <;> omega))) | (with_reducible refine Below.allocW ?_ _) | (with_reducible refine Below.drew ?_) | (with_reducible refine Below.extW ?_ _)))
    have T3 := Lib.hid (HS.out.2.keep (B' := (w3.alloc (.cells #[.int .i64 k, .int .i64 l, .slice A r.length cap] 57)).heap.size) BA.size fun p hp => BA.cell hp)
    clear hD BA
    go_wp2_with fail
    refine (HB.out g F _ KD.out T3.out).mono ?_
    rintro e w4 ⟨rfl, hb4⟩
    have B4 : Below w.heap.size w w4 := Below.then_ (by repeat (first | with_reducible exact Below.refl _ _ | with_reducible assumption | ((with_reducible refine Below.setCell ?_ ?_ _); rotate_left; · (first | omega | exact Nat.le_refl _ | (simp <;> omega))) | (with_reducible refine Below.allocW ?_ _) | (with_reducible refine Below.drew ?_) | (with_reducible refine Below.extW ?_ _))) hb4
    have s4 : w.heap.size ≤ w4.heap.size := B4.size
    have z4_0 : w.heap.size < w4.heap.size := by have := hb4.size; (try simp at this); omega
    have y4_0 : w.heap.size ≤ w4.heap.size := Nat.le_of_lt z4_0
    have c4_0 := fun o => hb4.cell (p := ⟨w.heap.size, o, none⟩) (by first | omega | (simp <;> omega))
    have f4_0 := fun o => hb4.frozen (p := ⟨w.heap.size, o, none⟩) (by first | omega | (simp <;> omega))
    have z4_1 : w3.heap.size < w4.heap.size := by have := hb4.size; (try simp at this); omega
    have y4_1 : w3.heap.size ≤ w4.heap.size := Nat.le_of_lt z4_1
    have c4_1 := fun o => hb4.cell (p := ⟨w3.heap.size, o, none⟩) (by first | omega | (simp <;> omega))
    have f4_1 := fun o => hb4.frozen (p := ⟨w3.heap.size, o, none⟩) (by first | omega | (simp <;> omega))
    have KD4 := Lib.hid ((KD.out.below hb4).alloc (.cells #[.int .i64 t1, .int .i64 t2] 51))
    have BA : Below w.heap.size w (w4.alloc (.cells #[.int .i64 t1, .int .i64 t2] 51)) := (by repeat (first | with_reducible exact Below.refl _ _ | with_reducible assumption | ((with_reducible refine Below.setCell ?_ ?_ _); rotate_left; · (first | omega | exact Nat.le_refl _ | (simp <;> omega))) | (with_reducible refine Below.allocW ?_ _) | (with_reducible refine Below.drew ?_) | (with_reducible refine Below.extW ?_ _)))
    have S4 := Lib.hid (HS.out.1.keep BA.size fun p hp => BA.cell hp)
    have T4 := Lib.hid (HS.out.2.keep BA.size fun p hp => BA.cell hp)
    clear BA
    go_wp2_with fail
    refine (RB.out _ hl S4.out T4.out).mono ?_
    rintro e w5 ⟨rfl, hb5⟩
    have B5 : Below w.heap.size w w5 := Below.then_ (by repeat (first | with_reducible exact Below.refl _ _ | with_reducible assumption | ((with_reducible refine Below.setCell ?_ ?_ _); rotate_left; · (first | omega | exact Nat.le_refl _ | (simp <;> omega))) | (with_reducible refine Below.allocW ?_ _) | (with_reducible refine Below.drew ?_) | (with_reducible refine Below.extW ?_ _))) hb5
    have s5 : w.heap.size ≤ w5.heap.size := B5.size
    have z5_0 : w.heap.size < w5.heap.size := by have := hb5.size; (try simp at this); omega
    have y5_0 : w.heap.size ≤ w5.heap.size := Nat.le_of_lt z5_0
    have c5_0 := fun o => hb5.cell (p := ⟨w.heap.size, o, none⟩) (by first | omega | (simp <;> omega))
    have f5_0 := fun o => hb5.frozen (p := ⟨w.heap.size, o, none⟩) (by first | omega | (simp <;> omega))
    have z5_1 : w3.heap.size < w5.heap.size := by have := hb5.size; (try simp at this); omega
    have y5_1 : w3.heap.size ≤ w5.heap.size := Nat.le_of_lt z5_1
    have c5_1 := fun o => hb5.cell (p := ⟨w3.heap.size, o, none⟩) (by first | omega | (simp <;> omega))
    have f5_1 := fun o => hb5.frozen (p := ⟨w3.heap.size, o, none⟩) (by first | omega | (simp <;> omega))
    have z5_2 : w4.heap.size < w5.heap.size := by have := hb5.size; (try simp at this); omega
    have y5_2 : w4.heap.size ≤ w5.heap.size := Nat.le_of_lt z5_2
    have c5_2 := fun o => hb5.cell (p := ⟨w4.heap.size, o, none⟩) (by first | omega | (simp <;> omega))
    have f5_2 := fun o => hb5.frozen (p := ⟨w4.heap.size, o, none⟩) (by first | omega | (simp <;> omega))
    have KD5 := Lib.hid ((KD4.out.below hb5).alloc (.cells #[.int .i64 t1, .int .i64 t2] 51))
    have BA : Below w.heap.size w (w5.alloc (.cells #[.int .i64 t1, .int .i64 t2] 51)) := (by repeat (first | with_reducible exact Below.refl _ _ | with_reducible assumption | ((with_reducible refine Below.setCell ?_ ?_ _); rotate_left; · (first | omega | exact Nat.le_refl _ | (simp <;> omega))) | (with_reducible refine Below.allocW ?_ _) | (with_reducible refine Below.drew ?_) | (with_reducible refine Below.extW ?_ _)))
    have T5 := Lib.hid (HS.out.2.keep (B' := (w5.alloc (.cells #[.int .i64 t1, .int .i64 t2] 51)).heap.size) BA.size fun p hp => BA.cell hp)
    clear BA
    go_wp2_with fail
    refine (HSh.out g F _ KD5.out T5.out).mono ?_
    rintro e w6 ⟨rfl, hb6⟩
    have B6 : Below w.heap.size w w6 := Below.then_ (by repeat (first | with_reducible exact Below.refl _ _ | with_reducible assumption | ((with_reducible refine Below.setCell ?_ ?_ _); rotate_left; · (first | omega | exact Nat.le_refl _ | (simp <;> omega))) | (with_reducible refine Below.allocW ?_ _) | (with_reducible refine Below.drew ?_) | (with_reducible refine Below.extW ?_ _))) hb6
    have s6 : w.heap.size ≤ w6.heap.size := B6.size
    have z6_0 : w.heap.size < w6.heap.size := by have := hb6.size; (try simp at this); omega
    have y6_0 : w.heap.size ≤ w6.heap.size := Nat.le_of_lt z6_0
    have c6_0 := fun o => hb6.cell (p := ⟨w.heap.size, o, none⟩) (by first | omega | (simp <;> omega))
    have f6_0 := fun o => hb6.frozen (p := ⟨w.heap.size, o, none⟩) (by first | omega | (simp <;> omega))
    have z6_1 : w3.heap.size < w6.heap.size := by have := hb6.size; (try simp at this); omega
    have y6_1 : w3.heap.size ≤ w6.heap.size := Nat.le_of_lt z6_1
    have c6_1 := fun o => hb6.cell (p := ⟨w3.heap.size, o, none⟩) (by first | omega | (simp <;> omega))
    have f6_1 := fun o => hb6.frozen (p := ⟨w3.heap.size, o, none⟩) (by first | omega | (simp <;> omega))
    have z6_2 : w4.heap.size < w6.heap.size := by have := hb6.size; (try simp at this); omega
    have y6_2 : w4.heap.size ≤ w6.heap.size := Nat.le_of_lt z6_2
    have c6_2 := fun o => hb6.cell (p := ⟨w4.heap.size, o, none⟩) (by first | omega | (simp <;> omega))
    have f6_2 := fun o => hb6.frozen (p := ⟨w4.heap.size, o, none⟩) (by first | omega | (simp <;> omega))
    have z6_3 : w5.heap.size < w6.heap.size := by have := hb6.size; (try simp at this); omega
    have y6_3 : w5.heap.size ≤ w6.heap.size := Nat.le_of_lt z6_3
    have c6_3 := fun o => hb6.cell (p := ⟨w5.heap.size, o, none⟩) (by first | omega | (simp <;> omega))
    have f6_3 := fun o => hb6.frozen (p := ⟨w5.heap.size, o, none⟩) (by first | omega | (simp <;> omega))
    have BA : Below w.heap.size w (w6.alloc (.cells #[.int .i64 q1, .int .i64 q2] 51)) := (by repeat (first | with_reducible exact Below.refl _ _ | with_reducible assumption | ((with_reducible refine Below.setCell ?_ ?_ _); rotate_left; · (first | omega | exact Nat.le_refl _ | (simp <;> omega))) | (with_reducible refine Below.allocW ?_ _) | (with_reducible refine Below.drew ?_) | (with_reducible refine Below.extW ?_ _)))
    have S6 := Lib.hid (HS.out.1.keep BA.size fun p hp => BA.cell hp)
    have T6 := Lib.hid (HS.out.2.keep BA.size fun p hp => BA.cell hp)
    clear BA
    go_wp2_with fail
    refine (RS.out _ hl S6.out T6.out).mono ?_
    rintro e w7 ⟨rfl, hb7⟩
    have B7 : Below w.heap.size w w7 := Below.then_ (by repeat (first | with_reducible exact Below.refl _ _ | with_reducible assumption | ((with_reducible refine Below.setCell ?_ ?_ _); rotate_left; · (first | omega | exact Nat.le_refl _ | (simp <;> omega))) | (with_reducible refine Below.allocW ?_ _) | (with_reducible refine Below.drew ?_) | (with_reducible refine Below.extW ?_ _))) hb7
    have s7 : w.heap.size ≤ w7.heap.size := B7.size
    have z7_0 : w.heap.size < w7.heap.size := by have := hb7.size; (try simp at this); omega
    have y7_0 : w.heap.size ≤ w7.heap.size := Nat.le_of_lt z7_0
    have c7_0 := fun o => hb7.cell (p := ⟨w.heap.size, o, none⟩) (by first | omega | (simp <;> omega))
    have f7_0 := fun o => hb7.frozen (p := ⟨w.heap.size, o, none⟩) (by first | omega | (simp <;> omega))
    have z7_1 : w3.heap.size < w7.heap.size := by have := hb7.size; (try simp at this); omega
    have y7_1 : w3.heap.size ≤ w7.heap.size := Nat.le_of_lt z7_1
    have c7_1 := fun o => hb7.cell (p := ⟨w3.heap.size, o, none⟩) (by first | omega | (simp <;> omega))
    have f7_1 := fun o => hb7.frozen (p := ⟨w3.heap.size, o, none⟩) (by first | omega | (simp <;> omega))
    have z7_2 : w4.heap.size < w7.heap.size := by have := hb7.size; (try simp at this); omega
    have y7_2 : w4.heap.size ≤ w7.heap.size := Nat.le_of_lt z7_2
    have c7_2 := fun o => hb7.cell (p := ⟨w4.heap.size, o, none⟩) (by first | omega | (simp <;> omega))
    have f7_2 := fun o => hb7.frozen (p := ⟨w4.heap.size, o, none⟩) (by first | omega | (simp <;> omega))
    have z7_3 : w5.heap.size < w7.heap.size := by have := hb7.size; (try simp at this); omega
    have y7_3 : w5.heap.size ≤ w7.heap.size := Nat.le_of_lt z7_3
    have c7_3 := fun o => hb7.cell (p := ⟨w5.heap.size, o, none⟩) (by first | omega | (simp <;> omega))
    have f7_3 := fun o => hb7.frozen (p := ⟨w5.heap.size, o, none⟩) (by first | omega | (simp <;> omega))
    have z7_4 : w6.heap.size < w7.heap.size := by have := hb7.size; (try simp at this); omega
    have y7_4 : w6.heap.size ≤ w7.heap.size := Nat.le_of_lt z7_4
    have c7_4 := fun o => hb7.cell (p := ⟨w6.heap.size, o, none⟩) (by first | omega | (simp <;> omega))
    have f7_4 := fun o => hb7.frozen (p := ⟨w6.heap.size, o, none⟩) (by first | omega | (simp <;> omega))
    go_wp2_with fail
    refine (alive18 _).mono ?_
    rintro e w8 ⟨rfl, hb8⟩
    have B8 : Below w.heap.size w w8 := Below.then_ (by repeat (first | with_reducible exact Below.refl _ _ | with_reducible assumption | ((with_reducible refine Below.setCell ?_ ?_ _); rotate_left; · (first | omega | exact Nat.le_refl _ | (simp <;> omega))) | (with_reducible refine Below.allocW ?_ _) | (with_reducible refine Below.drew ?_) | (with_reducible refine Below.extW ?_ _))) hb8
    have s8 : w.heap.size ≤ w8.heap.size := B8.size
    go_wp2_with fail
    go_ret
    exact ⟨rfl, (by repeat (first | with_reducible exact Below.refl _ _ | with_reducible assumption | ((with_reducible refine Below.setCell ?_ ?_ _); rotate_left; · (first | omega | exact Nat.le_refl _ | (simp <;> omega))) | (with_reducible refine Below.allocW ?_ _) | (with_reducible refine Below.drew ?_) | (with_reducible refine Below.extW ?_ _)))⟩
  · have i30 : (30 : Int) < (ids.length : Int) := by omega
    clear h hS hr hf hSi
    unfold loadedV refDig at HC
    unfold loadedV
    go_enter Tryz.func5, Tryz.ntmps5
    go_wp2_with fail
    refine (reach_On_nil _ _).mono ?_
    rintro e w1 ⟨rfl, hb1⟩
    have B1 : Below w.heap.size w w1 := Below.then_ (by repeat (first | with_reducible exact Below.refl _ _ | with_reducible assumption | ((with_reducible refine Below.setCell ?_ ?_ _); rotate_left; · (first | omega | exact Nat.le_refl _ | (simp <;> omega))) | (with_reducible refine Below.allocW ?_ _) | (with_reducible refine Below.drew ?_) | (with_reducible refine Below.extW ?_ _))) hb1
    have s1 : w.heap.size ≤ w1.heap.size := B1.size
    have z1_0 : w.heap.size < w1.heap.size := by have := hb1.size; (try simp at this); omega
    have y1_0 : w.heap.size ≤ w1.heap.size := Nat.le_of_lt z1_0
    have c1_0 := fun o => hb1.cell (p := ⟨w.heap.size, o, none⟩) (by first | omega | (simp <;> omega))
    have f1_0 := fun o => hb1.frozen (p := ⟨w.heap.size, o, none⟩) (by first | omega | (simp <;> omega))
    unfold bothV
    go_wp2_with fail
    refine (reach_Off_nil _ _).mono ?_
    rintro e w2 ⟨rfl, hb2⟩
    have B2 : Below w.heap.size w w2 := Below.then_ (by repeat (first | with_reducible exact Below.refl _ _ | with_reducible assumption | ((with_reducible refine Below.setCell ?_ ?_ _); rotate_left; · (first | omega | exact Nat.le_refl _ | (simp <;> omega))) | (with_reducible refine Below.allocW ?_ _) | (with_reducible refine Below.drew ?_) | (with_reducible refine Below.extW ?_ _))) hb2
    have s2 : w.heap.size ≤ w2.heap.size := B2.size
    have z2_0 : w.heap.size < w2.heap.size := by have := hb2.size; (try simp at this); omega
    have y2_0 : w.heap.size ≤ w2.heap.size := Nat.le_of_lt z2_0
    have c2_0 := fun o => hb2.cell (p := ⟨w.heap.size, o, none⟩) (by first | omega | (simp <;> omega))
    have f2_0 := fun o => hb2.frozen (p := ⟨w.heap.size, o, none⟩) (by first | omega | (simp <;> omega))
    unfold bothV
    have BA : Below w.heap.size w (w2.alloc (.cells #[.int .i64 0, .int .i64 0] 51)) := (by repeat (first | with_reducible exact Below.refl _ _ | with_reducible assumption | ((with_reducible refine Below.setCell ?_ ?_ _); rotate_left; · (first | omega | exact Nat.le_refl _ | (simp <;> omega))) | (with_reducible refine Below.allocW ?_ _) | (with_reducible refine Below.drew ?_) | (with_reducible refine Below.extW ?_ _)))
    have S2 := Lib.hid (HS.out.1.keep BA.size fun p hp => BA.cell hp)
    clear BA
    go_wp2_with fail
    refine (HC.out _ S2.out).mono ?_
    rintro e w3 ⟨g, F, rfl, hD, _, hb3⟩
    have B3 : Below w.heap.size w w3 := Below.then_ (by repeat (first | with_reducible exact Below.refl _ _ | with_reducible assumption | ((with_reducible refine Below.setCell ?_ ?_ _); rotate_left; · (first | omega | exact Nat.le_refl _ | (simp <;> omega))) | (with_reducible refine Below.allocW ?_ _) | (with_reducible refine Below.drew ?_) | (with_reducible refine Below.extW ?_ _))) hb3
    have s3 : w.heap.size ≤ w3.heap.size := B3.size
    have z3_0 : w.heap.size < w3.heap.size := by have := hb3.size; (try simp at this); omega
    have y3_0 : w.heap.size ≤ w3.heap.size := Nat.le_of_lt z3_0
    have c3_0 := fun o => hb3.cell (p := ⟨w.heap.size, o, none⟩) (by first | omega | (simp <;> omega))
    have f3_0 := fun o => hb3.frozen (p := ⟨w.heap.size, o, none⟩) (by first | omega | (simp <;> omega))
    clear hD
    go_wp2_with fail
    refine (alive18 _).mono ?_
    rintro e w4 ⟨rfl, hb4⟩
    have B4 : Below w.heap.size w w4 := Below.then_ (by repeat (first | with_reducible exact Below.refl _ _ | with_reducible assumption | ((with_reducible refine Below.setCell ?_ ?_ _); rotate_left; · (first | omega | exact Nat.le_refl _ | (simp <;> omega))) | (with_reducible refine Below.allocW ?_ _) | (with_reducible refine Below.drew ?_) | (with_reducible refine Below.extW ?_ _))) hb4
    have s4 : w.heap.size ≤ w4.heap.size := B4.size
    go_wp2_with fail
    go_ret
    exact ⟨rfl, (by repeat (first | with_reducible exact Below.refl _ _ | with_reducible assumption | ((with_reducible refine Below.setCell ?_ ?_ _); rotate_left; · (first | omega | exact Nat.le_refl _ | (simp <;> omega))) | (with_reducible refine Below.allocW ?_ _) | (with_reducible refine Below.drew ?_) | (with_reducible refine Below.extW ?_ _)))⟩
theorem law_ReachOn (l k K : Int) (r : List Nd) (A : Option Addr) (cap : Nat) (ids : List Int) (Ai : Option Addr) (capi : Nat) (W : World) (hS : Sl W W.heap.size encN A r) (hI : ints r) (_ : i64 l) (_ : i64 k) (_ : i64 K) (hm : r.length ≤ maxLen) (hSi : Sl W W.heap.size encZ Ai ids) (hIi : ∀ x ∈ ids, i64 x) (hmi : ids.length ≤ maxLen) :
    Calls Tryz.prog 5 #[loadedV l k K A r.length cap, .slice Ai ids.length capi] W fun e W' => e = .returned (.bool true) ∧ Below W.heap.size W W' := by
  by_cases h : goodL l k K r
  · obtain ⟨n, m, rfl, rfl⟩ := goodL_nat h.2.2
    exact law_ReachOn_yes n m k r A cap ids Ai capi W h hS hI hSi hIi hmi
  · exact law_ReachOn_no l k K r A cap ids Ai capi W h hS hI hm
end Go.Proofs.YtmadmlkmdnjmaaaGreat
