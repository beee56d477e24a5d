/-
  Texts of this proof, one behind the other: Parents, First, Press, BagLaw, Leaf, AddB, HeldLaw, DigOps, DigReset, OpenSide, SortK, TabLaw, Made, RegionN, Made2, Reach2, Table.
-/
import Derived.Deep.LoopGhost
import Derived.Laws.BitsLemmas
import Derived.Deep.RegionWith
import Derived.Deep.DeepCutAuto
import Derived.Shelf.SlSortCmp.NoneTotal
import Derived.Test.YtcjnchjmpkapmaaGreatLaid
import Derived.Deep.RegionHeld3
import Derived.Deep.RegionLaw
import Derived.Shelf.SlSorted.Search
import Derived.Test.YtcjnchjmpkapmaaGreatP1
import Derived.Test.YtcjnchjmpkapmaaGreatP2
import Derived.Test.YtcjnchjmpkapmaaGreatP3
import Derived.Test.YtcjnchjmpkapmaaGreatR4
/- Package fold: Parents: the parents of all nodes, in the order of folding. -/
set_option linter.unusedSimpArgs false namespace Go.Proofs.YtcjnchjmpkapmaaGreat
open Go.ChangeShapes Go.WideShapes Go.ChangeAt Go.RowKit
set_option linter.unusedVariables false
set_option linter.unusedSimpArgs false
set_option maxRecDepth 100000
attribute [local go_sem] Oper.semAt_some

theorem AgAt.mapb {w : World} {a b : Nat} {L : List Int} {F : Nat → Prop} (h : AgAt w a b L F) : (∃ es clock, w.heap[b]? = some (.map es clock)) ∧ F b ∧ b < w.heap.size := by
  obtain ⟨D, ⟨v, h1, h2, h3, rfl⟩, _⟩ := h
  have hl := h3.lt
  obtain ⟨es, clock, hb, _⟩ := h3
  exact ⟨⟨es, clock, hb⟩, .inr (.inr rfl), hl⟩
theorem AgAt.ty {w : World} {a b : Nat} {L : List Int} {F : Nat → Prop} (h : AgAt w a b L F) {x : Nat} (hx : F x) : x = b ∨ TypeAt w x 373 ∨ TypeAt w x 3 := by
  obtain ⟨D, ⟨v, h1, h2, h3, rfl⟩, _⟩ := h
  rcases hx with rfl | hx | rfl
  · exact .inr (.inl (.of h1))
  · rcases h2 with ⟨rfl, _⟩ | ⟨g1, o1, c1, u1, rfl, _, hh1, _⟩
    · cases hx
    · cases hx; exact .inr (.inr (.of hh1))
  · exact .inl rfl
theorem AgAt.not_type {w : World} {a b : Nat} {L : List Int} {F : Nat → Prop} (h : AgAt w a b L F) {x t : Nat} {cs : Array Value} {fr : Nat × Nat} (hx : w.heap[x]? = some (.cells cs t fr)) (h1 : t ≠ 373) (h2 : t ≠ 3) : ¬ F x := fun hf => by
  rcases h.ty hf with rfl | ht | ht
  · obtain ⟨⟨es, clock, hm⟩, _⟩ := h.mapb
    rw [hx] at hm; cases hm
  · exact h1 (typeAt_eq (.of hx) ht)
  · exact h2 (typeAt_eq (.of hx) ht)
theorem AgAt.not_cells {w : World} {a b : Nat} {L : List Int} {F : Nat → Prop} (h : AgAt w a b L F) {x : Nat} {o : Obj} (hx : w.heap[x]? = some o) (ho : o.isCells = false) (hb : x ≠ b) : ¬ F x := fun hf => by
  rcases h.ty hf with e | ⟨cs, fr, ht⟩ | ⟨cs, fr, ht⟩
  · exact hb e
  · rw [hx] at ht; cases ht; cases ho
  · rw [hx] at ht; cases ht; cases ho
theorem AgAt.grown {w w' : World} {a b : Nat} {L : List Int} {F : Nat → Prop} (h : AgAt w a b L F) {row : Option Nat} (hg : w.grownBy w' row) (hr : ∀ r, row = some r → r ≠ b ∧ ∃ o : Obj, w.heap[r]? = some o ∧ o.isCells = false) : AgAt w' a b L F :=
  h.keep fun x hx => hg.block x (h.lt x hx) fun e => by
    obtain ⟨hb, o, ho, hc⟩ := hr x e.symm
    exact h.not_cells ho hc hb hx
theorem AgAt.turnN {w w' : World} {a b : Nat} {L : List Int} {F : Nat → Prop} (h : AgAt w a b L F) (ht : Turn F w w') : KeepN w w' :=
  ⟨ht.size, fun x cs fr hx => ht.keep hx (h.not_type hx (by decide) (by decide))⟩
theorem AgAt.turnFrom {w w' : World} {a b B : Nat} {L : List Int} {F : Nat → Prop} (h : AgAt w a b L F) (ht : Turn F w w') (hb : b < B) : KeepsFrom B w w' :=
  ⟨ht.size, fun x o hB hx ho => ht.keep hx (h.not_cells hx ho (by omega))⟩
theorem attach_take (r : List Nd) : r.attach.take r.length = r.attach := by have := List.take_length (l := r.attach); rwa [List.length_attach] at this
set_option maxRecDepth 100000 in
set_option maxHeartbeats 2000000 in
theorem each_in (n Bs g K l : Nat) (r : List Nd) (F0 : Nat → Prop) (w : World) (hn : 1 ≤ n) (hBs : w.heap[Bs]? = some (.cells #[.pointer (some ⟨g, 0, none⟩)] 174 (0, 0))) (hP : PoolAt w g K l r F0) (hr : r.length ≤ 67108864) :
    SeqStopsK Fence.wide n Tryz.prog 298 #[.pointer (some ⟨Bs, 0, none⟩)] (fun x : {x : Nd // x ∈ r} => #[Value.int .i64 x.1.1, Value.int .i64 x.1.2]) KeepN (fun ys => ys = r.attach) (fun pre => pre <+: r.attach) r.length w := fun q J Jx W hW hJ hJx hY h0 => by
  have kb := blk_below hBs hW
  have HP := Lib.hid (hP.below hW)
  have cb := blk_cell kb
  have HY := Lib.hid hY
  have HJ := Lib.hid hJ
  clear kb hBs hP hY hJ
  refine callsIn_of_wp Tryz.func298 rfl trivial ?_ rfl
  simp only [Tryz.ntmps298, List.size_toArray, List.length_cons, List.length_nil, Nat.reduceAdd, Nat.reduceSub, Array.replicate_succ, Array.replicate_zero, List.push_toArray, List.append_toArray, List.nil_append, List.cons_append]
  gi_wp2_with fail
  refine ⟨trivial, ?_⟩
  refine (callsIn_wide.2 (pool_Snap _ g K l r F0 HP.out hr)).mono ?_
  rintro e w1 ⟨v, rfl, ho, hb⟩
  have HO := Lib.hid ho
  have J0 : Hid (J [] w1) := Lib.hid (HJ.out _ _ _ none h0 (grownBy_of_below hb none) (fun _ h => by cases h))
  have hs := hb.size
  obtain ⟨A, cap, rfl, _⟩ := ho.form
  clear ho hb h0
  gi_wp2_with fail
  gi_loopw [8] (fun i wr => ∃ k : Nat, k ≤ r.length ∧ i = .int .i64 k ∧ Own wr W.heap.size 153 encN (.slice A r.length cap) r ∧ J (r.attach.take k) wr ∧ W.heap.size ≤ wr.heap.size) (fun i _ => r.length - (intOf i).toNat)
  case atStart => exact ⟨0, Nat.zero_le _, rfl, HO.out, J0.out, hs⟩
  case round =>
    obtain ⟨k, hk, rfl, hown, hJk, hsz⟩ := hrel
    have KO := Lib.hid hown
    have KJ := Lib.hid hJk
    clear hown hJk
    by_cases hlt : k < r.length
    · obtain ⟨b, off, rfl, hT, hc⟩ := KO.out.slT.at_ hlt
      have d0 := hc 0 (.int .i64 r[k].1) rfl
      have d1 := hc 1 (.int .i64 r[k].2) rfl
      simp only [Nat.add_zero] at d0
      have hlt' : k < r.attach.length := by rw [List.length_attach]; exact hlt
      have hts := List.take_succ_eq_append_getElem hlt'
      obtain ⟨x, hx⟩ : ∃ x, x = r[k] := ⟨_, rfl⟩
      obtain ⟨y, hy0⟩ : ∃ y, y = r.attach[k] := ⟨_, rfl⟩
      have hyx : y.1 = x := by rw [hy0, hx, List.getElem_attach]
      rw [← hx] at d0 d1
      rw [← hy0] at hts
      have HS := Lib.hid hts
      have hA : Below wr.heap.size wr (wr.alloc (.cells #[.int .i64 x.1, .int .i64 x.2] 153)) := (Below.refl _ _).alloc (Nat.le_refl _) _
      have hJ2 := HJ.out _ _ _ none KJ.out (grownBy_of_below hA none) (fun _ h => by cases h)
      obtain ⟨fn, tmps, assign, body, hy, hR⟩ := HY.out (r.attach.take k) y _ hJ2 (by rw [List.length_take]; omega)
      have KA := Lib.hid (KO.out.below hA)
      rw [hyx] at hy
      clear hc hts hx hJ2 hA hT hy0 hlt' hyx
      gi_wp2_with fail
      refine hR.mono ?_
      rintro e w3 (⟨rfl, hJ3, hk3⟩ | ⟨rfl, hJx3⟩)
      · have K3 := Lib.hid (hk3.own KA.out)
        have z3 := hk3.1
        rw [← HS.out] at hJ3
        have J3 := Lib.hid hJ3
        clear hJ3 hk3
        gi_wp2_with fail
        go_roundw
        case rel => exact ⟨k + 1, by omega, by go_num, K3.out, J3.out, by simp at z3; omega⟩
        case measure => simp [intOf]; omega
      · rw [← HS.out] at hJx3
        have J3 := Lib.hid hJx3
        clear hJx3
        gi_wp2_with fail
        refine bodyPost_ret (results_none rfl _ _ _) rfl ?_
        exact ⟨⟨_, rfl⟩, .inr ⟨_, List.take_prefix _ _, J3.out⟩⟩
    · obtain rfl : k = r.length := by omega
      rw [attach_take] at KJ
      gi_wp2_with fail
      go_end0
      exact ⟨⟨_, rfl⟩, .inl ⟨_, rfl, KJ.out⟩⟩
def sliceLen : Value → Nat
  | .slice _ n _ => n
  | _ => 0
theorem Drain.len {P O L : List Int} {x : Int} (h : O.length + (x :: L).length = P.length) : (O ++ [x]).length + (popH (x :: L)).length = P.length := by
  rw [(popH_perm x L).length_eq]
  simp only [List.length_append, List.length_cons, List.length_nil] at h ⊢
  omega
def halves (r : List Nd) : List Int := r.map fun x => x.1 / 2
theorem halves_snoc (r : List Nd) (x : Nd) : putAll (halves (r ++ [x])) = putW (putAll (halves r)) (x.1 / 2) := by
  unfold halves putAll
  rw [List.map_append, List.foldl_append]; rfl
structure Drain (P : List Int) (O L : List Int) : Prop where
  wait : WaitL L
  up : O.Pairwise leA
  ahead : ∀ o ∈ O, ∀ y ∈ L, leA o y
  mem : ∀ z, z ∈ P ↔ z ∈ O ∨ z ∈ L
theorem Drain.start {P : List Int} (h : WaitL P) : Drain P [] P := ⟨h, .nil, by simp, by simp⟩
theorem Drain.step {P O L : List Int} {x : Int} (h : Drain P O (x :: L)) : Drain P (O ++ [x]) (popH (x :: L)) := by
  have hp := popH_perm x L
  refine ⟨h.wait.pop, ?_, ?_, fun z => ?_⟩
  · rw [List.pairwise_append]
    exact ⟨h.up, List.pairwise_singleton _ _, fun o ho y hy => by rw [List.mem_singleton.1 hy]; exact h.ahead o ho x (by simp)⟩
  · intro o ho y hy
    have hy := hp.mem_iff.1 hy
    rcases List.mem_append.1 ho with ho | ho
    · exact h.ahead o ho y (List.mem_cons_of_mem _ hy)
    · rw [List.mem_singleton.1 ho]; exact heap_head h.wait.heap y (List.mem_cons_of_mem _ hy)
  · rw [h.mem, List.mem_append, List.mem_singleton, List.mem_cons, hp.mem_iff]
    constructor
    · rintro (h | h | h)
      · exact .inl (.inl h)
      · exact .inl (.inr h)
      · exact .inr h
    · rintro ((h | h) | h)
      · exact .inl h
      · exact .inr (.inl h)
      · exact .inr (.inr h)
structure ParI (w : World) (ga gm pc : Nat) (pre : List Nd) (W : World) : Prop where
  p : W.heap[pc]? = some (.cells #[.pointer (some ⟨ga, 0, none⟩)] 341 (0, 0))
  a : ∃ F, AgAt W ga gm (putAll (halves pre)) F ∧ ∀ x, F x → w.heap.size ≤ x
set_option maxHeartbeats 4000000 in
theorem fold_Parents (w : World) (g K l : Nat) (r : List Nd) (F : Nat → Prop) (hP : PoolAt w g K l r F) (hr : r.length ≤ 67108864) :
    Calls Tryz.prog 299 #[.pointer (some ⟨g, 0, none⟩)] w fun e w' => ∃ (v : Value) (O : List Int), e = .returned v ∧ Own w' w.heap.size 3 encZ v O ∧ Drain (putAll (halves r)) O [] ∧ O.length ≤ 67108864 ∧ Below w.heap.size w w' := by
  have hroll := hP.fits.roll
  have hP2 : ∀ x ∈ r, 1 ≤ x.1 ∧ x.1 ≤ 1000000000000000 := fun x hx => by
    have h1 := isNode_lt (hP.fits.nodes hP.l_le x hx)
    have h2 := pow_48 hP.l_le.2
    omega
  have hPv : ∀ (pre : List {x : Nd // x ∈ r}) (y : Int), y ∈ halves (pre.map (·.1)) → y ≤ 9223372036854775807 := fun pre y hy => by
    unfold halves at hy
    obtain ⟨z, hz, rfl⟩ := List.mem_map.1 hy
    obtain ⟨u, hu, rfl⟩ := List.mem_map.1 hz
    have := hP2 u.1 u.2
    omega
  have HP := Lib.hid hP
  clear hP
  refine (callsIn_wide (n := 3)).1 ?_
  refine callsIn_of_wp_marks Tryz.func299 rfl trivial ?_ rfl
  simp only [Tryz.ntmps299, List.size_toArray, List.length_cons, List.length_nil, Nat.reduceAdd, Nat.reduceSub, Array.replicate_succ, Array.replicate_zero, List.push_toArray, List.append_toArray, List.nil_append, List.cons_append]
  gi_wp2_with fail
  refine ⟨trivial, ?_⟩
  refine (callsIn_wide.2 (fold_New _ none 0 [] .nil (by simp) (by simp))).mono ?_
  rintro e w1 ⟨ga, gm, FA, rfl, hA, hFA, hb1⟩
  have A1 := Lib.hid hA
  have F1 := Lib.hid hFA
  have B1 := Lib.hid hb1
  clear hA hFA hb1
  gi_wp2_with fail
  refine ⟨trivial, ?_⟩
  refine (callsIn_wide.2 (pool_Each _ g)).mono ?_
  rintro e w4 ⟨rfl, rfl⟩
  gi_wp2_with fail
  have al := fun (W : World) (o : Obj) => (Below.refl W.heap.size W).alloc (Nat.le_refl _) o
  have hb0 := (al w1 (.cells #[.pointer (some ⟨ga, 0, none⟩)] 341)).trans ((al (w1.alloc (.cells #[.pointer (some ⟨ga, 0, none⟩)] 341)) (.cells #[.pointer (some ⟨g, 0, none⟩)] 174)).mono (by simp))
  have BW0 := Lib.hid (Below.then_ B1.out hb0)
  have kp := (heap_new_lt (w1.alloc (.cells #[.pointer (some ⟨ga, 0, none⟩)] 341)) (.cells #[.pointer (some ⟨g, 0, none⟩)] 174) w1.heap.size (by simp)).trans (heap_alloc_new w1 (.cells #[.pointer (some ⟨ga, 0, none⟩)] 341))
  have kb := heap_new_at (w1.alloc (.cells #[.pointer (some ⟨ga, 0, none⟩)] 341)) (.cells #[.pointer (some ⟨g, 0, none⟩)] 174) (w1.heap.size + 1) (by simp)
  have A0 := Lib.hid (A1.out.below hb0)
  have hgm := A1.out.mapb.2.2
  have hgm0 := F1.out gm A1.out.mapb.2.1
  generalize (w1.alloc (.cells #[.pointer (some ⟨ga, 0, none⟩)] 341)).alloc (.cells #[.pointer (some ⟨g, 0, none⟩)] 174) = W0 at hb0 BW0 kp kb A0 ⊢
  have zs0 := hb0.size
  have zs1 := B1.out.size
  have zsW := BW0.out.size
  have hpw : w.heap.size ≤ w1.heap.size := zs1
  have KP0 := Lib.hid kp
  clear al hb0
  refine wpIn_rangeFunc_ownG rfl (by decide) (gf := 298) (lb := #[.pointer (some ⟨w1.heap.size + 1, 0, none⟩)]) rfl trivial (enters_of Tryz.func298 (by kernel_rfl) rfl)
    (each_in (3 - 1) (w1.heap.size + 1) g K l r F W0 (by decide) kb (HP.out.below BW0.out) hr) keepN_t (fun W q o o' _ h hc _ => keepN_b W q o o' h hc) (Below.refl _ _) (fun _ => rfl)
    (fun pre W => ParI w ga gm w1.heap.size (pre.map (·.1)) W ∧ Below w.heap.size w W)
    (fun _ _ _ => False)
    (OwnFrom.and (fun s A B row hs hg hr => ⟨row_grown hs.p hg (fun q e => (hr q e).2), by
      obtain ⟨F', h1, h2⟩ := hs.a
      exact ⟨F', h1.grown hg (fun q e => ⟨by have := (hr q e).1; omega, (hr q e).2⟩), h2⟩⟩) (ownFrom_below (Nat.le_refl _) zsW))
    (fun c => fun _ _ _ _ hs _ _ => hs)
    ⟨⟨KP0.out, _, A0.out, F1.out⟩, BW0.out⟩
    (fun x => { tmps := #[.pointer (some ⟨g, 0, none⟩), undef, .slice none 0 0, .pointer (some ⟨w1.heap.size, 0, none⟩), .int .i64 x.1.1, undef, undef, undef, .pointer (some ⟨ga, 0, none⟩), .pointer (some ⟨g, 0, none⟩), .func (.func 298) #[] #[.pointer (some ⟨w1.heap.size + 1, 0, none⟩)], .int .i64 x.1.1, .int .i64 x.1.2, undef, undef, undef, undef, undef, undef, undef, undef, undef, undef, undef, undef, undef, undef, undef, undef, undef], defers := [] }) ?assign ?body ?done ?stop
  case assign =>
    intro q x W Kc hK
    gi_wp2
    exact hK
  case body =>
    rintro q pre x W ⟨⟨hp, F', hA, hF⟩, hB⟩ hlen
    have HA := Lib.hid hA
    have HF := Lib.hid hF
    have HB := Lib.hid hB
    have HPc := Lib.hid hp
    have cp := blk_cell hp
    have zp := lt_of_block hp
    have hx := hP2 x.1 x.2
    have hlen2 : (putAll (halves (pre.map (·.1)))).length ≤ r.length := by
      have h1 := putAll_len (halves (pre.map (·.1)))
      have h2 : (halves (pre.map (·.1))).length = pre.length := by simp [halves]
      omega
    have hsn := halves_snoc (pre.map (·.1)) x.1
    have HSn := Lib.hid hsn
    have HPut := Lib.hid (fun W h => ag_Put W ga gm (putAll (halves (pre.map (·.1)))) F' h (x.1.1 / 2) (by omega) (putAll_vals fun y hy => hPv pre y hy) (by omega))
    obtain ⟨⟨x1, x2⟩, hxm⟩ := x
    simp only at hx HPut HSn
    clear hA hF hB hp hlen2 hsn
    gi_wp2_with fail
    refine ⟨trivial, ?_⟩
    refine (CallsIn.inRound q (callsIn_wide.2 (HPut.out _ HA.out))).mono ?_
    rintro e w5 ⟨t, F5, rfl, hA5, hT5, hG5⟩
    have KW : Hid (KeepsFrom W0.heap.size W w5) := Lib.hid (HA.out.turnFrom hT5 (by omega))
    have KN := Lib.hid (HA.out.turnN hT5)
    have KP5 := Lib.hid (hT5.keep HPc.out (HA.out.not_type HPc.out (by decide) (by decide)))
    have BB5 := Lib.hid (HB.out.trans (hT5.below HF.out HB.out.size))
    have KA5 := Lib.hid hA5
    have KF5 : Hid (∀ y, F5 y → w.heap.size ≤ y) := Lib.hid fun y hy => by
      rcases hG5 y hy with h | h
      · exact HF.out y h
      · exact Nat.le_trans HB.out.size h
    clear hA5 hT5 hG5 cp
    gi_wp2_with fail
    exact ⟨KW.out, KN.out, ⟨KP5.out, F5, by rw [List.map_append]; exact HSn.out ▸ KA5.out, KF5.out⟩, BB5.out⟩
  case done =>
    rintro D ys W hD hys ⟨⟨hp, F', hA, hF⟩, hB⟩ hK
    have hys' : ys = r.attach := hys
    rw [hys', List.attach_map_subtype_val] at hA
    clear hys hys'
    have HA := Lib.hid hA
    have HF := Lib.hid hF
    have HB := Lib.hid hB
    have HPc := Lib.hid hp
    have cp := blk_cell hp
    have zp := lt_of_block hp
    have HK := Lib.hid hK
    have zD : D < W.heap.size := lt_of_block hK
    have hDm : D ≠ gm := by omega
    have hFW := hA.lt
    have HFW := Lib.hid hFW
    have hDF : ¬ F' D := hA.not_cells hK rfl hDm
    have HDF := Lib.hid hDF
    have hpF : ¬ F' w1.heap.size := hA.not_type hp (by decide) (by decide)
    have HPF := Lib.hid hpF
    have hwW := hB.size
    have hPl := putAll_len (halves r)
    have hPl2 : (halves r).length = r.length := by simp [halves]
    have hPV : ∀ y ∈ putAll (halves r), 1 ≤ y ∧ y ≤ 9223372036854775807 := putAll_vals fun y hy => hPv r.attach y (by rw [List.attach_map_subtype_val]; exact hy)
    have HPV := Lib.hid hPV
    have hdr := Drain.start (putAll_wait (halves r))
    have HDr := Lib.hid hdr
    obtain ⟨P, hPe⟩ : ∃ P, P = putAll (halves r) := ⟨_, rfl⟩
    have HPe := Lib.hid hPe
    rw [← hPe] at HA HPV HDr hPl
    have hPl3 : P.length ≤ 67108864 := by omega
    clear hA hF hB hp hK hFW hDF hpF hPV hdr hPe hPl hPl2
    gi_wp2_with fail
    gi_loopw [5, 6, 7] (fun v _ _ wr => ∃ (O L : List Int), Own wr W.heap.size 3 encZ v O ∧ Drain P O L ∧ O.length + L.length = P.length ∧ AgAt wr ga gm L F' ∧ wr.heap[w1.heap.size]? = some (.cells #[.pointer (some ⟨ga, 0, none⟩)] 341 (0, 0)) ∧ wr.heap[D]? = some (.deferred (some [])) ∧ W.heap.size ≤ wr.heap.size ∧ Below w.heap.size w wr) (fun v _ _ _ => P.length - sliceLen v)
    case atStart => exact ⟨[], P, .nil _ _ _ _, HDr.out, by simp, HA.out, HPc.out, HK.out, Nat.le_refl _, HB.out⟩
    case round =>
      obtain ⟨O, L, hO, hDr, hln, hA, hpc, hK, hsz, hB⟩ := hrel
      have KO := Lib.hid hO
      have KD := Lib.hid hDr
      have KA := Lib.hid hA
      have KP := Lib.hid hpc
      have KK := Lib.hid hK
      have KB := Lib.hid hB
      have cp := blk_cell hpc
      have zp := lt_of_block hpc
      obtain ⟨Ao, co, rfl, _⟩ := hO.form
      obtain ⟨Dm, hAS, _⟩ := hA
      have HLn := Lib.hid (ag_Len _ ga gm _ L Dm F' hAS)
      clear hO hDr hpc hK hAS HA HPc HK HB HDr
      gi_wp2_with fail
      refine ⟨trivial, ?_⟩
      refine (callsIn_wide.2 HLn.out).mono ?_
      rintro e w5 ⟨rfl, hb5⟩
      have s5 := hb5.size
      have KO5 := Lib.hid (KO.out.below hb5)
      have KA5 := Lib.hid (KA.out.below hb5)
      have KP5 := Lib.hid (blk_below KP.out hb5)
      have KK5 := Lib.hid ((hb5.block D (by omega)).trans KK.out)
      have KB5 := Lib.hid (Below.then_ KB.out hb5)
      clear hb5 hB cp zp HLn
      cases L with
      | nil =>
        simp only [List.length_nil]
        have hres : Hid (Drain (putAll (halves r)) O []) := Lib.hid (HPe.out ▸ KD.out)
        gi_wp2_with fail
        have hK5 := KK5.out
        refine ⟨by simp, .inl ⟨_, _, rfl, run_takeDeferred hK5, ?_⟩⟩
        have ho2 := (own_grown KO5.out (grownBy_putObj' w5 D (.deferred none)) (fun r e => by cases e; exact ⟨_, hK5, rfl⟩)).base_le (b := w.heap.size) hwW
        exact ⟨.slice Ao O.length co, by simp [results, Tryz.f299, go_sem], .slice Ao O.length co, O, rfl, ho2, hres.out, by simp only [List.length_nil] at hln; omega, KB5.out.trans (belowK_b (w := w) (Nat.le_refl _) w5 D _ _ (by omega) hK5 rfl rfl)⟩
      | cons x L =>
        have hxL : x ∉ L := (List.nodup_cons.1 KD.out.wait.once).1
        have hpv : ∀ y ∈ x :: L, 1 ≤ y ∧ y ≤ 9223372036854775807 := fun y hy => HPV.out y ((KD.out.mem y).2 (.inr hy))
        have hlL : L.length ≤ 67108864 := by simp only [List.length_cons] at hln; omega
        have HPop := Lib.hid (fun W h => ag_Pop W ga gm x L F' h hxL hpv (by omega))
        have HDs := Lib.hid KD.out.step
        have HLn := Lib.hid (Drain.len hln)
        have hOl : O.length ≤ 67108864 := by simp only [List.length_cons] at hln; omega
        have hl1 : (x :: L).length = L.length + 1 := by simp
        have cp := blk_cell KP5.out
        have zp := lt_of_block KP5.out
        have hmes : O.length < P.length := by simp only [List.length_cons] at hln; omega
        rw [hl1]
        clear hxL hpv KD hl1 hln
        gi_wp2_with fail
        refine ⟨trivial, ?_⟩
        refine (callsIn_wide.2 (HPop.out _ KA5.out)).mono ?_
        rintro e w6 ⟨rfl, hA6, hT6⟩
        have s6 := hT6.size
        have KA6 := Lib.hid hA6
        have KO6 := Lib.hid (hT6.own KO5.out (fun b hb hf => by have := (KO5.out.lt b hb).1; have := HFW.out b hf; omega))
        have KP6 := Lib.hid (hT6.keep KP5.out HPF.out)
        have KK6 := Lib.hid (hT6.keep KK5.out HDF.out)
        have KB6 := Lib.hid (KB5.out.trans (hT6.below HF.out KB5.out.size))
        clear hA6 hT6 cp zp KA5 KO5 KP5 KK5 KB5
        gi_wp2_with ((gi_at_builtin; refine wpListIn_push tyZ rfl _ _ rfl encZ w6 W.heap.size (.slice Ao O.length co) O rfl KO6.out x (by go_simp) rfl ?a1 ?a2 ?a3 ?a4))
        case a1 => omega
        case a2 => simp only [maxLen]; omega
        case a3 => omega
        case a4 =>
          intro v7 w7 ho7 hg7 _ _ hb7 _
          have KO7 := Lib.hid ho7
          have s7 := hg7.size
          have hne : ∀ b, b < W.heap.size → some b ≠ (Value.slice Ao O.length co).ownBlock := fun b hb h => by have := (KO6.out.lt b h.symm).1; omega
          have KA7 := Lib.hid (KA6.out.keep fun b hb => hg7.block b (by have := HFW.out b hb; omega) (hne b (HFW.out b hb)))
          have KP7 := Lib.hid ((hg7.block w1.heap.size (by omega) (hne _ (by omega))).trans KP6.out)
          have KK7 := Lib.hid ((hg7.block D (by omega) (hne _ (by omega))).trans KK6.out)
          have KB7 := Lib.hid (KB6.out.trans (hb7.mono hwW))
          have h7 : sliceLen v7 = O.length + 1 := by
            obtain ⟨A7, c7, rfl, _⟩ := KO7.out.form
            simp [sliceLen]
          clear ho7 hg7 hb7
          gi_wp2_with fail
          go_roundw
          case rel => exact ⟨O ++ [x], popH (x :: L), KO7.out, HDs.out, HLn.out, KA7.out, KP7.out, KK7.out, by omega, KB7.out⟩
          case measure => rw [h7]; simp only [sliceLen]; omega
  case stop =>
    rintro D c pre W hD hpre h hK
    exact h.elim
end Go.Proofs.YtcjnchjmpkapmaaGreat
/- Package fold: First; package press: Tight. -/
namespace Go.Proofs.YtcjnchjmpkapmaaGreat
open Go.ChangeShapes Go.WideShapes Go.ChangeAt Go.RowKit
set_option linter.unusedVariables false
set_option linter.unusedSimpArgs false
set_option maxRecDepth 100000

def FirstPost (l : Nat) (most : Int) (r : List Nd) (w : World) (e : Ending) (w' : World) : Prop :=
  ∃ (id : Int) (ok : Bool), e = .returned (.tuple #[.int .i64 id, .bool ok]) ∧ (ok = true → FirstIs l most r id) ∧ (ok = false → ∀ p, readyR l r p most = false) ∧ Below w.heap.size w w'
end Go.Proofs.YtcjnchjmpkapmaaGreat
/- Package press: run, Run: folding as far as it goes. -/
namespace Go.Proofs.YtcjnchjmpkapmaaGreat
open Go.ChangeShapes Go.WideShapes Go.ChangeAt Go.RowKit
set_option linter.unusedVariables false
set_option linter.unusedSimpArgs false
set_option maxRecDepth 100000

theorem deep_le {l : Nat} {r : List Nd} (h : Fits l r) (hl : l ≤ 48) : deepR r ≤ 48 * r.length := by
  have h1 : ∀ x ∈ r, x.1.toNat.log2 ≤ 48 := fun x hx => by
    have h2 := h.lt x hx
    have h3 := (h.roll.2 x hx).1
    have h4 : x.1.toNat < 2 ^ (l + 1) := by
      have : ((2 ^ (l + 1) : Nat) : Int) = 2 * 2 ^ l := by push_cast; omega
      omega
    have := (Nat.log2_lt (by omega)).2 h4
    omega
  clear h
  unfold deepR
  induction r with
  | nil => simp
  | cons x r ih =>
    have := ih fun y hy => h1 y (by simp [hy])
    have := h1 x (by simp)
    simp only [List.map_cons, List.sum_cons, List.length_cons]
    omega
structure RunS (w : World) (ga gm g K l nb : Nat) (F : Nat → Prop) (s : List Nd) (L : List Int) (c : Nat) (Fp FA : Nat → Prop) (W : World) : Prop where
  a : AgAt W ga gm L FA
  p : PoolAt W g K l s Fp
  apart : ∀ b, Fp b → ¬ FA b
  n : W.heap[nb]? = some (.cells #[.int .i64 c] 3 (0, 0))
  np : ¬ Fp nb
  na : ¬ FA nb
  fa : ∀ b, FA b → w.heap.size ≤ b
  gp : Grow w F Fp
  t : Turn (fun b => F b ∨ b = nb) w W
section
variable {w : World} {ga gm g K l nb : Nat} {F : Nat → Prop} {s s' : List Nd} {L L' : List Int} {c : Nat} {Fp FA FA' : Nat → Prop} {W W' : World}
theorem RunS.below (h : RunS w ga gm g K l nb F s L c Fp FA W) (hb : Below W.heap.size W W') : RunS w ga gm g K l nb F s L c Fp FA W' :=
  ⟨h.a.below hb, h.p.below hb, h.apart, blk_below h.n hb, h.np, h.na, h.fa, h.gp, h.t.more hb⟩
theorem RunS.ag (h : RunS w ga gm g K l nb F s L c Fp FA W) (ha : AgAt W' ga gm L' FA') (ht : Turn FA W W') (hg : Grow W FA FA') : RunS w ga gm g K l nb F s L' c Fp FA' W' := by
  have lp := h.p.lt
  refine ⟨ha, h.p.keep fun b hb => ht.block b (lp b hb) (h.apart b hb), fun b hb hf => ?_, ht.keep h.n h.na, h.np, fun hf => ?_, fun b hb => ?_, h.gp, ?_⟩
  · rcases hg b hf with hf | hf
    · exact h.apart b hb hf
    · have := lp b hb; omega
  · rcases hg _ hf with hf | hf
    · exact h.na hf
    · have := lt_of_block h.n; omega
  · rcases hg b hb with hf | hf
    · exact h.fa b hf
    · exact Nat.le_trans h.t.size hf
  · exact h.t.trans ht fun b hb => .inr (h.fa b hb)
theorem RunS.pool (h : RunS w ga gm g K l nb F s L c Fp FA W) (hp : PoolTo W g K l s' Fp W') : ∃ Fp', RunS w ga gm g K l nb F s' L c Fp' FA W' := by
  obtain ⟨Fp', h1, h2, h3⟩ := hp
  have la := h.a.lt
  refine ⟨Fp', h.a.keep fun b hb => h2.block b (la b hb) fun hf => h.apart b hf hb, h1, fun b hb hf => ?_, h2.keep h.n h.np, fun hf => ?_, h.na, h.fa, h.gp.trans h3 h.t.size, ?_⟩
  · rcases h3 b hb with hb | hb
    · exact h.apart b hb hf
    · have := la b hf; omega
  · rcases h3 _ hf with hf | hf
    · exact h.np hf
    · have := lt_of_block h.n; omega
  · exact h.t.trans h2 fun b hb => (h.gp b hb).imp .inl id
theorem RunS.count (h : RunS w ga gm g K l nb F s L c Fp FA W) : RunS w ga gm g K l nb F s L (c + 1) Fp FA (W.setCell ⟨nb, 0, none⟩ (.int .i64 (c + 1 : Nat))) := by
  have k : ∀ b, b ≠ nb → (W.setCell ⟨nb, 0, none⟩ (.int .i64 (c + 1 : Nat))).heap[b]? = W.heap[b]? := fun b hb => Below.heap_setCell _ _ _ _ (by simpa using hb)
  refine ⟨h.a.keep fun b hb => k b (by rintro rfl; exact h.na hb), h.p.keep fun b hb => k b (by rintro rfl; exact h.np hb), h.apart, ?_, h.np, h.na, h.fa, h.gp, h.t.setCell (.inl (.inr rfl)) _⟩
  simp [World.setCell, Array.getElem?_modify, h.n]
end
theorem press_Run1 (W : World) (nb c : Nat) (id : Int) (h : W.heap[nb]? = some (.cells #[.int .i64 c] 3 (0, 0))) (hc : c ≤ 4611686018427387904) :
    Calls Tryz.prog 273 #[.int .i64 id, .pointer (some ⟨nb, 0, none⟩)] W fun e w' => e = .returned (.tuple #[]) ∧ w' = W.setCell ⟨nb, 0, none⟩ (.int .i64 (c + 1 : Nat)) := by
  have c0 := blk_cell h
  have f0 := blk_frozen h
  have z0 := lt_of_block h
  clear h
  go_enter Tryz.func273, Tryz.ntmps273
  go_wp2_with fail
  go_end0
  exact ⟨rfl, by congr 1⟩
theorem enters_Run1 : ∀ args W, (callFunc 273 args).run Tryz.prog W = .ok (.enter 273 args) W := enters_of Tryz.func273 (by kernel_rfl) rfl
def RunPost (g K l : Nat) (r : List Nd) (most : Int) (nb : Nat) (F : Nat → Prop) (w : World) (e : Ending) (w' : World) : Prop :=
  ∃ (ps : List Int) (s : List Nd) (Fp : Nat → Prop), e = .returned (.tuple #[]) ∧ RunTo l most r ps s ∧ ps.length ≤ 48 * r.length ∧ PoolAt w' g K l s Fp ∧ Grow w F Fp ∧ ¬ Fp nb ∧ Turn (fun b => F b ∨ b = nb) w w' ∧ w'.heap[nb]? = some (.cells #[.int .i64 ps.length] 3 (0, 0))
set_option maxHeartbeats 4000000 in
theorem press_run (w : World) (g K l : Nat) (r : List Nd) (F : Nat → Prop) (hP : PoolAt w g K l r F) (hr : r.length ≤ 67108864) (k : Int) (h1 : 1 ≤ k) (h2 : k ≤ 1048576) (nb : Nat) (hn : w.heap[nb]? = some (.cells #[.int .i64 0] 3 (0, 0))) (hnF : ¬ F nb) :
    Calls Tryz.prog 272 #[.pointer (some ⟨g, 0, none⟩), .int .i64 k, .func (.func 273) #[] #[.pointer (some ⟨nb, 0, none⟩)]] w (RunPost g K l r (sumR r / k) nb F w) := by
  have eg := enters_Run1
  have hs0 := sumR_nonneg hP.fits.roll
  have hs1 := hP.fits.sum
  have hll := hP.l_le
  have hdl := deep_le hP.fits hll.2
  have HRl := Lib.hid hP.fits.roll
  have HP := Lib.hid hP
  have HT := Lib.hid (fun W h => pool_Total W g K l r F h)
  have HC := Lib.hid (fun W => fold_Cap W (sumR r) k hs0 (by omega) h1 (by omega))
  have HPa := Lib.hid (fun W h => fold_Parents W g K l r F h hr)
  generalize sumR r / k = most at HC ⊢
  generalize sumR r = n at HC HT hs0 hs1
  have HN := Lib.hid hn
  have HNF := Lib.hid hnF
  clear hP hs0 hs1 hn hnF
  go_enter Tryz.func272, Tryz.ntmps272
  go_wp2_with fail
  refine (HT.out _ HP.out).mono ?_
  rintro e w1 ⟨rfl, hb1⟩
  have B1 := Lib.hid hb1
  clear hb1
  go_wp2_with fail
  refine (HC.out _).mono ?_
  rintro e w2 ⟨rfl, hb2⟩
  have B2 := Lib.hid (Below.then_ B1.out hb2)
  clear hb2
  go_wp2_with fail
  refine (HPa.out _ (HP.out.below B2.out)).mono ?_
  rintro e w3 ⟨v, O, rfl, ho, hd, hol, hb3⟩
  obtain ⟨A, cap, rfl, _⟩ := ho.form
  have S3 := Lib.hid ho.sl
  have hO49 : ∀ x ∈ O, x ≤ 9223372036854775807 := fun x hx => by
    have h3 := (hd.mem x).2 (.inl hx)
    obtain ⟨y, hy, rfl⟩ := List.mem_map.1 ((putAll_mem _ _).1 h3).2
    have h4 := isNode_lt (HP.out.fits.nodes hll y hy)
    have h5 := pow_48 hll.2
    omega
  have hO49' : ∀ x ∈ O, x ≤ 562949953421312 := fun x hx => by
    have h3 := (hd.mem x).2 (.inl hx)
    obtain ⟨y, hy, rfl⟩ := List.mem_map.1 ((putAll_mem _ _).1 h3).2
    have h4 := isNode_lt (HP.out.fits.nodes hll y hy)
    have h5 := pow_48 hll.2
    omega
  have hwt : ∀ x ∈ r, 1 ≤ x.1 / 2 → x.1 / 2 ∈ putAll O := fun x hx h3 => by
    refine (putAll_mem _ _).2 ⟨h3, ?_⟩
    have : x.1 / 2 ∈ putAll (halves r) := (putAll_mem _ _).2 ⟨h3, List.mem_map.2 ⟨x, hx, rfl⟩⟩
    rcases (hd.mem _).1 this with h | h
    · exact h
    · simp at h
  have hlenO := putAll_len O
  have HW := Lib.hid (Waits.start (l := l) (most := most) hwt HRl.out)
  have HWt := Lib.hid (putAll_wait O)
  have HV : Hid (∀ x ∈ putAll O, x ≤ 562949953421312) := Lib.hid fun x hx => hO49' x ((putAll_mem _ _).1 hx).2
  have HNw := Lib.hid (fun W h => fold_New W A cap O h hO49 (by omega))
  have B3 := Lib.hid (Below.then_ B2.out hb3)
  clear ho hd hb3 hO49 hO49' hwt
  generalize putAll O = L0 at HW HWt HV HNw hlenO
  go_wp2_with fail
  refine (HNw.out _ S3.out).mono ?_
  rintro e w4 ⟨ga, gm, FA, rfl, hA4, hF4, hb4⟩
  have B4 := Lib.hid (Below.then_ B3.out hb4)
  have R4 : Hid (RunS w ga gm g K l nb F r L0 0 F FA w4) := Lib.hid
    ⟨hA4, HP.out.below B4.out, fun b hb hf => by have := HP.out.lt b hb; have := hF4 b hf; have := B3.out.size; omega, blk_below HN.out B4.out, HNF.out, fun hf => by have := lt_of_block HN.out; have := hF4 nb hf; have := B3.out.size; omega,
      fun b hb => Nat.le_trans B3.out.size (hF4 b hb), Grow.refl, .of_below B4.out⟩
  clear hA4 hF4 hb4 S3 HNw
  have hn0 : 4 * deepR r + L0.length ≤ 20000000000 := by omega
  have hfR := HP.out.fits
  go_wp2_with fail
  go_loopg [] 20000000000 (fun kk wr => ∃ (s : List Nd) (L : List Int) (ps : List Int) (Fp FA : Nat → Prop), RunS w ga gm g K l nb F s L ps.length Fp FA wr ∧ WaitL L ∧ Waits l most s L ∧ (∀ x ∈ L, x ≤ 562949953421312) ∧ Folded l most r s ∧ (∀ qs t, RunTo l most s qs t → RunTo l most r (ps ++ qs) t) ∧ ps.length + deepR s ≤ deepR r ∧ 4 * deepR s + L.length ≤ kk ∧ kk ≤ 20000000000)
  case atStart => exact ⟨r, L0, [], F, FA, R4.out, HWt.out, HW.out, HV.out, .refl _, fun qs t h => h, by simp, hn0, Nat.le_refl _⟩
  case round =>
    obtain ⟨s, L, ps, Fp, FA, hR, hw, hW, hV, hFo, hTo, hdp, hk1, hk2⟩ := hrel
    have R := Lib.hid hR
    have HWt := Lib.hid hw
    have HW := Lib.hid hW
    have HV := Lib.hid hV
    have HF := Lib.hid hFo
    have HTo := Lib.hid hTo
    have hfs := hFo.fits hfR
    have hls := hFo.len hfR
    obtain ⟨Dm, hAS, _⟩ := hR.a
    have HLn := Lib.hid (ag_Len _ ga gm _ L Dm FA hAS)
    have HD := Lib.hid hdp
    clear hR hw hW hV hFo hTo hAS hdp
    go_wp2_with fail
    refine HLn.out.mono ?_
    rintro e w5 ⟨rfl, hb5⟩
    have R5 := Lib.hid (R.out.below hb5)
    clear hb5 R HLn
    cases L with
    | nil =>
      simp only [List.length_nil]
      have hE := Lib.hid (HTo.out [] s (Waits.done HW.out))
      rw [List.append_nil] at hE
      go_wp2_with fail
      go_end0
      have hd1 := HD.out
      exact ⟨ps, s, Fp, rfl, hE.out, by omega, R5.out.p, R5.out.gp, R5.out.np, R5.out.t, R5.out.n⟩
    | cons x L =>
      have hxL : x ∉ L := (List.nodup_cons.1 HWt.out.once).1
      have hpv : ∀ y ∈ x :: L, 1 ≤ y ∧ y ≤ 9223372036854775807 := fun y hy => ⟨HWt.out.pos y hy, by have := HV.out y hy; omega⟩
      have hx1 : 1 ≤ x := HWt.out.pos x (by simp)
      have hx2 : x ≤ 562949953421312 := HV.out x (by simp)
      have hlL : L.length + 1 + 4 * deepR s ≤ gk := by simp only [List.length_cons] at hk1; omega
      have HPop := Lib.hid (fun W h => ag_Pop W ga gm x L FA h hxL hpv (by omega))
      have hl1 : (x :: L).length = L.length + 1 := by simp
      have hpl : (popH (x :: L)).length = L.length := (popH_perm x L).length_eq
      have HPW := Lib.hid HWt.out.pop
      have HPV : Hid (∀ y ∈ popH (x :: L), 1 ≤ y ∧ y ≤ 562949953421312) := Lib.hid fun y hy => ⟨HWt.out.pos y (List.mem_cons_of_mem _ ((popH_perm x L).mem_iff.1 hy)), HV.out y (List.mem_cons_of_mem _ ((popH_perm x L).mem_iff.1 hy))⟩
      rw [hl1]
      clear hl1 hk1 hpv hxL
      go_wp2_with fail
      refine (HPop.out _ R5.out.a).mono ?_
      rintro e w6 ⟨rfl, hA6, hT6⟩
      have R6 := Lib.hid (R5.out.ag hA6 hT6 Grow.refl)
      clear hA6 hT6 R5
      go_wp2_with fail
      refine (fold_Ready _ g K l s Fp R6.out.p x most).mono ?_
      rintro e w7 ⟨rfl, hb7⟩
      have R7 := Lib.hid (R6.out.below hb7)
      clear hb7 R6
      cases hy : readyR l s x most
      · have HSk := Lib.hid (HW.out.skip hy)
        clear hy
        generalize popH (x :: L) = M at HSk HPW HPV R7 hpl
        go_wp2_with fail
        go_roundg (gk - 1)
        case measure => omega
        case rel => exact ⟨s, M, ps, Fp, FA, R7.out, HPW.out, HSk.out, fun y hy => (HPV.out y hy).2, HF.out, HTo.out, HD.out, by omega, by omega⟩
      · have HFr := Lib.hid (HW.out.first HWt.out hy)
        have HWf := Lib.hid (HW.out.fold hfs.roll hy)
        have hdf := deep_fold hfs.roll hy
        have hkid := kids_iff.1 (ready_iff.1 hy).1
        have hx3 : x < 281474976710656 := by have := pow_48 hll.2; omega
        have HDo := Lib.hid (fun W h => fold_Do W g K l s Fp h x most hy (by omega))
        have HFo : Hid (Folded l most r (foldR s x)) := Lib.hid (.step x HF.out hy)
        have HTo2 : Hid (∀ qs t, RunTo l most (foldR s x) qs t → RunTo l most r ((ps ++ [x]) ++ qs) t) := Lib.hid fun qs t h => by
          have := HTo.out _ _ (.step HFr.out h)
          simpa using this
        have hpl1 : (ps ++ [x]).length = ps.length + 1 := by simp
        have hd1 := HD.out
        clear hkid hy HW HWt HF HTo HV
        generalize foldR s x = s2 at HWf HDo HFo HTo2 hdf
        generalize popH (x :: L) = M at HWf HPW HPV R7 hpl
        go_wp2_with fail
        refine (HDo.out _ R7.out.p).mono ?_
        rintro e w8 ⟨⟨n8, rfl⟩, hp8⟩
        obtain ⟨Fp8, R8'⟩ := R7.out.pool hp8
        have R8 := Lib.hid R8'
        clear R7 hp8 R8' HDo
        go_wp2_with fail
        refine (press_Run1 _ nb ps.length x R8.out.n (by omega)).mono ?_
        rintro e w9 ⟨rfl, rfl⟩
        have R9 := Lib.hid R8.out.count
        generalize w8.setCell ⟨nb, 0, none⟩ (.int .i64 (ps.length + 1 : Nat)) = w9 at R9 ⊢
        clear R8
        have HP1 := Lib.hid (fun W h => ag_Put W ga gm M FA h (2 * x) (by omega) (fun y hy => ⟨(HPV.out y hy).1, by have := (HPV.out y hy).2; omega⟩) (by omega))
        have V1 : Hid (∀ y ∈ putW M (2 * x), 1 ≤ y ∧ y ≤ 562949953421312) := Lib.hid fun y hy => by
          rcases (putW_mem _ _ _).1 hy with h | ⟨_, rfl⟩
          · exact HPV.out y h
          · exact ⟨by omega, by omega⟩
        have W1 := Lib.hid (HPW.out.put (2 * x))
        have L1 := putW_len M (2 * x)
        go_wp2_with fail
        refine (HP1.out _ R9.out.a).mono ?_
        rintro e wa ⟨t1, F1, rfl, hA, hT, hG⟩
        have RA := Lib.hid (R9.out.ag hA hT hG)
        clear hA hT hG R9 HP1
        generalize putW M (2 * x) = M1 at RA V1 W1 L1 HWf
        have HP2 := Lib.hid (fun W h => ag_Put W ga gm M1 F1 h (2 * x + 1) (by omega) (fun y hy => ⟨(V1.out y hy).1, by have := (V1.out y hy).2; omega⟩) (by omega))
        have V2 : Hid (∀ y ∈ putW M1 (2 * x + 1), 1 ≤ y ∧ y ≤ 562949953421312) := Lib.hid fun y hy => by
          rcases (putW_mem _ _ _).1 hy with h | ⟨_, rfl⟩
          · exact V1.out y h
          · exact ⟨by omega, by omega⟩
        have W2 := Lib.hid (W1.out.put (2 * x + 1))
        have L2 := putW_len M1 (2 * x + 1)
        go_wp2_with fail
        refine (HP2.out _ RA.out.a).mono ?_
        rintro e wb ⟨t2, F2, rfl, hA, hT, hG⟩
        have RB := Lib.hid (RA.out.ag hA hT hG)
        clear hA hT hG RA HP2
        generalize putW M1 (2 * x + 1) = M2 at RB V2 W2 L2 HWf
        have HP3 := Lib.hid (fun W h => ag_Put W ga gm M2 F2 h (x / 2) (by omega) (fun y hy => ⟨(V2.out y hy).1, by have := (V2.out y hy).2; omega⟩) (by omega))
        have V3 : Hid (∀ y ∈ putW M2 (x / 2), 1 ≤ y ∧ y ≤ 562949953421312) := Lib.hid fun y hy => by
          rcases (putW_mem _ _ _).1 hy with h | ⟨_, rfl⟩
          · exact V2.out y h
          · exact ⟨by omega, by omega⟩
        have W3 := Lib.hid (W2.out.put (x / 2))
        have L3 := putW_len M2 (x / 2)
        go_wp2_with fail
        refine (HP3.out _ RB.out.a).mono ?_
        rintro e wc ⟨t3, F3, rfl, hA, hT, hG⟩
        have RC := Lib.hid (RB.out.ag hA hT hG)
        clear hA hT hG RB HP3
        generalize putW M2 (x / 2) = M3 at RC V3 W3 L3 HWf
        go_wp2_with fail
        go_roundg (gk - 1)
        case measure => omega
        case rel => exact ⟨s2, M3, ps ++ [x], Fp8, F3, by rw [hpl1]; exact RC.out, W3.out, HWf.out, fun y hy => (V3.out y hy).2, HFo.out, HTo2.out, by rw [hpl1]; omega, by omega, by omega⟩
def PressPost (g K l : Nat) (r : List Nd) (most : Int) (F : Nat → Prop) (w : World) (e : Ending) (w' : World) : Prop :=
  ∃ (ps : List Int) (s : List Nd), e = .returned (.tuple #[.int .i64 ps.length, .int .i64 0]) ∧ RunTo l most r ps s ∧ ps.length ≤ 48 * r.length ∧ PoolTo w g K l s F w'
theorem press_Run (w : World) (g K l : Nat) (r : List Nd) (F : Nat → Prop) (hP : PoolAt w g K l r F) (hr : r.length ≤ 67108864) (k : Int) (h1 : 1 ≤ k) (h2 : k ≤ 1048576) :
    Calls Tryz.prog 188 #[.pointer (some ⟨g, 0, none⟩), .int .i64 k] w (PressPost g K l r (sumR r / k) F w) := by
  have HP := Lib.hid hP
  have HR := Lib.hid (fun W h nb hn hf => press_run W g K l r F h hr k h1 h2 nb hn hf)
  generalize sumR r / k = most at HR ⊢
  clear hP
  go_enter Tryz.func188, Tryz.ntmps188
  go_wp2_with fail
  refine (press_wrong _ g k h1 h2).mono ?_
  rintro e w1 ⟨rfl, hb1⟩
  have B1 := Lib.hid (hb1.trans (((Below.refl w1.heap.size w1).alloc (Nat.le_refl _) (.cells #[.int .i64 0] 3)).mono hb1.size))
  have X1 := Lib.hid (heap_alloc_new w1 (.cells #[.int .i64 0] 3))
  have s1 := hb1.size
  have P1 := Lib.hid (HP.out.below B1.out)
  clear hb1
  have NF : Hid (¬ F w1.heap.size) := Lib.hid fun hf => by have := HP.out.lt _ hf; omega
  go_wp2_with fail
  refine (HR.out _ P1.out _ X1.out NF.out).mono ?_
  rintro e w2 ⟨ps, s, Fp, rfl, hR, hpl, hP2, hG, _, hT, hn⟩
  have HE : Hid (RunTo l most r ps s ∧ ps.length ≤ 48 * r.length ∧ PoolTo w g K l s F w2) := by
    refine Lib.hid ⟨hR, hpl, Fp, hP2, ?_, fun b hb => (hG b hb).imp id fun h => Nat.le_trans B1.out.size h⟩
    refine ⟨hT.os.trans B1.out.os, hT.tape.trans B1.out.tape, hT.output.trans B1.out.output, Nat.le_trans B1.out.size hT.size, fun b hb hf => ?_⟩
    rw [hT.block b (Nat.lt_of_lt_of_le hb B1.out.size) (by rintro (h | h); exact hf h; omega)]
    exact B1.out.block b hb
  have c2 := blk_cell hn
  have z2 := lt_of_block hn
  clear hR hP2 hG hT hn hpl X1 P1 B1 HR
  go_wp2_with fail
  go_ret2
  exact ⟨ps, s, rfl, HE.out⟩
end Go.Proofs.YtcjnchjmpkapmaaGreat
/- Bags as lists of values and weights; culprits. Plain laws. -/
namespace Go.Proofs.YtcjnchjmpkapmaaGreat
open Go.ChangeShapes Go.WideShapes Go.ChangeAt Go.RowKit
set_option linter.unusedVariables false

structure BagL (l : Nat) (m : List Nd) : Prop where
  up : m.Pairwise fun a b => a.1 < b.1
  val : ∀ x ∈ m, 0 ≤ x.1 ∧ x.1 < 2 ^ l ∧ 1 ≤ x.2
  sum : sumR m ≤ 72057594037927935
theorem BagL.nil (l : Nat) : BagL l [] := ⟨.nil, by simp, by simp [sumR]⟩
theorem sumR_pos {m : List Nd} (h : ∀ x ∈ m, 1 ≤ x.2) : 0 ≤ sumR m ∧ (m.length : Int) ≤ sumR m := by
  induction m with
  | nil => simp [sumR]
  | cons x m ih =>
    have := ih fun y hy => h y (by simp [hy])
    have := h x (by simp)
    simp only [sumR, List.length_cons]; omega
theorem BagL.sum0 {l : Nat} {m : List Nd} (h : BagL l m) : 0 ≤ sumR m := (sumR_pos fun x hx => (h.val x hx).2.2).1
theorem addR_vals {m : List Nd} {x c : Int} {P : Nd → Prop} (h : ∀ y ∈ m, P y) (hn : P (x, c)) (ho : ∀ y ∈ m, y.1 = x → P (x, y.2 + c)) : ∀ y ∈ addR m x c, P y := by
  induction m with
  | nil => intro y hy; simp [addR] at hy; rw [hy]; exact hn
  | cons z m ih =>
    intro y hy
    simp only [addR] at hy
    split at hy
    · rename_i he
      rcases List.mem_cons.1 hy with rfl | hy
      · exact ho z (by simp) he
      · exact h y (by simp [hy])
    · split at hy
      · rcases List.mem_cons.1 hy with rfl | hy
        · exact hn
        · exact h y hy
      · rcases List.mem_cons.1 hy with rfl | hy
        · exact h y (by simp)
        · exact ih (fun u hu => h u (by simp [hu])) (fun u hu => ho u (by simp [hu])) y hy
theorem addR_up {m : List Nd} (h : m.Pairwise fun a b => a.1 < b.1) (x c : Int) : (addR m x c).Pairwise fun a b => a.1 < b.1 := by
  induction m with
  | nil => simp [addR]
  | cons z m ih =>
    obtain ⟨h1, h2⟩ := List.pairwise_cons.1 h
    simp only [addR]
    split
    · rename_i he
      exact List.pairwise_cons.2 ⟨fun y hy => by have := h1 y hy; simp only; omega, h2⟩
    · split
      · rename_i hlt
        refine List.pairwise_cons.2 ⟨fun y hy => ?_, h⟩
        rcases List.mem_cons.1 hy with rfl | hy
        · exact hlt
        · have := h1 y hy; simp only; omega
      · rename_i hne hge
        refine List.pairwise_cons.2 ⟨fun y hy => ?_, ih h2⟩
        rcases addR_mem hy with hy | hy
        · omega
        · exact h1 y hy
theorem BagL.add {l : Nat} {m : List Nd} (h : BagL l m) {x c : Int} (h0 : 0 ≤ x) (h1 : x < 2 ^ l) (hc : 1 ≤ c) (hs : sumR m + c ≤ 72057594037927935) : BagL l (addR m x c) :=
  ⟨addR_up h.up x c, addR_vals h.val ⟨h0, h1, hc⟩ fun y hy he => ⟨h0, h1, by have := (h.val y hy).2.2; simp only; omega⟩, by rw [sumR_add]; exact hs⟩
def betwB : List Nd → Int → Int → Int
  | [], _, _ => 0
  | x :: m, a, b => (if a ≤ x.1 ∧ x.1 ≤ b then x.2 else 0) + betwB m a b
theorem betwB_append (a b : List Nd) (x y : Int) : betwB (a ++ b) x y = betwB a x y + betwB b x y := by
  induction a with
  | nil => simp [betwB]
  | cons z a ih => simp only [List.cons_append, betwB, ih]; omega
theorem betwB_one (z : Nd) (x y : Int) : betwB [z] x y = if x ≤ z.1 ∧ z.1 ≤ y then z.2 else 0 := by simp [betwB]
theorem betwB_none {m : List Nd} {x y : Int} (h : ∀ z ∈ m, z.1 < x ∨ y < z.1) : betwB m x y = 0 := by
  induction m with
  | nil => rfl
  | cons z m ih =>
    simp only [betwB]
    have := h z (by simp)
    rw [if_neg (by omega), ih fun u hu => h u (by simp [hu])]; rfl
theorem betwB_le {m : List Nd} (h : ∀ z ∈ m, 1 ≤ z.2) (x y : Int) : 0 ≤ betwB m x y ∧ betwB m x y ≤ sumR m := by
  induction m with
  | nil => simp [betwB, sumR]
  | cons z m ih =>
    have := ih fun u hu => h u (by simp [hu])
    have := h z (by simp)
    simp only [betwB, sumR]
    split <;> omega
structure CutAt (m : List Nd) (p : Int → Prop) (i : Nat) : Prop where
  le : i ≤ m.length
  ahead : ∀ z ∈ m.take i, ¬ p z.1
  behind : ∀ z ∈ m.drop i, p z.1
def leaves (l : Nat) (m : List Nd) : List Nd := m.map fun x => (2 ^ l + x.1, x.2)
theorem leaves_roll {l : Nat} {m : List Nd} (h : BagL l m) : Roll (leaves l m) := by
  have := pow_pos' l
  refine ⟨?_, fun x hx => ?_⟩
  · unfold leaves
    rw [List.pairwise_map]
    exact h.up.imp fun {a b} hab => by simp only; omega
  · obtain ⟨y, hy, rfl⟩ := List.mem_map.1 hx
    have := h.val y hy
    simp only; omega
theorem leaves_sum (l : Nat) (m : List Nd) : sumR (leaves l m) = sumR m := by
  induction m with
  | nil => rfl
  | cons x m ih => simp only [leaves, List.map_cons, sumR] at ih ⊢; rw [ih]
theorem leaves_add (l : Nat) (m : List Nd) (x c : Int) : leaves l (addR m x c) = addR (leaves l m) (2 ^ l + x) c := by
  induction m with
  | nil => rfl
  | cons z m ih =>
    simp only [addR, leaves, List.map_cons] at ih ⊢
    by_cases h1 : z.1 = x
    · rw [if_pos h1, if_pos (show (2 : Int) ^ l + z.1 = 2 ^ l + x by omega)]; simp
    · rw [if_neg h1, if_neg (show ¬ (2 : Int) ^ l + z.1 = 2 ^ l + x by omega)]
      by_cases h2 : x < z.1
      · rw [if_pos h2, if_pos (show (2 : Int) ^ l + x < 2 ^ l + z.1 by omega)]; simp
      · rw [if_neg h2, if_neg (show ¬ (2 : Int) ^ l + x < 2 ^ l + z.1 by omega)]; simp [ih]
theorem leaves_rank {l : Nat} (hl : 1 ≤ l ∧ l ≤ 48) : ∀ {m : List Nd}, (∀ x ∈ m, 0 ≤ x.1 ∧ x.1 < 2 ^ l) → ∀ (y : Int), rankQ l (leaves l m) y = betwB m 0 y := by
  intro m
  induction m with
  | nil => intro _ y; rfl
  | cons x m ih =>
    intro h y
    have hx := h x (by simp)
    obtain ⟨n1, n2, n3⟩ := leaf_node hl hx.1 hx.2
    have := ih (fun y hy => h y (by simp [hy])) y
    simp only [rankQ, lowOf, leaves, List.map_cons, weighR, betwB] at this ⊢
    rw [this]
    congr 1
    unfold hiN at n3
    simp only [n3, decide_eq_true_eq]
    by_cases h1 : x.1 ≤ y
    · rw [if_pos h1, if_pos ⟨hx.1, h1⟩]
    · rw [if_neg h1, if_neg (by omega)]
def culIs (f : Int → Int) (L : List Int) (r : Int × Int) : Prop := (r = (0, 0) ∧ ∀ x ∈ L, f x ≤ 0) ∨ (r.1 ∈ L ∧ r.2 = f r.1 ∧ 0 < f r.1 ∧ ∀ x ∈ L, 0 < f x → r.1 ≤ x)
end Go.Proofs.YtcjnchjmpkapmaaGreat
/- Leaves: package twig, and the reference of layer 2. -/
namespace Go.Proofs.YtcjnchjmpkapmaaGreat
open Go.ChangeShapes Go.WideShapes Go.ChangeAt Go.RowKit
set_option linter.unusedVariables false
set_option maxRecDepth 100000

def isVal (l : Nat) (x : Int) : Bool := decide (0 ≤ x) && decide (x < 2 ^ l)
def leafV (l : Nat) (x : Int) : Value := .tuple #[.int .i64 (if isVal l x = true then 2 ^ l + x else 0), .bool (isVal l x)]
theorem leafV_yes {l : Nat} {x : Int} (h : isVal l x = true) : leafV l x = .tuple #[.int .i64 (2 ^ l + x), .bool true] := by unfold leafV; rw [h]; rfl
theorem leafV_no {l : Nat} {x : Int} (h : isVal l x = false) : leafV l x = .tuple #[.int .i64 0, .bool false] := by unfold leafV; rw [h]; rfl
theorem or_leaf {l : Nat} (h : l ≤ 48) {x : Int} (h0 : 0 ≤ x) (h1 : x < 2 ^ l) : bits .or .i64 (2 ^ l) x = 2 ^ l + x := by
  have p1 := pow_48 h
  have p2 := pow_pos' l
  exact bits_join .i64 63 (by decide) (fun n h0 h1 => by rw [IntKind.wrap_i64]; omega) l (2 ^ l) x (by omega) (Int.emod_self) (by omega) h0 h1 (by omega)
theorem twig_Leaf (w : World) (l : Nat) (x : Int) (h1 : 1 ≤ l) (h2 : l ≤ 48) : Calls Tryz.prog 151 #[.int .i64 l, .int .i64 x] w fun e w' => e = .returned (leafV l x) ∧ Below w.heap.size w w' := by
  have p1 := pow_48 h2
  have p2 := pow_pos' l
  have HU := Lib.hid (show decide (1 ≤ (l : Int) ∧ (l : Int) ≤ 48) = true by simp; omega)
  have l1 : (1 : Int) ≤ (l : Int) := by omega
  have l2 : (l : Int) ≤ 48 := by omega
  by_cases hx0 : x < 0
  · rw [leafV_no (by unfold isVal; simp; omega)]
    go_enter Tryz.func151, Tryz.ntmps151
    go_wp2_with fail
    refine (universe_ _ _).mono ?_
    rintro e w1 ⟨rfl, hb1⟩
    have B1 : Below w.heap.size w w1 := Below.then_ (by repeat (first | with_reducible exact Below.refl _ _ | with_reducible assumption | ((with_reducible refine Below.setCell ?_ ?_ _); rotate_left; · (first | omega | exact Nat.le_refl _ | (simp <;> omega))) | (with_reducible refine Below.allocW ?_ _) | (with_reducible refine Below.drew ?_) | (with_reducible refine Below.extW ?_ _))) hb1
    have s1 : w.heap.size ≤ w1.heap.size := B1.size
    rw [HU.out]
    go_wp2_with fail
    go_ret2
    exact ⟨rfl, B1⟩
  · have k0 : decide (x < 0) = false := by simpa using hx0
    by_cases hx1 : x < 2 ^ l
    · rw [leafV_yes (by unfold isVal; simp; omega)]
      have HO := Lib.hid (or_leaf h2 (show 0 ≤ x by omega) hx1)
      have k1 : decide ((2 : Int) ^ l ≤ x) = false := by simp; omega
      go_enter Tryz.func151, Tryz.ntmps151
      go_wp2_with fail
      refine (universe_ _ _).mono ?_
      rintro e w1 ⟨rfl, hb1⟩
      have B1 : Below w.heap.size w w1 := Below.then_ (by repeat (first | with_reducible exact Below.refl _ _ | with_reducible assumption | ((with_reducible refine Below.setCell ?_ ?_ _); rotate_left; · (first | omega | exact Nat.le_refl _ | (simp <;> omega))) | (with_reducible refine Below.allocW ?_ _) | (with_reducible refine Below.drew ?_) | (with_reducible refine Below.extW ?_ _))) hb1
      have s1 : w.heap.size ≤ w1.heap.size := B1.size
      rw [HU.out]
      go_wp2_with fail
      go_ret2
      exact ⟨by simp [HO.out], B1⟩
    · rw [leafV_no (by unfold isVal; simp; omega)]
      have k1 : decide ((2 : Int) ^ l ≤ x) = true := by simp; omega
      go_enter Tryz.func151, Tryz.ntmps151
      go_wp2_with fail
      refine (universe_ _ _).mono ?_
      rintro e w1 ⟨rfl, hb1⟩
      have B1 : Below w.heap.size w w1 := Below.then_ (by repeat (first | with_reducible exact Below.refl _ _ | with_reducible assumption | ((with_reducible refine Below.setCell ?_ ?_ _); rotate_left; · (first | omega | exact Nat.le_refl _ | (simp <;> omega))) | (with_reducible refine Below.allocW ?_ _) | (with_reducible refine Below.drew ?_) | (with_reducible refine Below.extW ?_ _))) hb1
      have s1 : w.heap.size ≤ w1.heap.size := B1.size
      rw [HU.out]
      go_wp2_with fail
      go_ret2
      exact ⟨rfl, B1⟩
end Go.Proofs.YtcjnchjmpkapmaaGreat
/- What a bag's Add leaves, and tells. Plain. -/
namespace Go.Proofs.YtcjnchjmpkapmaaGreat
open Go.ChangeShapes Go.WideShapes Go.ChangeAt Go.RowKit
set_option linter.unusedVariables false

def addB (l : Nat) (m : List Nd) (x c : Int) : List Nd × Int :=
  if isVal l x = false then (m, 3) else if c < 1 then (m, 4) else if 72057594037927935 < sumR m + c then (m, 5) else (addR m x c, 0)
theorem addR_len (m : List Nd) (x c : Int) : (addR m x c).length ≤ m.length + 1 := by
  induction m with
  | nil => simp [addR]
  | cons z m ih => simp only [addR]; split <;> (try split) <;> simp <;> omega
theorem addB_len (l : Nat) (m : List Nd) (x c : Int) : (addB l m x c).1.length ≤ m.length + 1 := by
  unfold addB
  have := addR_len m x c
  split
  · simp
  · split
    · simp
    · split <;> simp <;> omega
end Go.Proofs.YtcjnchjmpkapmaaGreat
/- What a digest of calls holds, and the bag of all that was accepted. Plain laws. -/
namespace Go.Proofs.YtcjnchjmpkapmaaGreat
open Go.ChangeShapes Go.WideShapes Go.ChangeAt Go.RowKit
set_option linter.unusedVariables false

def insErr (l : Nat) (r : List Nd) (x c : Int) : Int := if isVal l x = false then 3 else if c < 1 then 4 else if 72057594037927935 < sumR r + c then 5 else 0
def PreTo (l : Nat) (k : Int) (r : List Nd) (id : Int) (s : List Nd) : Prop :=
  (getR r id = 0 ∧ 8 * k ≤ r.length ∧ ∃ ps, RunTo l (sumR r / k) r ps s) ∨ (¬ (getR r id = 0 ∧ 8 * k ≤ r.length) ∧ s = r)
def InsTo (l : Nat) (k : Int) (r : List Nd) (x c : Int) (r' : List Nd) : Prop :=
  (insErr l r x c ≠ 0 ∧ r' = r) ∨ (insErr l r x c = 0 ∧ ∃ s, PreTo l k r (2 ^ l + x) s ∧ r' = addR s (2 ^ l + x) c)
abbrev Op3 := Int × Int × Int
def DoTo (l : Nat) (k : Int) (r : List Nd) (o : Op3) (r' : List Nd) (n : Int) : Prop :=
  (o.1 = 1 ∧ ∃ ps, RunTo l (sumR r / k) r ps r' ∧ n = ps.length) ∨ (o.1 = 2 ∧ r' = [] ∧ n = 0) ∨ (o.1 ≠ 1 ∧ o.1 ≠ 2 ∧ InsTo l k r o.2.1 o.2.2 r' ∧ n = insErr l r o.2.1 o.2.2)
theorem ins_ok {l : Nat} {r : List Nd} {x c : Int} (h : insErr l r x c = 0) : isVal l x = true ∧ 1 ≤ c ∧ sumR r + c ≤ 72057594037927935 := by
  unfold insErr at h
  split at h
  · omega
  · rename_i h1
    split at h
    · omega
    · split at h
      · omega
      · exact ⟨by simpa using h1, by omega, by omega⟩
theorem isVal_iff {l : Nat} {x : Int} : isVal l x = true ↔ 0 ≤ x ∧ x < 2 ^ l := by simp [isVal]
theorem PreTo.same {l : Nat} {k : Int} {r s : List Nd} {id : Int} (h : PreTo l k r id s) (hf : Fits l r) : Fits l s ∧ sumR s = sumR r ∧ s.length ≤ r.length := by
  rcases h with ⟨_, _, ps, h⟩ | ⟨_, rfl⟩
  · exact ⟨h.folded.fits hf, h.folded.sum hf, h.folded.len hf⟩
  · exact ⟨hf, rfl, Nat.le_refl _⟩
theorem DoTo.len {l : Nat} {k : Int} {r r' : List Nd} {o : Op3} {n : Int} (h : DoTo l k r o r' n) (hf : Fits l r) : r'.length ≤ r.length + 1 := by
  rcases h with ⟨_, ps, h, _⟩ | ⟨_, rfl, _⟩ | ⟨_, _, h, _⟩
  · have := h.folded.len hf; omega
  · simp
  · rcases h with ⟨_, rfl⟩ | ⟨_, s, h, rfl⟩
    · omega
    · have := (h.same hf).2.2
      have := addR_len s (2 ^ l + o.2.1) o.2.2
      omega
structure Held (l : Nat) (k : Int) (r m : List Nd) : Prop where
  fits : Fits l r
  flow : Flow l r (leaves l m)
  bag : BagL l m
  light : lightOf l r k = true
theorem Held.nil (l : Nat) (k : Int) : Held l k [] [] := ⟨Fits.nil l, Flow.nil l, .nil l, rfl⟩
section
variable {l : Nat} {k : Int} {r m : List Nd}
theorem Held.sum (h : Held l k r m) : sumR r = sumR m := by
  rw [h.flow.sum h.fits.roll (leaves_roll h.bag), leaves_sum]
theorem Held.run (h : Held l k r m) {ps : List Int} {s : List Nd} (hR : RunTo l (sumR r / k) r ps s) : Held l k s m :=
  ⟨hR.folded.fits h.fits, hR.folded.flow h.fits h.flow, h.bag, hR.folded.light h.fits h.light⟩
theorem Held.pre (h : Held l k r m) {id : Int} {s : List Nd} (hp : PreTo l k r id s) : Held l k s m := by
  rcases hp with ⟨_, _, ps, hp⟩ | ⟨_, rfl⟩
  · exact h.run hp
  · exact h
theorem leaf_inner {l : Nat} {x : Int} (h0 : 0 ≤ x) : (kidsOf l (2 ^ l + x)).2.2 = false := by
  rw [← Bool.not_eq_true, kids_iff]
  omega
theorem Held.add (h : Held l k r m) (hl : 1 ≤ l ∧ l ≤ 48) (hk : 1 ≤ k) {x c : Int} (h0 : 0 ≤ x) (h1 : x < 2 ^ l) (hc : 1 ≤ c) (hs : sumR r + c ≤ 72057594037927935) : Held l k (addR r (2 ^ l + x) c) (addR m x c) := by
  have hp := pow_pos' l
  refine ⟨h.fits.add (by omega) (by omega) hc hs, ?_, h.bag.add h0 h1 hc (by rw [← h.sum]; exact hs), add_light h.fits.roll hk h.light hc (leaf_inner h0)⟩
  rw [leaves_add]
  exact h.flow.add h.fits.roll (leaves_roll h.bag) (leaf_node hl h0 h1).1 hc
def bagDo (l : Nat) (m : List Nd) (o : Op3) (n : Int) : List Nd := if o.1 = 2 then [] else if o.1 ≠ 1 ∧ n = 0 then (addB l m o.2.1 o.2.2).1 else m
theorem Held.do_ (h : Held l k r m) (hl : 1 ≤ l ∧ l ≤ 48) (hk : 1 ≤ k) {o : Op3} {r' : List Nd} {n : Int} (hd : DoTo l k r o r' n) : Held l k r' (bagDo l m o n) := by
  unfold bagDo
  rcases hd with ⟨h1, ps, hR, _⟩ | ⟨h1, rfl, _⟩ | ⟨h1, h2, hI, hn⟩
  · rw [if_neg (by omega), if_neg (by omega)]; exact h.run hR
  · rw [if_pos h1]; exact .nil l k
  · rw [if_neg h2]
    rcases hI with ⟨h3, rfl⟩ | ⟨h3, s, hp, rfl⟩
    · rw [if_neg (by rw [hn]; exact fun h => h3 h.2)]; exact h
    · rw [if_pos ⟨h1, by rw [hn]; exact h3⟩]
      obtain ⟨v1, v2, v3⟩ := ins_ok h3
      obtain ⟨w1, w2⟩ := isVal_iff.1 v1
      have hm : sumR m + o.2.2 ≤ 72057594037927935 := by rw [← h.sum]; exact v3
      have e : (addB l m o.2.1 o.2.2).1 = addR m o.2.1 o.2.2 := by
        unfold Go.Proofs.YtcjnchjmpkapmaaGreat.addB
        rw [if_neg (by simp [v1]), if_neg (by omega), if_neg (by omega)]
      rw [e]
      exact (h.pre hp).add hl hk w1 w2 v2 (by rw [(hp.same h.fits).2.1]; exact v3)
theorem bagDo_len (l : Nat) (m : List Nd) (o : Op3) (n : Int) : (bagDo l m o n).length ≤ m.length + 1 := by
  unfold bagDo
  have := addB_len l m o.2.1 o.2.2
  split
  · simp
  · split <;> omega
theorem Held.rank (h : Held l k r m) (hl : 1 ≤ l ∧ l ≤ 48) (hk : 1 ≤ k) (y : Int) : lowOf l r y ≤ betwB m 0 y ∧ betwB m 0 y ≤ highOf l r y ∧ highOf l r y - lowOf l r y ≤ l * (sumR m / k) := by
  have hq := leaves_roll h.bag
  have h1 := rank_holds h.flow h.fits.roll hq y
  rw [leaves_rank hl fun x hx => ⟨(h.bag.val x hx).1, (h.bag.val x hx).2.1⟩] at h1
  have h0 : 0 ≤ sumR r / k := Int.ediv_nonneg (sumR_nonneg h.fits.roll) (by omega)
  have h2 := around_le h.fits.roll (h.fits.nodes hl) h.light h0 hl y
  rw [h.sum] at h2
  exact ⟨h1.1, h1.2, by rw [high_low (h.fits.nodes hl)]; exact h2⟩
end
end Go.Proofs.YtcjnchjmpkapmaaGreat
/- Package digest: Len, Room, Cap, Compress, Reset, Insert. -/
namespace Go.Proofs.YtcjnchjmpkapmaaGreat
open Go.ChangeShapes Go.WideShapes Go.ChangeAt Go.RowKit
set_option linter.unusedVariables false
set_option linter.unusedSimpArgs false
set_option maxRecDepth 100000

def DigTo (w : World) (g K l : Nat) (k : Int) (s : List Nd) (F : Nat → Prop) (w' : World) : Prop := ∃ F', DigAt w' g K l k s F' ∧ Turn F w w' ∧ Grow w F F'
theorem DigTo.below {w : World} {g K l : Nat} {k : Int} {s : List Nd} {F : Nat → Prop} {w' : World} (h : DigAt w g K l k s F) (hb : Below w.heap.size w w') : DigTo w g K l k s F w' := ⟨F, h.below hb, .of_below hb, Grow.refl⟩
theorem PoolAt.not_dig {w : World} {p K l g : Nat} {r : List Nd} {F : Nat → Prop} (h : PoolAt w p K l r F) {cs : Array Value} (hh : w.heap[g]? = some (.cells cs 178 (0, 0))) : ¬ F g := fun hf => by
  obtain ⟨t, ht, ha⟩ := h.typed g hf
  have := typeAt_eq ha (.of hh)
  subst this
  rcases ht with h | h | h | h | h <;> revert h <;> decide
theorem DigAt.parts {w : World} {g K l : Nat} {k : Int} {r : List Nd} {F : Nat → Prop} (h : DigAt w g K l k r F) : ∃ p F0, F = footP g F0 ∧ w.heap[g]? = some (.cells #[.int .i64 k, .pointer (some ⟨p, 0, none⟩)] 178 (0, 0)) ∧ PoolAt w p K l r F0 ∧ ¬ F0 g ∧ 1 ≤ k ∧ k ≤ 1048576 := by
  obtain ⟨h1, h2, p, F0, hF, hh, hP⟩ := h
  exact ⟨p, F0, hF, hh, hP, hP.not_dig hh, h1, h2⟩
theorem digest_Len (w : World) (g K l : Nat) (k : Int) (r : List Nd) (F : Nat → Prop) (h : DigAt w g K l k r F) : Calls Tryz.prog 139 #[.pointer (some ⟨g, 0, none⟩)] w fun e w' => e = .returned (.int .i64 r.length) ∧ Below w.heap.size w w' := by
  obtain ⟨h1, h2, p, F0, rfl, hh, hP⟩ := h
  have c := blk_cell hh
  have z := lt_of_block hh
  have HP := Lib.hid hP
  clear hh hP
  go_enter Tryz.func139, Tryz.ntmps139
  go_wp2_with fail
  refine (pool_Len _ p K l r F0 HP.out).mono ?_
  rintro e w1 ⟨rfl, hb1⟩
  have B1 : Below w.heap.size w w1 := Below.then_ (by repeat (first | with_reducible exact Below.refl _ _ | with_reducible assumption | ((with_reducible refine Below.setCell ?_ ?_ _); rotate_left; · (first | omega | exact Nat.le_refl _ | (simp <;> omega))) | (with_reducible refine Below.allocW ?_ _) | (with_reducible refine Below.drew ?_) | (with_reducible refine Below.extW ?_ _))) hb1
  have s1 : w.heap.size ≤ w1.heap.size := B1.size
  go_wp2_with fail
  go_ret
  exact ⟨rfl, (by repeat (first | with_reducible exact Below.refl _ _ | with_reducible assumption | ((with_reducible refine Below.setCell ?_ ?_ _); rotate_left; · (first | omega | exact Nat.le_refl _ | (simp <;> omega))) | (with_reducible refine Below.allocW ?_ _) | (with_reducible refine Below.drew ?_) | (with_reducible refine Below.extW ?_ _)))⟩
theorem made_room (w : World) (k : Int) (h1 : 1 ≤ k) (h2 : k ≤ 1048576) : Calls Tryz.prog 202 #[.agg #[.int .i64 k]] w fun e w' => e = .returned (.int .i64 (8 * k)) ∧ Below w.heap.size w w' := by
  go_enter Tryz.func202, Tryz.ntmps202
  go_wp2_with fail
  go_ret
  exact ⟨rfl, (by repeat (first | with_reducible exact Below.refl _ _ | with_reducible assumption | ((with_reducible refine Below.setCell ?_ ?_ _); rotate_left; · (first | omega | exact Nat.le_refl _ | (simp <;> omega))) | (with_reducible refine Below.allocW ?_ _) | (with_reducible refine Below.drew ?_) | (with_reducible refine Below.extW ?_ _)))⟩
def CompPost (g K l : Nat) (k : Int) (r : List Nd) (F : Nat → Prop) (w : World) (e : Ending) (w' : World) : Prop :=
  ∃ (ps : List Int) (s : List Nd), e = .returned (.int .i64 ps.length) ∧ RunTo l (sumR r / k) r ps s ∧ DigTo w g K l k s F w'
theorem digest_Compress (w : World) (g K l : Nat) (k : Int) (r : List Nd) (F : Nat → Prop) (h : DigAt w g K l k r F) (hn : r.length ≤ 67108864) :
    Calls Tryz.prog 101 #[.pointer (some ⟨g, 0, none⟩)] w (CompPost g K l k r F w) := by
  obtain ⟨h1, h2, p, F0, rfl, hh, hP⟩ := h
  have hgF := hP.not_dig hh
  have c := blk_cell hh
  have z := lt_of_block hh
  have HR := Lib.hid (fun W h => press_Run W p K l r F0 h hn k h1 h2)
  have HP := Lib.hid hP
  have HH := Lib.hid hh
  unfold CompPost
  generalize sumR r / k = most at HR ⊢
  clear hh hP
  go_enter Tryz.func101, Tryz.ntmps101
  go_upto_region 3 with fail
  go_region_with (first
    | (go_at_call 188; refine (HR.out w.drew (HP.out.keep fun _ _ => rfl)).mono ?_; rintro e w1 ⟨ps, s, rfl, hR, _, F1, hP1, hT, hG⟩; have HE : Hid (RunTo l most r ps s ∧ DigTo w g K l k s (footP g F0) w1) := Lib.hid ⟨hR, footP g F1, ⟨h1, h2, p, F1, rfl, hT.keep (w := w.drew) HH.out hgF, hP1⟩, ((Turn.refl _ w).drew.trans hT Grow.refl).mono (fun b _ hb => .inr hb), hG.foot (w := w.drew)⟩; clear hR hP1 hT hG))
  all_goals
    clear c z
    go_wp2_with fail
    go_ret
    exact ⟨ps, s, rfl, HE.out⟩
theorem digest_Insert (w : World) (g K l : Nat) (k : Int) (r : List Nd) (F : Nat → Prop) (h : DigAt w g K l k r F) (hn : r.length ≤ 67108864) (x c : Int) :
    Calls Tryz.prog 103 #[.pointer (some ⟨g, 0, none⟩), .int .i64 x, .int .i64 c] w fun e w' => ∃ r', e = .returned (.int .i64 (insErr l r x c)) ∧ InsTo l k r x c r' ∧ DigTo w g K l k r' F w' := by
  have hD := Lib.hid h
  have hll := h.l_le
  have hCo := Lib.hid (fun W h => digest_Compress W g K l k r F h hn)
  have hLn := Lib.hid (fun W h => digest_Len W g K l k r F h)
  obtain ⟨h1, h2, p, F0, hFe, hh, hP⟩ := h
  have s0 := sumR_nonneg hP.fits.roll
  have s1 := hP.fits.sum
  have HL := Lib.hid (fun W h => pool_L W p K l r F0 h)
  have HT := Lib.hid (fun W h => pool_Total W p K l r F0 h)
  have HLf := Lib.hid (fun W => twig_Leaf W l x hll.1 hll.2)
  have HP := Lib.hid hP
  have c0 := blk_cell hh
  have z0 := lt_of_block hh
  cases hv : isVal l x
  · have e1 : insErr l r x c = 3 := by unfold insErr; rw [if_pos hv]
    have HE : Hid (InsTo l k r x c r) := Lib.hid (.inl ⟨by rw [e1]; omega, rfl⟩)
    rw [e1]
    rw [leafV_no hv] at HLf
    clear hh hP hv e1
    go_enter Tryz.func103, Tryz.ntmps103
    go_wp2_with fail
    refine (HL.out _ HP.out).mono ?_
    rintro e w1 ⟨rfl, hb1⟩
    have B1 : Below w.heap.size w w1 := Below.then_ (by repeat (first | with_reducible exact Below.refl _ _ | with_reducible assumption | ((with_reducible refine Below.setCell ?_ ?_ _); rotate_left; · (first | omega | exact Nat.le_refl _ | (simp <;> omega))) | (with_reducible refine Below.allocW ?_ _) | (with_reducible refine Below.drew ?_) | (with_reducible refine Below.extW ?_ _))) hb1
    have s1 : w.heap.size ≤ w1.heap.size := B1.size
    have z1_0 : g < w1.heap.size := by have := hb1.size; (try simp at this); omega
    have y1_0 : g ≤ w1.heap.size := Nat.le_of_lt z1_0
    have c1_0 := fun o => hb1.cell (p := ⟨g, o, none⟩) (by first | omega | (simp <;> omega))
    have f1_0 := fun o => hb1.frozen (p := ⟨g, o, none⟩) (by first | omega | (simp <;> omega))
    go_wp2_with fail
    refine (HLf.out _).mono ?_
    rintro e w2 ⟨rfl, hb2⟩
    have B2 : Below w.heap.size w w2 := Below.then_ (by repeat (first | with_reducible exact Below.refl _ _ | with_reducible assumption | ((with_reducible refine Below.setCell ?_ ?_ _); rotate_left; · (first | omega | exact Nat.le_refl _ | (simp <;> omega))) | (with_reducible refine Below.allocW ?_ _) | (with_reducible refine Below.drew ?_) | (with_reducible refine Below.extW ?_ _))) hb2
    have s2 : w.heap.size ≤ w2.heap.size := B2.size
    have z2_0 : g < w2.heap.size := by have := hb2.size; (try simp at this); omega
    have y2_0 : g ≤ w2.heap.size := Nat.le_of_lt z2_0
    have c2_0 := fun o => hb2.cell (p := ⟨g, o, none⟩) (by first | omega | (simp <;> omega))
    have f2_0 := fun o => hb2.frozen (p := ⟨g, o, none⟩) (by first | omega | (simp <;> omega))
    go_wp2_with fail
    go_ret
    exact ⟨r, rfl, HE.out, .below hD.out B2⟩
  · rw [leafV_yes hv] at HLf
    by_cases hc : c < 1
    · have e1 : insErr l r x c = 4 := by unfold insErr; rw [if_neg (by simp [hv]), if_pos hc]
      have HE : Hid (InsTo l k r x c r) := Lib.hid (.inl ⟨by rw [e1]; omega, rfl⟩)
      rw [e1]
      clear hh hP hv e1
      go_enter Tryz.func103, Tryz.ntmps103
      go_wp2_with fail
      refine (HL.out _ HP.out).mono ?_
      rintro e w1 ⟨rfl, hb1⟩
      have B1 : Below w.heap.size w w1 := Below.then_ (by repeat (first | with_reducible exact Below.refl _ _ | with_reducible assumption | ((with_reducible refine Below.setCell ?_ ?_ _); rotate_left; · (first | omega | exact Nat.le_refl _ | (simp <;> omega))) | (with_reducible refine Below.allocW ?_ _) | (with_reducible refine Below.drew ?_) | (with_reducible refine Below.extW ?_ _))) hb1
      have s1 : w.heap.size ≤ w1.heap.size := B1.size
      have z1_0 : g < w1.heap.size := by have := hb1.size; (try simp at this); omega
      have y1_0 : g ≤ w1.heap.size := Nat.le_of_lt z1_0
      have c1_0 := fun o => hb1.cell (p := ⟨g, o, none⟩) (by first | omega | (simp <;> omega))
      have f1_0 := fun o => hb1.frozen (p := ⟨g, o, none⟩) (by first | omega | (simp <;> omega))
      go_wp2_with fail
      refine (HLf.out _).mono ?_
      rintro e w2 ⟨rfl, hb2⟩
      have B2 : Below w.heap.size w w2 := Below.then_ (by repeat (first | with_reducible exact Below.refl _ _ | with_reducible assumption | ((with_reducible refine Below.setCell ?_ ?_ _); rotate_left; · (first | omega | exact Nat.le_refl _ | (simp <;> omega))) | (with_reducible refine Below.allocW ?_ _) | (with_reducible refine Below.drew ?_) | (with_reducible refine Below.extW ?_ _))) hb2
      have s2 : w.heap.size ≤ w2.heap.size := B2.size
      have z2_0 : g < w2.heap.size := by have := hb2.size; (try simp at this); omega
      have y2_0 : g ≤ w2.heap.size := Nat.le_of_lt z2_0
      have c2_0 := fun o => hb2.cell (p := ⟨g, o, none⟩) (by first | omega | (simp <;> omega))
      have f2_0 := fun o => hb2.frozen (p := ⟨g, o, none⟩) (by first | omega | (simp <;> omega))
      go_wp2_with fail
      go_ret
      exact ⟨r, rfl, HE.out, .below hD.out B2⟩
    · have hc' : decide (c < 1) = false := by simpa using hc
      by_cases hs : 72057594037927935 < sumR r + c
      · have e1 : insErr l r x c = 5 := by unfold insErr; rw [if_neg (by simp [hv]), if_neg hc, if_pos hs]
        have HE : Hid (InsTo l k r x c r) := Lib.hid (.inl ⟨by rw [e1]; omega, rfl⟩)
        rw [e1]
        generalize sumR r = n at hs s0 s1 HT
        have hs2 : 72057594037927935 - n < c := by omega
        clear hh hP hv e1 hs hc
        go_enter Tryz.func103, Tryz.ntmps103
        go_wp2_with fail
        refine (HL.out _ HP.out).mono ?_
        rintro e w1 ⟨rfl, hb1⟩
        have B1 : Below w.heap.size w w1 := Below.then_ (by repeat (first | with_reducible exact Below.refl _ _ | with_reducible assumption | ((with_reducible refine Below.setCell ?_ ?_ _); rotate_left; · (first | omega | exact Nat.le_refl _ | (simp <;> omega))) | (with_reducible refine Below.allocW ?_ _) | (with_reducible refine Below.drew ?_) | (with_reducible refine Below.extW ?_ _))) hb1
        have s1 : w.heap.size ≤ w1.heap.size := B1.size
        have z1_0 : g < w1.heap.size := by have := hb1.size; (try simp at this); omega
        have y1_0 : g ≤ w1.heap.size := Nat.le_of_lt z1_0
        have c1_0 := fun o => hb1.cell (p := ⟨g, o, none⟩) (by first | omega | (simp <;> omega))
        have f1_0 := fun o => hb1.frozen (p := ⟨g, o, none⟩) (by first | omega | (simp <;> omega))
        go_wp2_with fail
        refine (HLf.out _).mono ?_
        rintro e w2 ⟨rfl, hb2⟩
        have B2 : Below w.heap.size w w2 := Below.then_ (by repeat (first | with_reducible exact Below.refl _ _ | with_reducible assumption | ((with_reducible refine Below.setCell ?_ ?_ _); rotate_left; · (first | omega | exact Nat.le_refl _ | (simp <;> omega))) | (with_reducible refine Below.allocW ?_ _) | (with_reducible refine Below.drew ?_) | (with_reducible refine Below.extW ?_ _))) hb2
        have s2 : w.heap.size ≤ w2.heap.size := B2.size
        have z2_0 : g < w2.heap.size := by have := hb2.size; (try simp at this); omega
        have y2_0 : g ≤ w2.heap.size := Nat.le_of_lt z2_0
        have c2_0 := fun o => hb2.cell (p := ⟨g, o, none⟩) (by first | omega | (simp <;> omega))
        have f2_0 := fun o => hb2.frozen (p := ⟨g, o, none⟩) (by first | omega | (simp <;> omega))
        go_wp2_with fail
        have P2 := Lib.hid (HP.out.below B2)
        refine (HT.out _ P2.out).mono ?_
        rintro e w3 ⟨rfl, hb3⟩
        have B3 : Below w.heap.size w w3 := Below.then_ (by repeat (first | with_reducible exact Below.refl _ _ | with_reducible assumption | ((with_reducible refine Below.setCell ?_ ?_ _); rotate_left; · (first | omega | exact Nat.le_refl _ | (simp <;> omega))) | (with_reducible refine Below.allocW ?_ _) | (with_reducible refine Below.drew ?_) | (with_reducible refine Below.extW ?_ _))) hb3
        have s3 : w.heap.size ≤ w3.heap.size := B3.size
        go_wp2_with fail
        go_ret
        exact ⟨r, rfl, HE.out, .below hD.out B3⟩
      · have e1 : insErr l r x c = 0 := by unfold insErr; rw [if_neg (by simp [hv]), if_neg hc, if_neg hs]
        have hE : ∀ s, PreTo l k r (2 ^ l + x) s → InsTo l k r x c (addR s (2 ^ l + x) c) := fun s hp => .inr ⟨e1, s, hp, rfl⟩
        have HE := Lib.hid hE
        rw [e1]
        obtain ⟨v1, v2, v3⟩ := ins_ok e1
        obtain ⟨y1, y2⟩ := isVal_iff.1 v1
        have hpw := pow_pos' l
        have hp48 := pow_48 hll.2
        obtain ⟨id, hid⟩ : ∃ id : Nat, (2 : Int) ^ l + x = id := ⟨(2 ^ l + x).toNat, by omega⟩
        have hid1 : 1 ≤ id := by omega
        have hid2 : id < 2 * 2 ^ l := by
          have : (id : Int) < 2 * 2 ^ l := by omega
          exact_mod_cast this
        rw [hid] at HLf HE
        have HG := Lib.hid (fun W h => pool_Get W p K l r F0 h id)
        have HPre := Lib.hid (fun s (h : PreTo l k r id s) => h.same hP.fits)
        have HAdd := Lib.hid (fun W q s F' (hs : PreTo l k r id s) h => pool_Add W q K l s F' h id hid1 hid2 c (by omega) (by rw [(hs.same hP.fits).2.1]; omega) (by have := (hs.same hP.fits).2.2; omega))
        have HC1 : Hid (∀ ps s, getR r id = 0 → 8 * k ≤ r.length → RunTo l (sumR r / k) r ps s → PreTo l k r id s) := Lib.hid fun ps s a b h => .inl ⟨a, b, ps, h⟩
        have HC2 : Hid (¬ (getR r id = 0 ∧ 8 * k ≤ r.length) → PreTo l k r id r) := Lib.hid fun h => .inr ⟨h, rfl⟩
        have hs2 : decide (72057594037927935 - sumR r < c) = false := by simp; omega
        have hlr : (r.length : Int) ≤ 67108864 := by omega
        have HFe := Lib.hid hFe
        have HH := Lib.hid hh
        generalize sumR r = n at hs2 s0 s1 HT
        obtain ⟨gt, hgt⟩ : ∃ gt, gt = getR r id := ⟨_, rfl⟩
        rw [← hgt] at HG HC1 HC2
        clear hh hP hv e1 hs hc v1 v2 v3 y1 y2 hpw hp48 hid hid1 hid2 hE hgt HPre hFe
        go_enter Tryz.func103, Tryz.ntmps103
        go_wp2_with fail
        refine (HL.out _ HP.out).mono ?_
        rintro e w1 ⟨rfl, hb1⟩
        have B1 : Below w.heap.size w w1 := Below.then_ (by repeat (first | with_reducible exact Below.refl _ _ | with_reducible assumption | ((with_reducible refine Below.setCell ?_ ?_ _); rotate_left; · (first | omega | exact Nat.le_refl _ | (simp <;> omega))) | (with_reducible refine Below.allocW ?_ _) | (with_reducible refine Below.drew ?_) | (with_reducible refine Below.extW ?_ _))) hb1
        have s1 : w.heap.size ≤ w1.heap.size := B1.size
        have z1_0 : g < w1.heap.size := by have := hb1.size; (try simp at this); omega
        have y1_0 : g ≤ w1.heap.size := Nat.le_of_lt z1_0
        have c1_0 := fun o => hb1.cell (p := ⟨g, o, none⟩) (by first | omega | (simp <;> omega))
        have f1_0 := fun o => hb1.frozen (p := ⟨g, o, none⟩) (by first | omega | (simp <;> omega))
        go_wp2_with fail
        refine (HLf.out _).mono ?_
        rintro e w2 ⟨rfl, hb2⟩
        have B2 : Below w.heap.size w w2 := Below.then_ (by repeat (first | with_reducible exact Below.refl _ _ | with_reducible assumption | ((with_reducible refine Below.setCell ?_ ?_ _); rotate_left; · (first | omega | exact Nat.le_refl _ | (simp <;> omega))) | (with_reducible refine Below.allocW ?_ _) | (with_reducible refine Below.drew ?_) | (with_reducible refine Below.extW ?_ _))) hb2
        have s2 : w.heap.size ≤ w2.heap.size := B2.size
        have z2_0 : g < w2.heap.size := by have := hb2.size; (try simp at this); omega
        have y2_0 : g ≤ w2.heap.size := Nat.le_of_lt z2_0
        have c2_0 := fun o => hb2.cell (p := ⟨g, o, none⟩) (by first | omega | (simp <;> omega))
        have f2_0 := fun o => hb2.frozen (p := ⟨g, o, none⟩) (by first | omega | (simp <;> omega))
        go_wp2_with fail
        have P2 := Lib.hid (HP.out.below B2)
        refine (HT.out _ P2.out).mono ?_
        rintro e w3 ⟨rfl, hb3⟩
        have B3 : Below w.heap.size w w3 := Below.then_ (by repeat (first | with_reducible exact Below.refl _ _ | with_reducible assumption | ((with_reducible refine Below.setCell ?_ ?_ _); rotate_left; · (first | omega | exact Nat.le_refl _ | (simp <;> omega))) | (with_reducible refine Below.allocW ?_ _) | (with_reducible refine Below.drew ?_) | (with_reducible refine Below.extW ?_ _))) hb3
        have s3 : w.heap.size ≤ w3.heap.size := B3.size
        have z3_0 : g < w3.heap.size := by have := hb3.size; (try simp at this); omega
        have y3_0 : g ≤ w3.heap.size := Nat.le_of_lt z3_0
        have c3_0 := fun o => hb3.cell (p := ⟨g, o, none⟩) (by first | omega | (simp <;> omega))
        have f3_0 := fun o => hb3.frozen (p := ⟨g, o, none⟩) (by first | omega | (simp <;> omega))
        have P3 := Lib.hid (HP.out.below B3)
        have D3 := Lib.hid (hD.out.below B3)
        have BB3 := Lib.hid B3
        clear hb1 hb2 hb3 B1 B2 B3 P2
        by_cases h0 : gt = 0
        · subst h0
          by_cases h8 : 8 * k ≤ r.length
          · have HC3 := Lib.hid (fun ps s h => HC1.out ps s rfl h8 h)
            clear HC1 HC2
            go_wp2_with fail
            refine wp_region_ext (by kernel_rfl) (by kernel_rfl) ?_
            repeat (go_big_quiet_step (first | (go_at_call 201; exact quiet_ext (HG.out _ (P3.out.below (ext_below _ _)))) | (go_at_call 139; exact quiet_ext (hLn.out _ (D3.out.below (ext_below _ _)))) | (go_at_call 202; exact quiet_ext (made_room _ k h1 h2))))
            refine wpQuiet_nil ?_
            intro w4 hb4
            replace hb4 := below_of_ext hb4
            have D4 := Lib.hid (D3.out.below hb4)
            have B4 := Lib.hid (BB3.out.trans (hb4.mono BB3.out.size))
            clear hb4 P3 D3 BB3
            go_wp2_with fail
            refine (hCo.out w4 D4.out).mono ?_
            rintro e w5 ⟨ps, s, rfl, hR, F5, hD5, hT5, hG5⟩
            have HPs := Lib.hid (HC3.out ps s hR)
            replace hT5 : Turn F w w5 := (Turn.of_below B4.out).trans hT5 Grow.refl
            replace hG5 : Grow w F F5 := fun b hb => (hG5 b hb).imp (fun h => h) fun h => Nat.le_trans B4.out.size h
            clear hR D4 B4
            obtain ⟨p5, F05, rfl, hh5, hP5, hgF5, _, _⟩ := hD5.parts
            have P5 := Lib.hid hP5
            have H5 := Lib.hid hh5
            have T5 := Lib.hid hT5
            have G5 := Lib.hid hG5
            have c5 := blk_cell hh5
            have z5 := lt_of_block hh5
            clear hD5 hP5 hh5 hT5 hG5 c0 z0
            go_wp2_with fail
            refine (HAdd.out w5 p5 s F05 HPs.out P5.out).mono ?_
            rintro e w6 ⟨F6, rfl, hP6, hT6, hG6⟩
            have HF : Hid (DigTo w g K l k (addR s id c) F w6) := Lib.hid ⟨footP g F6, ⟨h1, h2, p5, F6, rfl, hT6.keep H5.out hgF5, hP6⟩, T5.out.trans (hT6.mono fun b _ hb => .inr hb) G5.out, G5.out.trans hG6.foot T5.out.size⟩
            clear hP6 hT6 hG6 c5 z5
            go_wp2_with fail
            go_ret
            exact ⟨_, rfl, HE.out s HPs.out, HF.out⟩
          · have HPs0 := Lib.hid (HC2.out fun h => h8 h.2)
            have h8' : decide (8 * k ≤ (r.length : Int)) = false := by simpa using h8
            obtain ⟨s, hs⟩ : ∃ s, s = r := ⟨_, rfl⟩
            have HPs : Hid (PreTo l k r id s) := Lib.hid (by rw [hs]; exact HPs0.out)
            clear HPs0
            clear HC1 HC2 h8
            go_wp2_with fail
            refine wp_region_ext (by kernel_rfl) (by kernel_rfl) ?_
            repeat (go_big_quiet_step (first | (go_at_call 201; exact quiet_ext (HG.out _ (P3.out.below (ext_below _ _)))) | (go_at_call 139; exact quiet_ext (hLn.out _ (D3.out.below (ext_below _ _)))) | (go_at_call 202; exact quiet_ext (made_room _ k h1 h2))))
            refine wpQuiet_nil ?_
            intro w5 hb4
            replace hb4 := below_of_ext hb4
            have hT5 : Turn F w w5 := Turn.of_below (BB3.out.trans (hb4.mono BB3.out.size))
            obtain ⟨F5, hF5⟩ : ∃ F5, F5 = F := ⟨_, rfl⟩
            have hG5 : Grow w F F5 := by rw [hF5]; exact Grow.refl
            have hD5 := D3.out.below hb4
            rw [← hF5] at hD5
            clear hF5
            clear hb4 P3 D3 BB3
            rw [← hs] at hD5
            obtain ⟨p5, F05, rfl, hh5, hP5, hgF5, _, _⟩ := hD5.parts
            have P5 := Lib.hid hP5
            have H5 := Lib.hid hh5
            have T5 := Lib.hid hT5
            have G5 := Lib.hid hG5
            have c5 := blk_cell hh5
            have z5 := lt_of_block hh5
            clear hD5 hP5 hh5 hT5 hG5 c0 z0
            go_wp2_with fail
            refine (HAdd.out w5 p5 s F05 HPs.out P5.out).mono ?_
            rintro e w6 ⟨F6, rfl, hP6, hT6, hG6⟩
            have HF : Hid (DigTo w g K l k (addR s id c) F w6) := Lib.hid ⟨footP g F6, ⟨h1, h2, p5, F6, rfl, hT6.keep H5.out hgF5, hP6⟩, T5.out.trans (hT6.mono fun b _ hb => .inr hb) G5.out, G5.out.trans hG6.foot T5.out.size⟩
            clear hP6 hT6 hG6 c5 z5
            go_wp2_with fail
            go_ret
            exact ⟨_, rfl, HE.out s HPs.out, HF.out⟩
        · have HPs0 := Lib.hid (HC2.out fun h => h0 h.1)
          have h0' : (gt == 0) = false := by simpa using h0
          obtain ⟨s, hs⟩ : ∃ s, s = r := ⟨_, rfl⟩
          have HPs : Hid (PreTo l k r id s) := Lib.hid (by rw [hs]; exact HPs0.out)
          clear HPs0
          clear HC1 HC2 h0
          go_wp2_with fail
          refine wp_region_ext (by kernel_rfl) (by kernel_rfl) ?_
          repeat (go_big_quiet_step (first | (go_at_call 201; exact quiet_ext (HG.out _ (P3.out.below (ext_below _ _)))) | (go_at_call 139; exact quiet_ext (hLn.out _ (D3.out.below (ext_below _ _)))) | (go_at_call 202; exact quiet_ext (made_room _ k h1 h2))))
          refine wpQuiet_nil ?_
          intro w5 hb4
          replace hb4 := below_of_ext hb4
          have hT5 : Turn F w w5 := Turn.of_below (BB3.out.trans (hb4.mono BB3.out.size))
          obtain ⟨F5, hF5⟩ : ∃ F5, F5 = F := ⟨_, rfl⟩
          have hG5 : Grow w F F5 := by rw [hF5]; exact Grow.refl
          have hD5 := D3.out.below hb4
          rw [← hF5] at hD5
          clear hF5
          clear hb4 P3 D3 BB3
          rw [← hs] at hD5
          obtain ⟨p5, F05, rfl, hh5, hP5, hgF5, _, _⟩ := hD5.parts
          have P5 := Lib.hid hP5
          have H5 := Lib.hid hh5
          have T5 := Lib.hid hT5
          have G5 := Lib.hid hG5
          have c5 := blk_cell hh5
          have z5 := lt_of_block hh5
          clear hD5 hP5 hh5 hT5 hG5 c0 z0
          go_wp2_with fail
          refine (HAdd.out w5 p5 s F05 HPs.out P5.out).mono ?_
          rintro e w6 ⟨F6, rfl, hP6, hT6, hG6⟩
          have HF : Hid (DigTo w g K l k (addR s id c) F w6) := Lib.hid ⟨footP g F6, ⟨h1, h2, p5, F6, rfl, hT6.keep H5.out hgF5, hP6⟩, T5.out.trans (hT6.mono fun b _ hb => .inr hb) G5.out, G5.out.trans hG6.foot T5.out.size⟩
          clear hP6 hT6 hG6 c5 z5
          go_wp2_with fail
          go_ret
          exact ⟨_, rfl, HE.out s HPs.out, HF.out⟩
end Go.Proofs.YtcjnchjmpkapmaaGreat
/- Package digest: Reset. -/
namespace Go.Proofs.YtcjnchjmpkapmaaGreat
open Go.ChangeShapes Go.WideShapes Go.ChangeAt Go.RowKit
set_option linter.unusedVariables false
set_option linter.unusedSimpArgs false
set_option maxRecDepth 100000

theorem delR_drop {r : List Nd} (hr : Roll r) {q : Nat} (h : q < r.length) : delR (r.drop q) r[q].1 = r.drop (q + 1) := by
  rw [drop_cons h]
  simp [delR]
set_option maxHeartbeats 2000000 in
theorem digest_Reset (w : World) (g K l : Nat) (k : Int) (r : List Nd) (F : Nat → Prop) (h : DigAt w g K l k r F) (hn : r.length ≤ 67108864) :
    Calls Tryz.prog 102 #[.pointer (some ⟨g, 0, none⟩)] w fun e w' => e = .returned (.tuple #[]) ∧ DigTo w g K l k [] F w' := by
  have hroll := h.fits.roll
  obtain ⟨p, F0, rfl, hh, hP, hgF, h1, h2⟩ := h.parts
  have c0 := blk_cell hh
  have z0 := lt_of_block hh
  have HH := Lib.hid hh
  have HP := Lib.hid hP
  have HR := Lib.hid hroll
  have HS := Lib.hid (fun W h => pool_Snap W p K l r F0 h hn)
  have HFl := Lib.hid hP.lt
  clear h hh hP hroll
  go_enter Tryz.func102, Tryz.ntmps102
  go_wp2_with fail
  refine (HS.out _ HP.out).mono ?_
  rintro e w1 ⟨v, rfl, ho, hb1⟩
  have HO := Lib.hid ho
  obtain ⟨A, cap, rfl, _⟩ := ho.form
  have P1 := Lib.hid (HP.out.below hb1)
  have B1 := Lib.hid hb1
  have X1 := Lib.hid (blk_below HH.out hb1)
  clear ho hb1 HS HP c0
  go_wp2_with fail
  go_loopw [13] (fun i wr => ∃ q : Nat, q ≤ r.length ∧ i = .int .i64 q ∧ PoolAt wr p K l (r.drop q) F0 ∧ Turn F0 w1 wr) (fun i _ => r.length - (intOf i).toNat)
  case atStart => exact ⟨0, Nat.zero_le _, rfl, P1.out, .refl _ _⟩
  case round =>
    obtain ⟨q, hq, rfl, hP, hT⟩ := hrel
    have KP := Lib.hid hP
    have KT := Lib.hid hT
    have KX := Lib.hid (hT.keep X1.out hgF)
    have KO := Lib.hid (hT.own HO.out fun b hb hf => by
      have := (HO.out.lt b hb).1
      have := HFl.out b hf
      omega)
    clear hP hT
    have ck := blk_cell KX.out
    have zk := lt_of_block KX.out
    by_cases hlt : q < r.length
    · have hqi : (q : Int) < (r.length : Int) := by omega
      obtain ⟨b, off, rfl, hb, hc⟩ := KO.out.sl.at_ hlt
      have d0 := hc 0 (.int .i64 r[q].1) rfl
      have d1 := hc 1 (.int .i64 r[q].2) rfl
      simp only [Nat.add_zero] at d0
      have HT := Lib.hid (fun W h => pool_Take W p K l (r.drop q) F0 h r[q].1)
      rw [delR_drop HR.out hlt] at HT
      generalize getR (r.drop q) r[q].1 = n at HT
      obtain ⟨x, hx⟩ : ∃ x, x = r[q] := ⟨_, rfl⟩
      rw [← hx] at d0 d1 HT
      clear hc hx
      go_upto_region 4 with fail
      have al := (Below.refl wr.heap.size wr).alloc (Nat.le_refl _) (.cells #[.int .i64 x.1, .int .i64 x.2] 153)
      have X4 := Lib.hid (heap_alloc_new wr (.cells #[.int .i64 x.1, .int .i64 x.2] 153))
      have P4 := Lib.hid (KP.out.below al)
      have T4 := Lib.hid (KT.out.more al)
      have Y4 := Lib.hid (blk_below KX.out al)
      clear KP KT KX KO X1 ck zk d0 d1 al
      obtain ⟨pn, hpn⟩ : ∃ pn, pn = wr.heap.size := ⟨_, rfl⟩
      rw [← hpn] at X4 ⊢
      generalize wr.alloc (.cells #[.int .i64 x.1, .int .i64 x.2] 153) = w4 at X4 P4 T4 Y4 ⊢
      clear hpn
      have cg := blk_cell Y4.out
      have zg := lt_of_block Y4.out
      have cn := blk_cell X4.out
      have zn := lt_of_block X4.out
      refine wp_region_tail 7 (by kernel_rfl) (by kernel_rfl) ?_; simp only [List.take_succ_cons, List.take_zero, List.drop_succ_cons, List.drop_zero]
      repeat (go_big_quiet_step (fail))
      refine wpQuiet_nil ?_
      intro w5 hb5
      replace hb5 := below_of_ext hb5
      have P5 := Lib.hid (P4.out.below hb5)
      have T5 := Lib.hid (T4.out.more hb5)
      clear hb5 cg zg cn zn
      go_wp2_with fail
      refine (HT.out _ P5.out).mono ?_
      rintro e w6 ⟨rfl, hP6, hT6⟩
      have P6 := Lib.hid hP6
      have T6 := Lib.hid (T5.out.trans hT6 Grow.refl)
      clear hP6 hT6
      go_wp2_with fail
      go_roundw
      case rel => exact ⟨q + 1, by omega, by go_num, P6.out, T6.out⟩
      case measure => simp [intOf]; omega
    · obtain rfl : q = r.length := by omega
      have hqi : decide ((r.length : Int) < (r.length : Int)) = false := by simp
      rw [List.drop_length] at KP
      have HE : Hid (DigTo w g K l k [] (footP g F0) wr) := Lib.hid ⟨footP g F0, ⟨h1, h2, p, F0, rfl, KX.out, KP.out⟩, ((Turn.of_below B1.out).trans KT.out Grow.refl).mono (fun b _ hb => .inr hb), Grow.refl⟩
      go_wp2_with fail
      go_end0
      exact ⟨rfl, HE.out⟩
end Go.Proofs.YtcjnchjmpkapmaaGreat
/- What the laws are given: a digest's conf and calls. -/
namespace Go.Proofs.YtcjnchjmpkapmaaGreat
open Go.ChangeShapes Go.WideShapes Go.ChangeAt Go.RowKit
set_option linter.unusedVariables false
set_option maxRecDepth 100000

def encO : Enc Op3 3 := ⟨fun x => [.int .i64 x.1, .int .i64 x.2.1, .int .i64 x.2.2], fun _ => rfl, by intro x u hu; simp at hu; rcases hu with rfl | rfl | rfl <;> rfl⟩
def intsO (l : List Op3) : Prop := ∀ x ∈ l, i64 x.1 ∧ i64 x.2.1 ∧ i64 x.2.2
section
variable {H : Type} {enc : TypeId × Value → H} {w : World} {base : Nat} {spare : Nat → Bool} {held : Bool} {fuel : Nat} {cs : List Value} {x : DataW H × List MemPlace}
theorem op3_of_trod (h : DataW.trod enc Tryz.prog w base spare held fuel 51 cs = some x) : ∃ o : Op3, cs = encO.enc o ∧ i64 o.1 ∧ i64 o.2.1 ∧ i64 o.2.2 := by
  obtain ⟨xs, n, _, _, hlen, hxl, hf⟩ := DataW.trod_struct Tryz.underlying51 h
  have hC : (Tryz.prog).cellsOf 51 = 3 := by kernel_rfl
  have hCi : (Tryz.prog).cellsOf 3 = 1 := by kernel_rfl
  rw [hC] at hlen
  match cs, hlen with
  | [c0, c1, c2], _ =>
    match xs, hxl with
    | [y0, y1, y2], _ =>
      have g0 : DataW.trod enc Tryz.prog w base spare held n 3 (([c0, c1, c2].drop 0).take ((Tryz.prog).cellsOf 3)) = some y0 := hf 0 _ rfl
      have g1 : DataW.trod enc Tryz.prog w base spare held n 3 (([c0, c1, c2].drop 1).take ((Tryz.prog).cellsOf 3)) = some y1 := hf 1 _ rfl
      have g2 : DataW.trod enc Tryz.prog w base spare held n 3 (([c0, c1, c2].drop 2).take ((Tryz.prog).cellsOf 3)) = some y2 := hf 2 _ rfl
      simp only [hCi] at g0 g1 g2
      obtain ⟨k, e0, _, k0⟩ := DataW.trod_int Tryz.underlying3 g0
      obtain ⟨i, e1, _, k1⟩ := DataW.trod_int Tryz.underlying3 g1
      obtain ⟨j, e2, _, k2⟩ := DataW.trod_int Tryz.underlying3 g2
      simp at e0 e1 e2
      subst e0 e1 e2
      exact ⟨(k, i, j), rfl, i64_of_wf k0, i64_of_wf k1, i64_of_wf k2⟩
theorem ops_of_trod (h : DataW.trod enc Tryz.prog w base spare held fuel 24 cs = some x) : ∃ (l : List Op3) (A : Option Addr) (cap : Nat), cs = [.slice A l.length cap] ∧ Sl w w.heap.size encO A l ∧ intsO l ∧ l.length ≤ maxLen := by
  obtain ⟨l, A, cap, h1, h2, h3, h4⟩ := slice_of_trod encO (fun o => i64 o.1 ∧ i64 o.2.1 ∧ i64 o.2.2) Tryz.underlying24 (by kernel_rfl) (by decide) (fun _ _ _ h => op3_of_trod h) h
  exact ⟨l, A, cap, h1, h2, h3, h4⟩
theorem side_of_trod (h : DataW.trod enc Tryz.prog w base spare held fuel 26 cs = some x) :
    ∃ (l k K : Int) (r : List Op3) (A : Option Addr) (cap : Nat), cs = [.int .i64 l, .int .i64 k, .int .i64 K, .slice A r.length cap] ∧ Sl w w.heap.size encO A r ∧ intsO r ∧ i64 l ∧ i64 k ∧ i64 K ∧ r.length ≤ maxLen := by
  obtain ⟨xs, n, _, _, hlen, hxl, hf⟩ := DataW.trod_struct Tryz.underlying26 h
  have hC : (Tryz.prog).cellsOf 26 = 4 := by kernel_rfl
  have hCi : (Tryz.prog).cellsOf 23 = 3 := by kernel_rfl
  have hCs : (Tryz.prog).cellsOf 24 = 1 := by kernel_rfl
  rw [hC] at hlen
  match cs, hlen with
  | [c0, c1, c2, c3], _ =>
    match xs, hxl with
    | [y0, y1], _ =>
      have g0 : DataW.trod enc Tryz.prog w base spare held n 23 (([c0, c1, c2, c3].drop 0).take ((Tryz.prog).cellsOf 23)) = some y0 := hf 0 _ rfl
      have g1 : DataW.trod enc Tryz.prog w base spare held n 24 (([c0, c1, c2, c3].drop 3).take ((Tryz.prog).cellsOf 24)) = some y1 := hf 1 _ rfl
      rw [hCi] at g0
      rw [hCs] at g1
      obtain ⟨l, k, K, e0, w0, w1, w2⟩ := conf_of_trod g0
      obtain ⟨r, A, cap, e1, hS, hI, hm⟩ := ops_of_trod g1
      simp at e0 e1
      obtain ⟨rfl, rfl, rfl⟩ := e0
      subst e1
      exact ⟨l, k, K, r, A, cap, rfl, hS, hI, w0, w1, w2, hm⟩
end
def callsV (l k K : Int) (A : Option Addr) (n cap : Nat) : Value := .agg #[.int .i64 l, .int .i64 k, .int .i64 K, .slice A n cap]
theorem open_Side {H : Type} {enc : TypeId × Value → H} {w : World} {base : Nat} {spare : Nat → Bool} {held : Bool} {r : Reach} {b0 : Nat} {v : Value} {d : DataW H} {p : List MemPlace}
    (hv : Value.okWide Tryz.prog w r b0 26 v) (h : DataW.Trod enc Tryz.prog w base spare held 26 v d p) :
    ∃ (l k K : Int) (r : List Op3) (A : Option Addr) (cap : Nat), v = callsV l k K A r.length cap ∧ Sl w w.heap.size encO A r ∧ intsO r ∧ i64 l ∧ i64 k ∧ i64 K ∧ r.length ≤ maxLen := by
  obtain ⟨cs, rfl, hsz⟩ := okWide_struct Tryz.underlying26 hv
  obtain ⟨fuel, hf⟩ := h
  obtain ⟨l, k, K, r, A, cap, hc, rest⟩ := side_of_trod hf
  refine ⟨l, k, K, r, A, cap, ?_, rest⟩
  obtain ⟨c⟩ := cs
  have : c = [.int .i64 l, .int .i64 k, .int .i64 K, .slice A r.length cap] := by simpa [Value.cells] using hc
  subst this
  rfl
end Go.Proofs.YtcjnchjmpkapmaaGreat
/- A slice of the call's own, sorted by slices.SortFunc. -/
namespace Go.Proofs.YtcjnchjmpkapmaaGreat
open Go.ChangeShapes Go.WideShapes Go.ChangeAt Go.RowKit
set_option linter.unusedVariables false

section
variable {α : Type} [Inhabited α] {size : Nat}
theorem flatK_get (E : Enc α size) (l : List α) (j : Nat) (h : j < l.length * size) : (Go.Sort.flatK E.enc size l.toArray)[j]! = (l.flatMap E.enc)[j]! ∧ (l.flatMap E.enc)[j]? = some (Go.Sort.flatK E.enc size l.toArray)[j]! := by
  have hs : 0 < size := Nat.pos_of_ne_zero (by rintro rfl; simp at h)
  have hk : j / size < l.length := Nat.div_lt_of_lt_mul (by rwa [Nat.mul_comm] at h)
  have hq : j % size < size := Nat.mod_lt _ hs
  have e := Go.Sort.get_flatK E.enc size l.toArray j (by simpa using h)
  have hx : l[j / size]? = some l[j / size] := List.getElem?_eq_getElem hk
  have hu : (E.enc l[j / size])[j % size]? = some (E.enc l[j / size])[j % size]! := by
    rw [getElem!_pos _ _ (by rw [E.len]; exact hq)]
    exact List.getElem?_eq_getElem _
  have hj : j / size * size + j % size = j := by rw [Nat.mul_comm]; exact Nat.div_add_mod j size
  have := flat_get E l (j / size) (j % size) _ _ hx hu
  rw [hj] at this
  have e2 : l.toArray[j / size]! = l[j / size] := by
    rw [getElem!_pos _ _ (by simpa using hk)]; simp
  rw [e2] at e
  rw [e, this]
  exact ⟨by rw [getElem!_pos _ j (List.getElem?_eq_some_iff.1 this).1]; exact (List.getElem?_eq_some_iff.1 this).2.symm, rfl⟩
theorem Own.holdsK {w : World} {base e : Nat} {E : Enc α size} {g off cap : Nat} {l : List α} (h : Own w base e E (.slice (some ⟨g, off, none⟩) l.length cap) l) : Go.Sort.HoldsK E.enc size w g off l.toArray := by
  intro j hj
  have hj : j < l.length * size := by simpa using hj
  rcases h with ⟨h, _⟩ | ⟨g', off', cap', cur, hv, hb, hh, h1, h2, h3, hc⟩
  · cases h
  · injection hv with hv _ _
    injection hv with hv
    injection hv with e1 e2
    subst e1 e2
    have h4 := (flatK_get E l j hj).2
    rw [blk_cell hh, blk_frozen hh]
    exact ⟨hc j _ h4, rfl⟩
theorem Own.sorted {w : World} {base e : Nat} {E : Enc α size} {g off cap : Nat} {l : List α} (h : Own w base e E (.slice (some ⟨g, off, none⟩) l.length cap) l) (d : Array α) (hd : d.size = l.length) (n : Nat) (os : Array Obj) :
    Own (Go.Proofs.sortWorldK E.enc size w g off n d os) base e E (.slice (some ⟨g, off, none⟩) l.length cap) d.toList ∧ Turn (fun b => b = g) w (Go.Proofs.sortWorldK E.enc size w g off n d os) := by
  have hl : d.toList.length = l.length := by simpa using hd
  rcases h with ⟨h, _⟩ | ⟨g', off', cap', cur, hv, hb, hh, h1, h2, h3, hc⟩
  · cases h
  · injection hv with hv _ hcap
    injection hv with hv
    injection hv with e1 e2
    subst e1 e2 hcap
    have hlt : g < w.heap.size := lt_of_block hh
    have hg : (Go.Proofs.sortWorldK E.enc size w g off n d os).heap[g]? = some (.cells (Go.Sort.putCells id off (Go.Sort.flatK E.enc size d) cur) e (0, 0)) := by
      unfold Go.Proofs.sortWorldK
      rw [Go.Sort.heap_grow_old _ _ (by simp [Go.Sort.putRowK]; exact hlt)]
      simp [Go.Sort.putRowK, Go.Sort.putRow, Go.Sort.mapBlock, Array.getElem?_modify, Go.Sort.onCells, hh]
    refine ⟨.inr ⟨g, off, cap, _, by rw [hl], hb, hg, by omega, h2, by simpa [Go.Sort.putCells] using h3, fun j u hj => ?_⟩, ⟨rfl, rfl, rfl, ?_, fun b hlb hn => ?_⟩⟩
    · have hjl : j < d.toList.length * size := by rw [← flat_len E]; exact (List.getElem?_eq_some_iff.1 hj).1
      have h4 := (flatK_get E d.toList j hjl).2
      rw [hj] at h4
      have hle : l.length * size ≤ cap * size := Nat.mul_le_mul_right _ h1
      rw [hl] at hjl
      have hcur : cur[off + j]? = some cur[off + j] := Array.getElem?_eq_getElem (by omega)
      simp only [Go.Sort.putCells, Array.getElem?_mapIdx, hcur, Option.map_some]
      rw [if_pos ⟨by omega, by simp [hd]; omega⟩, h4]
      simp
    · unfold Go.Proofs.sortWorldK
      simp [Go.Sort.putRowK]
    · unfold Go.Proofs.sortWorldK
      rw [Go.Sort.heap_grow_old _ _ (by simp [Go.Sort.putRowK]; exact hlb)]
      simp only [Go.Sort.putRowK, Go.Sort.putRow, Go.Sort.mapBlock, Array.getElem?_modify]
      rw [if_neg (by intro h; exact hn h.symm)]
      rfl
theorem perm_of_in {d d' : Array α} (h : Go.Sort.PermIn 0 d.size d d') : d'.toList.Perm d.toList := by
  have e1 : (d.extract 0 d.size).toList = d.toList := by simp
  have e2 : (d'.extract 0 d.size).toList = d'.toList := by rw [← h.1]; simp
  rw [← e1, ← e2]
  exact h.2.2
theorem pairwise_of_in {lt : α → α → Bool} {d : Array α} {n : Nat} (hn : n = d.size) (h : Go.Sort.SortedIn lt 0 n d) : d.toList.Pairwise fun a b => lt b a = false := by
  rw [List.pairwise_iff_getElem]
  intro i j hi hj hij
  have hj' : j < d.size := by simpa using hj
  have := h i j (Nat.zero_le _) hij (by omega)
  rw [getElem!_pos d j hj', getElem!_pos d i (by omega)] at this
  simpa using this
def SortPost {w : World} (base e : Nat) (E : Enc α size) (v : Value) (lt : α → α → Bool) (l : List α) (w : World) (en : Ending) (w' : World) : Prop :=
  en = .returned (.tuple #[]) ∧ ∃ l' : List α, l'.Perm l ∧ l'.Pairwise (fun a b => lt b a = false) ∧ Own w' base e E v l' ∧ Turn (fun b => v.ownBlock = some b) w w'
theorem sortFunc_own {P : Program} {ρ : Go.Shelf.Ren} (L : Go.Proofs.SlLaysF0.n6 P ρ) (E : Enc α size) (aE : ∀ w, (isAgg (ρ.t 24)).run P w = .ok true w) (zE : ∀ w, (Go.sizeOf (ρ.t 24)).run P w = .ok size w) (cf : α → α → Int) (hO : Go.Sort.SWO (Go.Proofs.ltOf cf))
    (g : Nat) (cb : Array Value) (eg : ∀ args w, (callFunc g args).run P w = .ok (.enter g args) w) (w : World) (base e : Nat) (v : Value) (l : List α) (ho : Own w base e E v l) (hl : l.length < 4611686018427387904)
    (hcmp : ∀ W, Turn (fun b => v.ownBlock = some b) w W → ∀ x y : α, Calls P g (#[.agg (E.enc x).toArray, .agg (E.enc y).toArray] ++ cb) W fun e W' => e = .returned (.int .i64 (cf x y)) ∧ ∃ q os', W' = Go.Sort.grow (W.drewN q) os') :
    Calls P (ρ.f 6) #[v, .func (.func g) #[] cb] w (SortPost (w := w) base e E v (Go.Proofs.ltOf cf) l w) := by
  have ho' := ho
  rcases ho' with ⟨rfl, rfl⟩ | ⟨b, off, cap, cur, rfl, hb, hh, h1, h2, h3, hc⟩
  · refine (Go.Proofs.AnyF.slices_SortFunc_none L none 0 (.func (.func g) #[] cb) w).mono ?_
    rintro e' w' ⟨rfl, rfl⟩
    exact ⟨rfl, [], .refl _, .nil, ho, Turn.refl _ _⟩
  · have hC : Go.Proofs.CmpLays P g cb E.enc size cf b off l.toArray.size w := fun m os dk hs x y => hcmp _ (((ho.sorted dk (by simpa using hs) m os).2).mono fun c _ h => by subst h; rfl) x y
    refine (Go.Proofs.AnyQ.slices_SortFunc L size aE zE E.enc E.len E.one cf hO g cb b off cap l.toArray w eg hC ho.holdsK (lt_of_block hh) (by simpa using hl)).mono ?_
    rintro e' w' ⟨rfl, d', n, os, hp, hs, rfl⟩
    have hsz : d'.size = l.length := by simpa using hp.1
    obtain ⟨o1, o2⟩ := ho.sorted d' hsz n os
    refine ⟨rfl, d'.toList, by simpa using perm_of_in hp, pairwise_of_in (by simp [hsz]) hs, o1, o2.mono fun c _ h => by subst h; rfl⟩
end
end Go.Proofs.YtcjnchjmpkapmaaGreat
/- Sums of weights up to numbers: the plain law. -/
namespace Go.Proofs.YtcjnchjmpkapmaaGreat
open Go.ChangeShapes Go.WideShapes Go.ChangeAt Go.RowKit
set_option linter.unusedVariables false

def wUp : List Nd → Int → Int
  | [], _ => 0
  | y :: l, x => (if y.1 ≤ x then y.2 else 0) + wUp l x
theorem wUp_append (a b : List Nd) (x : Int) : wUp (a ++ b) x = wUp a x + wUp b x := by
  induction a with
  | nil => simp [wUp]
  | cons y a ih => simp only [List.cons_append, wUp, ih]; omega
theorem wUp_perm {a b : List Nd} (h : a.Perm b) (x : Int) : wUp a x = wUp b x := by
  induction h with
  | nil => rfl
  | cons y _ ih => simp only [wUp, ih]
  | swap y z l => simp only [wUp]; omega
  | trans _ _ h1 h2 => exact h1.trans h2
theorem wUp_all {l : List Nd} {x : Int} (h : ∀ y ∈ l, y.1 ≤ x) : wUp l x = sumR l := by
  induction l with
  | nil => rfl
  | cons y l ih =>
    simp only [wUp, sumR]
    rw [if_pos (h y (by simp)), ih fun z hz => h z (by simp [hz])]
theorem wUp_none {l : List Nd} {x : Int} (h : ∀ y ∈ l, x < y.1) : wUp l x = 0 := by
  induction l with
  | nil => rfl
  | cons y l ih =>
    simp only [wUp]
    have := h y (by simp)
    rw [if_neg (by omega), ih fun z hz => h z (by simp [hz])]; rfl
theorem wUp_same {l : List Nd} {x z : Int} (h : ∀ y ∈ l, (y.1 ≤ x ↔ y.1 ≤ z)) : wUp l x = wUp l z := by
  induction l with
  | nil => rfl
  | cons y l ih =>
    simp only [wUp]
    have h1 := h y (by simp)
    rw [ih fun z hz => h z (by simp [hz])]
    congr 1
    by_cases h2 : y.1 ≤ x
    · rw [if_pos h2, if_pos (h1.1 h2)]
    · rw [if_neg h2, if_neg (fun h => h2 (h1.2 h))]
theorem sumR_perm {a b : List Nd} (h : a.Perm b) : sumR a = sumR b := by
  induction h with
  | nil => rfl
  | cons y _ ih => simp only [sumR, ih]
  | swap y z l => simp only [sumR]; omega
  | trans _ _ h1 h2 => exact h1.trans h2

structure Tab (l t : List Nd) : Prop where
  rise : t.Pairwise fun a b => a.1 < b.1
  up : ∀ z ∈ t, z.2 = wUp l z.1
  all : ∀ y ∈ l, ∃ z ∈ t, z.1 = y.1
  of : ∀ z ∈ t, ∃ y ∈ l, y.1 = z.1
theorem Tab.perm {l l' t : List Nd} (h : Tab l t) (hp : l.Perm l') : Tab l' t :=
  ⟨h.rise, fun z hz => (h.up z hz).trans (wUp_perm hp _), fun y hy => h.all y (hp.mem_iff.2 hy), fun z hz => by obtain ⟨y, hy, e⟩ := h.of z hz; exact ⟨y, hp.mem_iff.1 hy, e⟩⟩
theorem Tab.nil : Tab [] [] := ⟨.nil, by simp, by simp, by simp⟩
theorem Tab.same {p t : List Nd} {y : Nd} {s : Int} (h : Tab p (t ++ [(y.1, s)])) (hy : ∀ z ∈ p, z.1 ≤ y.1) : Tab (p ++ [y]) (t ++ [(y.1, sumR p + y.2)]) := by
  have hr := List.pairwise_append.1 h.rise
  refine ⟨List.pairwise_append.2 ⟨hr.1, List.pairwise_singleton _ _, fun a ha b hb => ?_⟩, fun z hz => ?_, fun z hz => ?_, fun z hz => ?_⟩
  · simp at hb; subst hb; exact hr.2.2 a ha (y.1, s) (by simp)
  · rw [wUp_append]
    rcases List.mem_append.1 hz with hz | hz
    · have h1 := hr.2.2 z hz (y.1, s) (by simp)
      have h2 := h.up z (List.mem_append_left _ hz)
      simp only at h1
      simp only [wUp]
      rw [if_neg (by omega)]; omega
    · simp at hz; subst hz
      simp only [wUp, wUp_all hy]
      simp
  · rcases List.mem_append.1 hz with hz | hz
    · obtain ⟨u, hu, e⟩ := h.all z hz
      rcases List.mem_append.1 hu with hu | hu
      · exact ⟨u, List.mem_append_left _ hu, e⟩
      · simp at hu; subst hu; exact ⟨(y.1, sumR p + y.2), by simp, e⟩
    · simp at hz; subst hz; exact ⟨(z.1, sumR p + z.2), by simp, rfl⟩
  · rcases List.mem_append.1 hz with hz | hz
    · obtain ⟨u, hu, e⟩ := h.of z (List.mem_append_left _ hz)
      exact ⟨u, List.mem_append_left _ hu, e⟩
    · simp at hz; subst hz; exact ⟨y, by simp, rfl⟩
theorem Tab.more {p t : List Nd} {y : Nd} (h : Tab p t) (hy : ∀ z ∈ p, z.1 ≤ y.1) (hn : ∀ z ∈ t, z.1 ≠ y.1) : Tab (p ++ [y]) (t ++ [(y.1, sumR p + y.2)]) := by
  have hlt : ∀ z ∈ t, z.1 < y.1 := fun z hz => by
    obtain ⟨u, hu, e⟩ := h.of z hz
    have := hy u hu
    have := hn z hz
    omega
  refine ⟨List.pairwise_append.2 ⟨h.rise, List.pairwise_singleton _ _, fun a ha b hb => ?_⟩, fun z hz => ?_, fun z hz => ?_, fun z hz => ?_⟩
  · simp at hb; subst hb; exact hlt a ha
  · rw [wUp_append]
    rcases List.mem_append.1 hz with hz | hz
    · have h1 := hlt z hz
      have h2 := h.up z hz
      simp only [wUp]
      rw [if_neg (by omega)]; omega
    · simp at hz; subst hz
      simp only [wUp, wUp_all hy]
      simp
  · rcases List.mem_append.1 hz with hz | hz
    · obtain ⟨u, hu, e⟩ := h.all z hz
      exact ⟨u, List.mem_append_left _ hu, e⟩
    · simp at hz; subst hz; exact ⟨(z.1, sumR p + z.2), by simp, rfl⟩
  · rcases List.mem_append.1 hz with hz | hz
    · obtain ⟨u, hu, e⟩ := h.of z hz
      exact ⟨u, List.mem_append_left _ hu, e⟩
    · simp at hz; subst hz; exact ⟨y, by simp, rfl⟩
theorem Tab.last_ne {p t : List Nd} {a : Nd} {y : Nd} (h : Tab p (t ++ [a])) (hy : ∀ z ∈ p, z.1 ≤ y.1) (hn : a.1 ≠ y.1) : ∀ z ∈ t ++ [a], z.1 ≠ y.1 := by
  have hr := List.pairwise_append.1 h.rise
  intro z hz
  rcases List.mem_append.1 hz with hz | hz
  · have h1 := hr.2.2 z hz a (by simp)
    obtain ⟨u, hu, e⟩ := h.of a (by simp)
    have := hy u hu
    omega
  · simp at hz; subst hz; exact hn

theorem count_boundary (p : Nat → Bool) (k : Nat) : ∀ n, k ≤ n → (∀ i, i < k → p i = true) → (∀ i, k ≤ i → i < n → p i = false) → (List.range n).countP p = k
  | 0, hk, _, _ => by have : k = 0 := by omega
                      subst this; rfl
  | n + 1, hk, h1, h2 => by
    rw [List.range_succ, List.countP_append]
    by_cases h : k = n + 1
    · subst h
      rw [count_boundary p n n (Nat.le_refl _) (fun i hi => h1 i (by omega)) (fun i h3 h4 => by omega)]
      simp [h1 n (by omega)]
    · rw [count_boundary p k n (by omega) h1 fun i h3 h4 => h2 i h3 (by omega)]
      simp [h2 n (by omega) (by omega)]
theorem rise_boundary {t : List Nd} (h : t.Pairwise fun a b => a.1 < b.1) (x : Int) : ∃ k, k ≤ t.length ∧ (∀ i (hi : i < t.length), i < k → t[i].1 ≤ x) ∧ ∀ i (hi : i < t.length), k ≤ i → x < t[i].1 := by
  induction t with
  | nil => exact ⟨0, Nat.le_refl _, fun i hi => absurd hi (Nat.not_lt_zero _), fun i hi => absurd hi (Nat.not_lt_zero _)⟩
  | cons a t ih =>
    obtain ⟨h1, h2⟩ := List.pairwise_cons.1 h
    obtain ⟨k, hk, h3, h4⟩ := ih h2
    by_cases ha : a.1 ≤ x
    · refine ⟨k + 1, by simp; omega, fun i hi hlt => ?_, fun i hi hle => ?_⟩
      · cases i with
        | zero => exact ha
        | succ i => exact h3 i (by simpa using hi) (by omega)
      · cases i with
        | zero => omega
        | succ i => exact h4 i (by simpa using hi) (by omega)
    · refine ⟨0, Nat.zero_le _, fun i hi hlt => by omega, fun i hi _ => ?_⟩
      cases i with
      | zero => simp; omega
      | succ i =>
        have hi' : i < t.length := by simpa using hi
        have := h1 t[i] (List.getElem_mem hi')
        simp only [List.getElem_cons_succ]; omega
def atMost (t : List Nd) (x : Int) : Nat := (List.range t.length).countP fun i => !decide (x < (t.getD i (0, 0)).1)
theorem atMost_le (t : List Nd) (x : Int) : atMost t x ≤ t.length := by
  have := List.countP_le_length (p := fun i => !decide (x < (t.getD i (0, 0)).1)) (l := List.range t.length)
  simpa [atMost] using this
theorem getD_at {t : List Nd} {i : Nat} (hi : i < t.length) : t.getD i (0, 0) = t[i] := by rw [List.getD_eq_getElem?_getD, List.getElem?_eq_getElem hi]; rfl
theorem atMost_boundary {t : List Nd} (h : t.Pairwise fun a b => a.1 < b.1) (x : Int) : (∀ i (hi : i < t.length), i < atMost t x → t[i].1 ≤ x) ∧ ∀ i (hi : i < t.length), atMost t x ≤ i → x < t[i].1 := by
  obtain ⟨k, hk, h1, h2⟩ := rise_boundary h x
  have e : atMost t x = k := by
    refine count_boundary _ k _ hk (fun i hi => ?_) (fun i h3 h4 => ?_)
    · have := h1 i (by omega) hi
      rw [getD_at (by omega)]; simp; omega
    · have := h2 i h4 h3
      rw [getD_at h4]; simp; omega
  rw [e]
  exact ⟨h1, h2⟩
theorem Tab.none {l t : List Nd} (h : Tab l t) {x : Int} (h0 : atMost t x = 0) : wUp l x = 0 := by
  have hb := (atMost_boundary h.rise x).2
  rw [h0] at hb
  refine wUp_none fun y hy => ?_
  obtain ⟨z, hz, e⟩ := h.all y hy
  obtain ⟨i, hi, rfl⟩ := List.getElem_of_mem hz
  have := hb i hi (Nat.zero_le _)
  omega
theorem Tab.some {l t : List Nd} (h : Tab l t) {x : Int} (h0 : atMost t x ≠ 0) (hi : atMost t x - 1 < t.length) : t[atMost t x - 1].2 = wUp l x := by
  have hb := atMost_boundary h.rise x
  rw [h.up _ (List.getElem_mem hi)]
  refine wUp_same fun y hy => ?_
  obtain ⟨z, hz, e⟩ := h.all y hy
  obtain ⟨i, hi2, rfl⟩ := List.getElem_of_mem hz
  have h1 := hb.1 _ hi (by omega)
  constructor
  · intro h2; omega
  · intro h2
    by_cases h3 : i < atMost t x
    · rcases Nat.lt_or_ge i (atMost t x - 1) with h4 | h4
      · have := List.pairwise_iff_getElem.1 h.rise i (atMost t x - 1) hi2 hi h4; omega
      · obtain rfl : i = atMost t x - 1 := by omega
        omega
    · have := hb.2 i hi2 (by omega); omega
end Go.Proofs.YtcjnchjmpkapmaaGreat
/- Package rank: made: the sums of readings. -/
namespace Go.Proofs.YtcjnchjmpkapmaaGreat
open Go.ChangeShapes Go.WideShapes Go.ChangeAt Go.RowKit
set_option linter.unusedVariables false
set_option maxRecDepth 100000

abbrev Rdg := { x : Nd // 0 ≤ x.1 ∧ x.1 ≤ 281474976710655 }
instance : Inhabited Rdg := ⟨⟨(0, 0), by decide⟩⟩
def encQ : Enc Rdg 2 := ⟨fun x => [.int .i64 x.1.1, .int .i64 x.1.2], fun _ => rfl, by intro x u hu; simp at hu; rcases hu with rfl | rfl <;> rfl⟩
theorem flat_Q (l : List Rdg) : l.flatMap encQ.enc = (l.map (·.1)).flatMap encN.enc := by
  induction l with
  | nil => rfl
  | cons x l ih => rw [List.flatMap_cons, List.map_cons, List.flatMap_cons, ih]; rfl
theorem own_Q {w : World} {base e : Nat} {v : Value} {l : List Rdg} : Own w base e encQ v l ↔ Own w base e encN v (l.map (·.1)) := by
  unfold Own
  rw [flat_Q]
  simp
theorem made_cmp (W : World) (x y : Rdg) : Calls Tryz.prog 192 #[.agg #[.int .i64 x.1.1, .int .i64 x.1.2], .agg #[.int .i64 y.1.1, .int .i64 y.1.2]] W fun e W' => e = .returned (.int .i64 (x.1.1 - y.1.1)) ∧ ∃ q os', W' = Go.Sort.grow (W.drewN q) os' := by
  obtain ⟨x, hx1, hx2⟩ := x
  obtain ⟨y, hy1, hy2⟩ := y
  go_enter Tryz.func192, Tryz.ntmps192
  go_wp2_with fail
  go_ret
  refine ⟨rfl, 0, #[.cells #[.int .i64 x.1, .int .i64 x.2] 96, .cells #[.int .i64 y.1, .int .i64 y.2] 96], ?_⟩
  rw [Go.Sort.alloc_eq_grow, Go.Sort.alloc_eq_grow, Go.Sort.grow_grow]
  rfl
theorem swo_Q : Go.Sort.SWO (Go.Proofs.ltOf fun x y : Rdg => x.1.1 - y.1.1) where
  irrefl x := by simp [Go.Proofs.ltOf]
  trans x y z h1 h2 := by simp only [Go.Proofs.ltOf, decide_eq_true_eq] at *; omega
  ntrans x y z h1 h2 := by simp only [Go.Proofs.ltOf, decide_eq_false_iff_not] at *; omega
theorem enters_made : ∀ args W, (callFunc 192 args).run Tryz.prog W = .ok (.enter 192 args) W := enters_of Tryz.func192 (by kernel_rfl) rfl
theorem made_sort (w : World) (base : Nat) (v : Value) (l : List Nd) (ho : Own w base 96 encN v l) (hl : ∀ x ∈ l, 0 ≤ x.1 ∧ x.1 ≤ 281474976710655) (hm : l.length ≤ 67108864) :
    Calls Tryz.prog 191 #[v, .func (.func 192) #[] #[]] w fun en w' => en = .returned (.tuple #[]) ∧ ∃ l', l'.Perm l ∧ l'.Pairwise (fun a b => a.1 ≤ b.1) ∧ Own w' base 96 encN v l' ∧ Turn (fun b => v.ownBlock = some b) w w' := by
  obtain ⟨lq, rfl⟩ : ∃ lq : List Rdg, l = lq.map (·.1) := ⟨l.pmap (fun x h => ⟨x, h⟩) hl, by rw [List.map_pmap]; simp⟩
  have := sortFunc_own Tryz.sortReading encQ (by intro w; kernel_rfl) (by intro w; kernel_rfl) (fun x y : Rdg => x.1.1 - y.1.1) swo_Q 192 #[] enters_made w base 96 v lq (own_Q.2 ho) (by simp at hm; omega) (fun W _ x y => made_cmp W x y)
  refine Calls.mono this ?_
  rintro e w' ⟨rfl, l', hp, hs, ho', hT⟩
  refine ⟨rfl, l'.map (·.1), hp.map _, ?_, own_Q.1 ho', hT⟩
  rw [List.pairwise_map]
  exact hs.imp fun {a b} h => by simp only [Go.Proofs.ltOf, decide_eq_false_iff_not] at h; omega
def Sep (u v : Value) : Prop := ∀ g, u.ownBlock = some g → v.ownBlock ≠ some g
theorem turn_then {F : Nat → Prop} {w wa w1 w' : World} (hA : Below w.heap.size w wa) (hT : Turn F wa w1) (hB : Below w.heap.size w1 w') : Turn F w w' :=
  ⟨hB.os.trans (hT.os.trans hA.os), hB.tape.trans (hT.tape.trans hA.tape), hB.output.trans (hT.output.trans hA.output), Nat.le_trans hA.size (Nat.le_trans hT.size hB.size), fun b hb hn => (hB.block b hb).trans ((hT.block b (Nat.lt_of_lt_of_le hb hA.size) hn).trans (hA.block b hb))⟩
def MadePost (v : Value) (l : List Nd) (w : World) (e : Ending) (w' : World) : Prop :=
  ∃ t A1 c1 A2 c2, e = .returned (.agg #[.slice A1 t.length c1, .slice A2 t.length c2]) ∧ Tab l t ∧ t.length ≤ l.length ∧ Own w' w.heap.size 3 encZ (.slice A1 t.length c1) (t.map (·.1)) ∧ Own w' w.heap.size 3 encZ (.slice A2 t.length c2) (t.map (·.2)) ∧ Turn (fun b => v.ownBlock = some b) w w'
def sumsAt (w : World) (b : Nat) (v1 v2 : Value) : Prop := w.heap[b]? = some (.cells #[v1, v2] 165 (0, 0))
theorem sumsAt.ty {w : World} {b : Nat} {v1 v2 : Value} (h : sumsAt w b v1 v2) : TypeAt w b 165 := .of h
structure TwoSt (w : World) (base B b0 bs : Nat) (vl : Value) (ll : List Nd) (V1 V2 : Value) (W : World) (U1 : Value) (L1 : List Int) (U2 : Value) (L2 : List Int) : Prop where
  lst : Own W 0 96 encN vl ll
  sums : sumsAt W bs V1 V2
  zero : sumsAt W b0 (.slice none 0 0) (.slice none 0 0)
  own1 : Own W B 3 encZ U1 L1
  own2 : Own W B 3 encZ U2 L2
  sep : Sep U1 U2
  blw : Below base w W
  size : B ≤ W.heap.size
  h0 : b0 < bs
  h1 : bs < B
  hb0 : base ≤ b0
section
variable {w : World} {base B b0 bs : Nat} {vl : Value} {ll : List Nd} {V1 V2 : Value} {W W' : World} {U1 U1' : Value} {L1 L1' : List Int} {U2 U2' : Value} {L2 L2' : List Int}
theorem TwoSt.below (h : TwoSt w base B b0 bs vl ll V1 V2 W U1 L1 U2 L2) (hb : Below W.heap.size W W') : TwoSt w base B b0 bs vl ll V1 V2 W' U1 L1 U2 L2 :=
  ⟨h.lst.below hb, blk_below h.sums hb, blk_below h.zero hb, h.own1.below hb, h.own2.below hb, h.sep, h.blw.trans (hb.mono (by have := h.h0; have := h.h1; have := h.hb0; have := h.size; omega)), Nat.le_trans h.size hb.size, h.h0, h.h1, h.hb0⟩
theorem TwoSt.alloc (h : TwoSt w base B b0 bs vl ll V1 V2 W U1 L1 U2 L2) (o : Obj) : TwoSt w base B b0 bs vl ll V1 V2 (W.alloc o) U1 L1 U2 L2 := h.below ((Below.refl _ _).alloc (Nat.le_refl _) o)
theorem TwoSt.drew (h : TwoSt w base B b0 bs vl ll V1 V2 W U1 L1 U2 L2) : TwoSt w base B b0 bs vl ll V1 V2 W.drew U1 L1 U2 L2 := h.below (Below.refl _ _).drew
theorem TwoSt.app1 (h : TwoSt w base B b0 bs vl ll V1 V2 W U1 L1 U2 L2) (hg : W.grownBy W' U1.ownBlock) (ho : Own W' B 3 encZ U1' L1') (hl : U1'.ownBlock = U1.ownBlock ∨ U1'.ownBlock = some W.heap.size) (hb : Below B W W') :
    TwoSt w base B b0 bs vl ll V1 V2 W' U1' L1' U2 L2 :=
  ⟨h.lst.kept hg (own_ne h.lst h.own1 (by decide)), blk_grown h.sums h.own1 hg (by decide), blk_grown h.zero h.own1 hg (by decide), ho, h.own2.kept hg (by
    cases e : U2.ownBlock with
    | none => exact .inl rfl
    | some g => exact .inr fun he => h.sep g (by rw [← he]) e), fun g h1 h2 => by
      rcases hl with hl | hl
      · exact h.sep g (hl ▸ h1) h2
      · rw [hl] at h1; cases h1; exact absurd (h.own2.lt _ h2).2 (Nat.lt_irrefl _), h.blw.trans (hb.mono (by have := h.h0; have := h.h1; have := h.hb0; omega)), Nat.le_trans h.size hb.size, h.h0, h.h1, h.hb0⟩
theorem TwoSt.app2 (h : TwoSt w base B b0 bs vl ll V1 V2 W U1 L1 U2 L2) (hg : W.grownBy W' U2.ownBlock) (ho : Own W' B 3 encZ U2' L2') (hl : U2'.ownBlock = U2.ownBlock ∨ U2'.ownBlock = some W.heap.size) (hb : Below B W W') :
    TwoSt w base B b0 bs vl ll V1 V2 W' U1 L1 U2' L2' :=
  ⟨h.lst.kept hg (own_ne h.lst h.own2 (by decide)), blk_grown h.sums h.own2 hg (by decide), blk_grown h.zero h.own2 hg (by decide), h.own1.kept hg (by
    cases e : U1.ownBlock with
    | none => exact .inl rfl
    | some g => exact .inr fun he => h.sep g e (by rw [← he])), ho, fun g h1 h2 => by
      rcases hl with hl | hl
      · exact h.sep g h1 (hl ▸ h2)
      · rw [hl] at h2; cases h2; exact absurd (h.own1.lt _ h1).2 (Nat.lt_irrefl _), h.blw.trans (hb.mono (by have := h.h0; have := h.h1; have := h.hb0; omega)), Nat.le_trans h.size hb.size, h.h0, h.h1, h.hb0⟩
theorem TwoSt.st (h : TwoSt w base B b0 bs vl ll V1 V2 W U1 L1 U2 L2) : TwoSt w base B b0 bs vl ll U1 U2 ((W.setCell ⟨bs, 0, none⟩ U1).setCell ⟨bs, 1, none⟩ U2) U1 L1 U2 L2 :=
  have hbb : base ≤ bs := by have := h.h0; have := h.hb0; omega
  ⟨(h.lst.setCellT h.sums.ty (by decide)).setCellT h.sums.ty.setCell (by decide), heap_set_at (i := 1) (heap_set_at (i := 0) h.sums _) _,
    (Below.heap_setCell _ _ _ _ (by have := h.h0; simp only; omega)).trans ((Below.heap_setCell _ _ _ _ (by have := h.h0; simp only; omega)).trans h.zero),
    (h.own1.setCellB h.h1).setCellB h.h1, (h.own2.setCellB h.h1).setCellB h.h1, h.sep, (h.blw.setCell (p := ⟨bs, 0, none⟩) hbb _).setCell (p := ⟨bs, 1, none⟩) hbb _, by simp only [World.size_setCell]; exact h.size, h.h0, h.h1, h.hb0⟩
theorem Own.ty_at {α : Type} {size base e : Nat} {w : World} {E : Enc α size} {b off n cap : Nat} {l : List α} (h : Own w base e E (.slice (some ⟨b, off, none⟩) n cap) l) : TypeAt w b e := by
  rcases h with ⟨hv, _⟩ | ⟨g, o, c, cur, hv, _, hh, _⟩
  · cases hv
  · cases hv
    exact .of hh
theorem TwoSt.set2 {b o n c : Nat} (h : TwoSt w base B b0 bs vl ll V1 V2 W U1 L1 (.slice (some ⟨b, o, none⟩) n c) L2) (m : Nat) (hm : m < L2.length) (x : Int) :
    TwoSt w base B b0 bs vl ll V1 V2 (W.setCell ⟨b, o + m, none⟩ (.int .i64 x)) U1 L1 (.slice (some ⟨b, o, none⟩) n c) (L2.set m x) :=
  have hty := h.own2.ty_at
  have hbB : B ≤ b := (h.own2.lt b rfl).1
  ⟨h.lst.setCellT hty (by decide), (Below.heap_setCell _ _ _ _ (by have := h.h1; simp only; omega)).trans h.sums, (Below.heap_setCell _ _ _ _ (by have := h.h0; have := h.h1; simp only; omega)).trans h.zero,
    h.own1.setCell (fun he => h.sep b he rfl) _, by have := h.own2.setElem m 0 hm (by decide) (.int .i64 x) x rfl; simpa using this, h.sep, h.blw.setCell (p := ⟨b, o + m, none⟩) (by have := h.h0; have := h.h1; have := h.hb0; simp only; omega) _, by simp only [World.size_setCell]; exact h.size, h.h0, h.h1, h.hb0⟩
theorem set_last {t' : List Nd} {a : Nd} {m : Nat} (hm : m = t'.length) (z : Nd) : ((t' ++ [a]).map (·.2)).set m z.2 = (t' ++ [z]).map (·.2) := by
  subst hm
  rw [List.map_append, List.set_append_right _ _ (by simp)]
  simp
theorem grown_new {row : Option Nat} (hg : W.grownBy W' row) (z : Nat) (hz : ∀ g, row = some g → g < z) (b o : Nat) (h1 : z ≤ b) (h2 : b < W.heap.size) : W'.cell? ⟨b, o, none⟩ = W.cell? ⟨b, o, none⟩ :=
  grown_cell hg b h2 (by rintro rfl; have := hz b rfl; omega) o
end
theorem sl_cell {W : World} {b o : Nat} {x : Int} (h : W.cell? ⟨b, o, none⟩ = some (.int .i64 x)) (hb : b < W.heap.size) : Sl W W.heap.size encZ (some ⟨b, o, none⟩) [x] :=
  .inr ⟨b, o, rfl, hb, fun i y hi j u hj => by
    cases i with
    | succ i => simp at hi
    | zero =>
      simp at hi; subst hi
      cases j with
      | succ j => simp [encZ] at hj
      | zero => simp [encZ] at hj; subst hj; simpa using h⟩
theorem sum_part {l : List Nd} (h : ∀ z ∈ l, 1 ≤ z.2) {q : Nat} (hq : q < l.length) : 0 ≤ sumR (l.take q) ∧ sumR (l.take q) + l[q].2 ≤ sumR l := by
  induction l generalizing q with
  | nil => exact absurd hq (Nat.not_lt_zero _)
  | cons x l ih =>
    have hx := h x (by simp)
    cases q with
    | zero =>
      have : ∀ l : List Nd, (∀ z ∈ l, 1 ≤ z.2) → 0 ≤ sumR l := fun l => by
        intro hl
        induction l with
        | nil => simp [sumR]
        | cons y l ih2 => have := hl y (by simp); have := ih2 fun z hz => hl z (by simp [hz]); simp only [sumR]; omega
      have := this l fun z hz => h z (by simp [hz])
      simp [sumR]; omega
    | succ q =>
      have := ih (fun z hz => h z (by simp [hz])) (q := q) (by simpa using hq)
      simp only [List.take_succ_cons, sumR, List.getElem_cons_succ]; omega
end Go.Proofs.YtcjnchjmpkapmaaGreat
/- A region that draws its order: loads are taken first under a condition S, which the operations in X, behind all of these loads, need not keep. -/
namespace Go.Proofs.YtcjnchjmpkapmaaGreat
open Go.RowKit

section
variable {P : Program} {md : Region.Mode} {ops : Array Oper} {Q : Exit → Act → World → Prop} {S : World → Prop} {X : List Nat}
def wpAnyN (P : Program) (md : Region.Mode) (ops : Array Oper) (Q : Exit → Act → World → Prop) (S : World → Prop) (X : List Nat) : Nat → Array Bool → Act → World → Prop
  | 0, listed, a, w => Region.ready md ops listed = [] ∧ Q .normal a w
  | fuel + 1, listed, a, w =>
    (Region.ready md ops listed = [] → Q .normal a w) ∧
    ∀ i ∈ Region.ready md ops listed, wpOp P ops Q i (fun a' w' => (i ∉ X → S w → S w') ∧ wpAnyN P md ops Q S X fuel (listed.setIfInBounds i true) a' w') a w
theorem wpAny_of_N : ∀ (fuel : Nat) (listed : Array Bool) (a : Act) (w : World), wpAnyN P md ops Q S X fuel listed a w → wpAny P md ops Q fuel listed a w
  | 0, _, _, _, h => h
  | fuel + 1, _, _, _, h => ⟨h.1, fun i hi => wpOp_mono (fun a' w' h' => wpAny_of_N fuel _ a' w' h'.2) (h.2 i hi)⟩
theorem wpAnyN_first {i : Nat} {oi : Oper} {v : Value} (hi : ops[i]? = some oi) (hsel : ∀ (j : Nat) (o : Oper) cs b, ops[j]? = some o → o.op ≠ .select cs b)
    (hQ : ∀ c a w, Q (.panic c) (a.put oi.dst v) w → Q (.panic c) a w) (hX : ∀ j ∈ X, ∃ o, ops[j]? = some o ∧ ∃ e ∈ o.after, Region.binds md e = true ∧ e.on = i) :
    ∀ (fuel : Nat) (listed : Array Bool) (a : Act) (w : World),
      (∀ j oj, ops[j]? = some oj → j ≠ i → listed.getD j true = false → (∀ e ∈ oj.after, Region.binds md e = true → e.on ≠ i) → oi.apart ops oj = true) →
      i ∈ Region.ready md ops listed → YieldsIf P ops S oi v a → S w →
      wpAnyN P md ops Q S X fuel (listed.setIfInBounds i true) (a.put oi.dst v) w → wpAnyN P md ops Q S X (fuel + 1) listed a w := by
  intro fuel
  induction fuel with
  | zero =>
    intro listed a w _ hr hy hS H
    refine ⟨fun h => (by rw [h] at hr; cases hr), fun j hj => ?_⟩
    by_cases hji : j = i
    · subst hji; exact hy.wpOp hi hS ⟨fun _ h => h, H⟩
    · have := ready_mono hj hji
      rw [H.1] at this
      cases this
  | succ fuel ih =>
    intro listed a w hfree hr hy hS H
    refine ⟨fun h => (by rw [h] at hr; cases hr), fun j hj => ?_⟩
    by_cases hji : j = i
    · subst hji; exact hy.wpOp hi hS ⟨fun _ h => h, H⟩
    · have h1 := H.2 j (ready_mono hj hji)
      obtain ⟨hjun, oj, hoj, hall⟩ := mem_ready.1 hj
      have hnot : ∀ e ∈ oj.after, Region.binds md e = true → e.on ≠ i := fun e he hb heq => by
        have h1 := hall e he hb
        have h0 := (mem_ready.1 hr).1
        rw [heq] at h1
        rcases Nat.lt_or_ge i listed.size with h' | h'
        · simp [h'] at h0 h1; rw [h0] at h1; cases h1
        · simp [Array.getElem?_eq_none h'] at h1
      have hjX : j ∉ X := fun hx => by
        obtain ⟨o, ho, e, he, hb, hon⟩ := hX j hx
        have : o = oj := Option.some.inj (ho.symm.trans hoj)
        subst this
        exact hnot e he hb hon
      have h2 := wpOp_putIf hoj (hfree j oj hoj hji hjun hnot) (fun cs b => hsel i oi cs b hi) (fun cs b => hsel j oj cs b hoj) hQ hy h1
      have hfree' : ∀ k ok, ops[k]? = some ok → k ≠ i → (listed.setIfInBounds j true).getD k true = false →
          (∀ e ∈ ok.after, Region.binds md e = true → e.on ≠ i) → oi.apart ops ok = true := fun k ok hk hki hun hno => by
        refine hfree k ok hk hki ?_ hno
        by_cases hjk : j = k
        · subst hjk; exact hjun
        · rw [getD_set_ne true hjk] at hun; exact hun
      refine wpOp_mono (fun a' w' h3 => ⟨h3.2.1, ih (listed.setIfInBounds j true) a' w' hfree' (ready_mono hr (Ne.symm hji)) h3.1 (h3.2.1 hjX hS) ?_⟩) h2
      rw [Array.setIfInBounds_comm _ _ hji]
      exact h3.2.2
theorem wpAnyN_first0 {i : Nat} {oi : Oper} {v : Value} (hi : ops[i]? = some oi) (hsel : ∀ (j : Nat) (o : Oper) cs b, ops[j]? = some o → o.op ≠ .select cs b)
    (hQ : ∀ c a w, Q (.panic c) (a.put oi.dst v) w → Q (.panic c) a w) :
    ∀ (fuel : Nat) (listed : Array Bool) (a : Act) (w : World),
      (∀ j oj, ops[j]? = some oj → j ≠ i → listed.getD j true = false → (∀ e ∈ oj.after, Region.binds md e = true → e.on ≠ i) → oi.apart ops oj = true) →
      i ∈ Region.ready md ops listed → YieldsIf P ops (fun _ => True) oi v a →
      wpAnyN P md ops Q S X fuel (listed.setIfInBounds i true) (a.put oi.dst v) w → wpAnyN P md ops Q S X (fuel + 1) listed a w := by
  intro fuel
  induction fuel with
  | zero =>
    intro listed a w _ hr hy H
    refine ⟨fun h => (by rw [h] at hr; cases hr), fun j hj => ?_⟩
    by_cases hji : j = i
    · subst hji; exact hy.wpOp hi trivial ⟨fun _ h => h, H⟩
    · have := ready_mono hj hji
      rw [H.1] at this
      cases this
  | succ fuel ih =>
    intro listed a w hfree hr hy H
    refine ⟨fun h => (by rw [h] at hr; cases hr), fun j hj => ?_⟩
    by_cases hji : j = i
    · subst hji; exact hy.wpOp hi trivial ⟨fun _ h => h, H⟩
    · have h1 := H.2 j (ready_mono hj hji)
      obtain ⟨hjun, oj, hoj, hall⟩ := mem_ready.1 hj
      have hnot : ∀ e ∈ oj.after, Region.binds md e = true → e.on ≠ i := fun e he hb heq => by
        have h1 := hall e he hb
        have h0 := (mem_ready.1 hr).1
        rw [heq] at h1
        rcases Nat.lt_or_ge i listed.size with h' | h'
        · simp [h'] at h0 h1; rw [h0] at h1; cases h1
        · simp [Array.getElem?_eq_none h'] at h1
      have h2 := wpOp_putIf hoj (hfree j oj hoj hji hjun hnot) (fun cs b => hsel i oi cs b hi) (fun cs b => hsel j oj cs b hoj) hQ hy h1
      have hfree' : ∀ k ok, ops[k]? = some ok → k ≠ i → (listed.setIfInBounds j true).getD k true = false →
          (∀ e ∈ ok.after, Region.binds md e = true → e.on ≠ i) → oi.apart ops ok = true := fun k ok hk hki hun hno => by
        refine hfree k ok hk hki ?_ hno
        by_cases hjk : j = k
        · subst hjk; exact hjun
        · rw [getD_set_ne true hjk] at hun; exact hun
      refine wpOp_mono (fun a' w' h3 => ⟨h3.2.1, ih (listed.setIfInBounds j true) a' w' hfree' (ready_mono hr (Ne.symm hji)) h3.1 ?_⟩) h2
      rw [Array.setIfInBounds_comm _ _ hji]
      exact h3.2.2
theorem wpAnyN_take {i : Nat} {oi : Oper} {v : Value} {fuel : Nat} {listed : Array Bool} {a : Act} {w : World} (hi : ops[i]? = some oi)
    (hs : Region.noSelect ops = true) (hf : Region.free md ops listed i = true) (hr : (Region.ready md ops listed).contains i = true) (hX : (X.all fun j => Region.waitsFor md ops j i) = true)
    (hQ : ∀ c a w, Q (.panic c) (a.put oi.dst v) w → Q (.panic c) a w) (hy : YieldsIf P ops S oi v a) (hS : S w)
    (h : wpAnyN P md ops Q S X fuel (listed.setIfInBounds i true) (a.put oi.dst v) w) : wpAnyN P md ops Q S X (fuel + 1) listed a w :=
  wpAnyN_first hi (Region.noSelect_spec hs) hQ (fun j hj => Region.waitsFor_spec (List.all_eq_true.1 hX j hj)) fuel listed a w (Region.free_spec hi hf) (by simpa using hr) hy hS h
theorem wpAnyN_pure {i : Nat} {oi : Oper} {v : Value} {fuel : Nat} {listed : Array Bool} {a : Act} {w : World} (hi : ops[i]? = some oi)
    (hs : Region.noSelect ops = true) (hf : Region.free md ops listed i = true) (hr : (Region.ready md ops listed).contains i = true)
    (hQ : ∀ c a w, Q (.panic c) (a.put oi.dst v) w → Q (.panic c) a w) (hy : YieldsIf P ops (fun _ => True) oi v a)
    (h : wpAnyN P md ops Q S X fuel (listed.setIfInBounds i true) (a.put oi.dst v) w) : wpAnyN P md ops Q S X (fuel + 1) listed a w :=
  wpAnyN_first0 hi (Region.noSelect_spec hs) hQ fuel listed a w (Region.free_spec hi hf) (by simpa using hr) hy h
theorem wpAnyN_one {i : Nat} {o : Oper} {fuel : Nat} {listed : Array Bool} {a : Act} {w : World} (hr : Region.ready md ops listed = [i]) (ho : ops[i]? = some o)
    (h : ∀ K : Act → World → Prop, Shut (∀ a' w', (i ∉ X → S w → S w') → wpAnyN P md ops Q S X fuel (listed.setIfInBounds i true) a' w' → K a' w') → if Region.wanted o (yielded ops a.tmps) = true then Oper.wp P o a w K Q else K (a.put o.dst undef) w) :
    wpAnyN P md ops Q S X (fuel + 1) listed a w := by
  refine ⟨(fun h0 => by rw [hr] at h0; cases h0), fun j hj => ?_⟩
  rw [hr] at hj
  simp at hj
  subst hj
  exact wpOp_step ho fun K' hK => h K' fun a' w' h1 h2 => hK a' w' ⟨h1, h2⟩
theorem wpAnyN_two {i k : Nat} {o ok : Oper} {fuel : Nat} {listed : Array Bool} {a : Act} {w : World} (hr : Region.ready md ops listed = [i, k]) (ho : ops[i]? = some o) (hk : ops[k]? = some ok)
    (h : ∀ K : Act → World → Prop, Shut (∀ a' w', (i ∉ X → S w → S w') → wpAnyN P md ops Q S X fuel (listed.setIfInBounds i true) a' w' → K a' w') → if Region.wanted o (yielded ops a.tmps) = true then Oper.wp P o a w K Q else K (a.put o.dst undef) w)
    (h' : ∀ K : Act → World → Prop, Shut (∀ a' w', (k ∉ X → S w → S w') → wpAnyN P md ops Q S X fuel (listed.setIfInBounds k true) a' w' → K a' w') → if Region.wanted ok (yielded ops a.tmps) = true then Oper.wp P ok a w K Q else K (a.put ok.dst undef) w) :
    wpAnyN P md ops Q S X (fuel + 1) listed a w := by
  refine ⟨(fun h0 => by rw [hr] at h0; cases h0), fun j hj => ?_⟩
  rw [hr] at hj
  simp at hj
  rcases hj with rfl | rfl
  · exact wpOp_step ho fun K' hK => h K' fun a' w' h1 h2 => hK a' w' ⟨h1, h2⟩
  · exact wpOp_step hk fun K' hK => h' K' fun a' w' h1 h2 => hK a' w' ⟨h1, h2⟩
theorem wpAnyN_done {listed : Array Bool} {a : Act} {w : World} (hr : Region.ready md ops listed = []) (h : Q .normal a w) : ∀ fuel, wpAnyN P md ops Q S X fuel listed a w
  | 0 => ⟨hr, h⟩
  | _ + 1 => ⟨fun _ => h, by rw [hr]; simp⟩
theorem wp_region_N {id : Nat} {a : Act} {w : World} (S : World → Prop) (X : List Nat) (hm : P.follows .mixedOrders = true) (hS : S w.drew)
    (h : S w.drew → wpAnyN P .any ops Q S X ops.size (Array.replicate ops.size false) a w.drew) : (Code.region id ops true).wp P Q a w :=
  wp_region_any hm (wpAny_of_N _ _ _ _ (h hS))
end
end Go.Proofs.YtcjnchjmpkapmaaGreat
/- Package rank: made: the walk. -/
namespace Go.Proofs.YtcjnchjmpkapmaaGreat
open Go.ChangeShapes Go.WideShapes Go.ChangeAt Go.RowKit
set_option linter.unusedVariables false
set_option maxRecDepth 100000

set_option maxHeartbeats 4000000 in
theorem rank_made (w : World) (base : Nat) (v : Value) (l : List Nd) (ho : Own w base 96 encN v l) (hl : ∀ x ∈ l, 0 ≤ x.1 ∧ x.1 ≤ 281474976710655) (h1 : ∀ x ∈ l, 1 ≤ x.2) (hs : sumR l ≤ 72057594037927935) (hm : l.length ≤ 67108864) :
    Calls Tryz.prog 96 #[v] w (MadePost v l w) := by
  have hno := ho.not_at w.heap.size (Nat.le_refl _)
  have HO := Lib.hid (ho.alloc (.cells #[.slice none 0 0, .slice none 0 0] 165))
  have HL := Lib.hid hl
  have H1 := Lib.hid h1
  clear ho hl h1
  go_enter Tryz.func96, Tryz.ntmps96
  go_wp2_with fail
  refine (made_sort _ base v l HO.out HL.out hm).mono ?_
  rintro e w1 ⟨rfl, l', hp, hsrt, ho1, hT⟩
  have HLen := Lib.hid hp.length_eq
  have hlm : l'.length ≤ 67108864 := by have := HLen.out; omega
  have HTu := Lib.hid hT
  have s1 := hT.size
  have HP := Lib.hid hp
  have HSo := Lib.hid hsrt
  have HO1 := Lib.hid ho1
  have z0 : w.heap.size < w1.heap.size := by simp at s1; omega
  have N0 := Lib.hid (hT.keep (b := w.heap.size) (heap_alloc_new w _) hno)
  clear hp hsrt ho1 hT
  obtain ⟨A, cap, hvf, _⟩ := HO1.out.form
  have HV := Lib.hid hvf
  subst hvf
  go_wp2_with fail
  have S0 : Hid (TwoSt w1 w.heap.size (w1.heap.size + 1) w.heap.size w1.heap.size (.slice A l'.length cap) l' (.slice none 0 0) (.slice none 0 0) (w1.alloc (.cells #[.slice none 0 0, .slice none 0 0] 165)) (.slice none 0 0) [] (.slice none 0 0) []) :=
    Lib.hid ⟨(HO1.out.base_le (Nat.zero_le _)).alloc _, heap_alloc_new w1 _, (Below.heap_alloc w1 _ w.heap.size z0).trans N0.out, Own.nil _ _ _ _, Own.nil _ _ _ _, (fun g h => by cases h), (Below.refl _ _).alloc (by omega) _, (by simp), z0, (by omega), Nat.le_refl _⟩
  go_loopw [4, 12] (fun n i wr => ∃ (q k1 k2 : Nat) (t : List Nd) (A1 A2 : Option Addr) (c1 c2 : Nat), q ≤ l'.length ∧ i = .int .i64 q ∧ n = .int .i64 (sumR (l'.take q)) ∧ k1 = t.length ∧ k2 = t.length ∧
      TwoSt w1 w.heap.size (w1.heap.size + 1) w.heap.size w1.heap.size (.slice A l'.length cap) l' (.slice A1 k1 c1) (.slice A2 k2 c2) wr (.slice A1 k1 c1) (t.map (·.1)) (.slice A2 k2 c2) (t.map (·.2)) ∧ Tab (l'.take q) t ∧ t.length ≤ q) (fun _ i _ => l'.length - (intOf i).toNat)
  case atStart => exact ⟨0, 0, 0, [], none, none, 0, 0, Nat.zero_le _, rfl, rfl, rfl, rfl, S0.out, Tab.nil, Nat.le_refl _⟩
  case round =>
    obtain ⟨q, k1, k2, t, A1, A2, c1, c2, hq, rfl, rfl, hk1, hk2, hst, htab, htq⟩ := hrel
    have hz := hst.size
    have hzs : w1.heap.size < wr.heap.size := by omega
    have cs := blk_cell hst.sums
    have cf := blk_frozen hst.sums
    have KST := Lib.hid hst
    have KT := Lib.hid htab
    by_cases hlt : q < l'.length
    · obtain ⟨c, off, rfl, hc, hcl⟩ := hst.lst.sl.at_ hlt
      have d0 := hcl 0 (.int .i64 l'[q].1) rfl
      have d1 := hcl 1 (.int .i64 l'[q].2) rfl
      simp only [Nat.add_zero] at d0
      have hx := HL.out _ (HP.out.mem_iff.1 (List.getElem_mem hlt))
      have hx1 := H1.out _ (HP.out.mem_iff.1 (List.getElem_mem hlt))
      have e1 := sumR_take_succ hlt
      have hle : ∀ z ∈ l'.take q, z.1 ≤ l'[q].1 := fun z hz => by
        obtain ⟨i, hi, rfl⟩ := List.getElem_of_mem hz
        have hi' : i < q := by rw [List.length_take] at hi; omega
        rw [List.getElem_take]
        exact List.pairwise_iff_getElem.1 HSo.out i q (by omega) hlt hi'
      have hts := List.take_succ_eq_append_getElem hlt
      have hpos : ∀ z ∈ l', 1 ≤ z.2 := fun z hz => H1.out z (HP.out.mem_iff.1 hz)
      have hsb := sum_part hpos hlt
      rw [sumR_perm HP.out] at hsb
      obtain ⟨y, hye⟩ : ∃ y, y = l'[q] := ⟨_, rfl⟩
      rw [← hye] at d0 d1 hx hx1 e1 hle hts hsb
      have HTS := Lib.hid hts
      have HLE := Lib.hid hle
      have HE1 := Lib.hid e1
      have hlq : q ≤ 67108864 := by omega
      have HK1 := Lib.hid hk1
      have HK2 := Lib.hid hk2
      have kb1 : k1 ≤ 67108864 := by omega
      have kb2 : k2 ≤ 67108864 := by omega
      obtain ⟨n, hn⟩ : ∃ n, n = sumR (l'.take q) := ⟨_, rfl⟩
      rw [← hn] at hsb HE1 ⊢
      have HN := Lib.hid hn
      have i1 := hst.own1.len_le
      have i2 := hst.own2.len_le
      simp only [List.length_map] at i1 i2
      have ic1 : k1 ≤ c1 := by omega
      have ic2 : k2 ≤ c2 := by omega
      have kk : Hid (k2 = k1) := Lib.hid (by omega)
      clear hst htab hcl e1 hle hts hye hpos hk1 hk2 hn hq i1 i2
      rcases List.eq_nil_or_concat t with ht | ⟨t', a, ht⟩
      · have g1 : decide (0 < k1) = false := by have := HK1.out; rw [ht] at this; simp at this; simp; omega
        have hne : ∀ z ∈ t, z.1 ≠ y.1 := by rw [ht]; simp
        have HNE := Lib.hid hne
        clear hne ht
        go_wp2_with fail
        refine wp_region_ext (by kernel_rfl) (by kernel_rfl) ?_
        repeat (go_big_quiet_step (fail))
        refine wpQuiet_nil ?_
        intro w2 hb2
        replace hb2 := below_of_ext hb2
        have c20 := (hb2.cell (p := ⟨wr.heap.size, 0, none⟩) (by simp)).trans (by go_simp : _ = some (Value.int .i64 y.1))
        have z20 : wr.heap.size < w2.heap.size := by have := hb2.size; simp at this; omega
        have s2 := (KST.out.alloc (.cells #[.int .i64 y.1, .int .i64 y.2] 96)).below hb2
        have cs2 := blk_cell s2.sums
        have cf2 := blk_frozen s2.sums
        have zs2 : w1.heap.size < w2.heap.size := by omega
        have ow1 : ∀ g, (Value.slice A1 k1 c1).ownBlock = some g → g < wr.heap.size := fun g hg => (KST.out.own1.lt g hg).2
        have ow2 : ∀ g, (Value.slice A2 k2 c2).ownBlock = some g → g < wr.heap.size := fun g hg => (KST.out.own2.lt g hg).2
        generalize Value.slice A1 k1 c1 = V1 at s2 cs2 ow1 ⊢
        generalize Value.slice A2 k2 c2 = V2 at s2 cs2 ow2 ⊢
        have W1 := Lib.hid ow1
        have W2 := Lib.hid ow2
        have S2 := Lib.hid s2
        clear s2 hb2 cs cf g1 ow1 ow2
        go_wp2_with fail
        refine wp_region_noPanic ?_
        refine wp_region_N (fun w' => w'.cell? ⟨w1.heap.size, 0, none⟩ = some V1 ∧ w'.cell? ⟨w1.heap.size, 1, none⟩ = some V2 ∧ w'.cell? ⟨wr.heap.size, 0, none⟩ = some (.int .i64 y.1)) [12, 14] (by kernel_rfl) ⟨by simp [*, go_sem], by simp [*, go_sem], by simp [*, go_sem]⟩ (fun hHeld => ?_)
        refine wpAnyN_pure (i := 0) (v := .pointer (some ⟨w1.heap.size, 0, none⟩)) rfl (by kernel_rfl) (by kernel_rfl) (by kernel_rfl) (fun _ _ _ h => h) (Or.inl ⟨by rfl, fun W _ => by go_simp⟩) ?_
        try simp only [Act.put, List.setIfInBounds_toArray, List.set_cons_zero, List.set_cons_succ]
        refine wpAnyN_take (i := 1) (v := V1) rfl (by kernel_rfl) (by kernel_rfl) (by kernel_rfl) (by kernel_rfl) (fun _ _ _ h => h) (Or.inl ⟨by rfl, fun W hW => by obtain ⟨q1, q2, q3⟩ := hW; go_simp⟩) hHeld ?_
        try simp only [Act.put, List.setIfInBounds_toArray, List.set_cons_zero, List.set_cons_succ]
        refine wpAnyN_pure (i := 2) (v := .pointer (some ⟨wr.heap.size, 0, none⟩)) rfl (by kernel_rfl) (by kernel_rfl) (by kernel_rfl) (fun _ _ _ h => h) (Or.inl ⟨by rfl, fun W _ => by go_simp⟩) ?_
        try simp only [Act.put, List.setIfInBounds_toArray, List.set_cons_zero, List.set_cons_succ]
        refine wpAnyN_take (i := 3) (v := .int .i64 y.1) rfl (by kernel_rfl) (by kernel_rfl) (by kernel_rfl) (by kernel_rfl) (fun _ _ _ h => h) (Or.inl ⟨by rfl, fun W hW => by obtain ⟨q1, q2, q3⟩ := hW; go_simp⟩) hHeld ?_
        try simp only [Act.put, List.setIfInBounds_toArray, List.set_cons_zero, List.set_cons_succ]
        refine wpAnyN_pure (i := 6) (v := .pointer (some ⟨w1.heap.size, 1, none⟩)) rfl (by kernel_rfl) (by kernel_rfl) (by kernel_rfl) (fun _ _ _ h => h) (Or.inl ⟨by rfl, fun W _ => by go_simp⟩) ?_
        try simp only [Act.put, List.setIfInBounds_toArray, List.set_cons_zero, List.set_cons_succ]
        refine wpAnyN_take (i := 7) (v := V2) rfl (by kernel_rfl) (by kernel_rfl) (by kernel_rfl) (by kernel_rfl) (fun _ _ _ h => h) (Or.inl ⟨by rfl, fun W hW => by obtain ⟨q1, q2, q3⟩ := hW; go_simp⟩) hHeld ?_
        try simp only [Act.put, List.setIfInBounds_toArray, List.set_cons_zero, List.set_cons_succ]
        refine wpAnyN_pure (i := 8) (v := .int .i64 (n + y.2)) rfl (by kernel_rfl) (by kernel_rfl) (by kernel_rfl) (fun _ _ _ h => h) (Or.inl ⟨by rfl, fun W _ => by go_simp⟩) ?_
        try simp only [Act.put, List.setIfInBounds_toArray, List.set_cons_zero, List.set_cons_succ]
        clear hHeld
        refine wpAnyN_two (i := 4) (k := 9) (by kernel_rfl) rfl rfl (fun K hK => ?_) (fun K hK => ?_)
        · skip
          go_simp
          refine hK.out _ _ (fun _ _ => ?_) ?_
          · exact ⟨by simp [*, go_sem], by simp [*, go_sem], by simp [*, go_sem]⟩
          clear hK K
          try simp only [Act.put, List.setIfInBounds_toArray, List.set_cons_zero, List.set_cons_succ]
          refine wpAnyN_two (i := 5) (k := 9) (by kernel_rfl) rfl rfl (fun K hK => ?_) (fun K hK => ?_)
          · skip
            refine step_app (o := ⟨some 47, _, _, _, _, _⟩) tyZ (by rfl) _ _ (by rfl) encZ (w1.heap.size + 1) V1 (t.map (·.1)) (by rfl) (TwoSt.own1 (w := w1) (base := w.heap.size) (B := w1.heap.size + 1) (b0 := w.heap.size) (bs := w1.heap.size) (vl := (Value.slice (some ⟨c, off, none⟩) l'.length cap)) (ll := l') (V1 := V1) (V2 := V2) (U2 := V2) (L2 := (t.map (·.2))) (by (repeat (first | with_reducible exact S2.out | with_reducible refine TwoSt.alloc ?_ _ | with_reducible refine TwoSt.drew ?_)); done)) _ 1 [y.1] _ (by rfl) (sl_cell (by simp [*, go_sem]) (by first | omega | (simp; done) | (simp; omega))) (by first | omega | (simp; omega)) (by simp [maxLen]; omega) (by first | omega | (simp; omega)) ?_
            intro v4 w4 ho4 hg4 hl4 hb4 hn4
            obtain ⟨A4, k4, m4, rfl⟩ : ∃ A k m, v4 = .slice A m k := by obtain ⟨A, k, hv, _⟩ := ho4.form; exact ⟨A, k, _, hv⟩
            have P4 := TwoSt.app1 (w := w1) (base := w.heap.size) (B := w1.heap.size + 1) (b0 := w.heap.size) (bs := w1.heap.size) (vl := (Value.slice (some ⟨c, off, none⟩) l'.length cap)) (ll := l') (V1 := V1) (V2 := V2) (U2 := V2) (L2 := (t.map (·.2))) (U1 := V1) (L1 := (t.map (·.1))) (by (repeat (first | with_reducible exact S2.out | with_reducible refine TwoSt.alloc ?_ _ | with_reducible refine TwoSt.drew ?_)); done) hg4 ho4 hl4 hb4
            have r4 := hg4.size
            try simp only [World.size_alloc, World.drew] at r4
            have G4 := grown_new hg4 wr.heap.size (fun g hg => W1.out g hg)
            have x4 := blk_cell P4.sums
            have f4 := blk_frozen P4.sums
            have y4 : w4.cell? ⟨wr.heap.size, 0, none⟩ = some (.int .i64 y.1) := (G4 wr.heap.size 0 (Nat.le_refl _) (by first | omega | (simp; omega))).trans (by simp [*, go_sem])
            have z4 : w1.heap.size < w4.heap.size := P4.size
            have q4 : wr.heap.size < w4.heap.size := by have := hg4.size; (try simp at this); omega
            clear hn4 hb4 hl4 hg4 ho4
            refine hK.out _ _ (fun _ _ => ?_) ?_
            · exact ⟨by simp [*, go_sem], by simp [*, go_sem], by simp [*, go_sem]⟩
            clear hK K
            try simp only [Act.put, List.setIfInBounds_toArray, List.set_cons_zero, List.set_cons_succ]
            refine wpAnyN_pure (i := 11) (v := .pointer (some ⟨w1.heap.size, 0, none⟩)) rfl (by kernel_rfl) (by kernel_rfl) (by kernel_rfl) (fun _ _ _ h => h) (Or.inl ⟨by rfl, fun W _ => by go_simp⟩) ?_
            try simp only [Act.put, List.setIfInBounds_toArray, List.set_cons_zero, List.set_cons_succ]
            refine wpAnyN_one (i := 9) (by kernel_rfl) rfl (fun K hK => ?_)
            go_simp
            refine hK.out _ _ (fun _ _ => ?_) ?_
            · exact ⟨by simp [*, go_sem], by simp [*, go_sem], by simp [*, go_sem]⟩
            clear hK K
            try simp only [Act.put, List.setIfInBounds_toArray, List.set_cons_zero, List.set_cons_succ]
            refine wpAnyN_one (i := 10) (by kernel_rfl) rfl (fun K hK => ?_)
            refine step_app (o := ⟨some 52, _, _, _, _, _⟩) tyZ (by rfl) _ _ (by rfl) encZ (w1.heap.size + 1) V2 (t.map (·.2)) (by rfl) (TwoSt.own2 (w := w1) (base := w.heap.size) (B := w1.heap.size + 1) (b0 := w.heap.size) (bs := w1.heap.size) (vl := (Value.slice (some ⟨c, off, none⟩) l'.length cap)) (ll := l') (V1 := V1) (V2 := V2) (U1 := .slice A4 m4 k4) (L1 := (t.map (·.1)) ++ [y.1]) (by (repeat (first | with_reducible exact P4 | with_reducible refine TwoSt.alloc ?_ _ | with_reducible refine TwoSt.drew ?_)); done)) _ 1 [(n + y.2)] _ (by rfl) (sl_cell (by simp [*, go_sem]) (by first | omega | (simp; done) | (simp; omega))) (by first | omega | (simp; omega)) (by simp [maxLen]; omega) (by first | omega | (simp; omega)) ?_
            intro v5 w5 ho5 hg5 hl5 hb5 hn5
            obtain ⟨A5, k5, m5, rfl⟩ : ∃ A k m, v5 = .slice A m k := by obtain ⟨A, k, hv, _⟩ := ho5.form; exact ⟨A, k, _, hv⟩
            have P5 := TwoSt.app2 (w := w1) (base := w.heap.size) (B := w1.heap.size + 1) (b0 := w.heap.size) (bs := w1.heap.size) (vl := (Value.slice (some ⟨c, off, none⟩) l'.length cap)) (ll := l') (V1 := V1) (V2 := V2) (U1 := .slice A4 m4 k4) (L1 := (t.map (·.1)) ++ [y.1]) (U2 := V2) (L2 := (t.map (·.2))) (by (repeat (first | with_reducible exact P4 | with_reducible refine TwoSt.alloc ?_ _ | with_reducible refine TwoSt.drew ?_)); done) hg5 ho5 hl5 hb5
            have r5 := hg5.size
            try simp only [World.size_alloc, World.drew] at r5
            have G5 := grown_new hg5 wr.heap.size (fun g hg => W2.out g hg)
            have x5 := blk_cell P5.sums
            have f5 := blk_frozen P5.sums
            have y5 : w5.cell? ⟨wr.heap.size, 0, none⟩ = some (.int .i64 y.1) := (G5 wr.heap.size 0 (Nat.le_refl _) (by first | omega | (simp; omega))).trans (by simp [*, go_sem])
            have z5 : w1.heap.size < w5.heap.size := P5.size
            have q5 : wr.heap.size < w5.heap.size := by have := hg5.size; (try simp at this); omega
            clear hn5 hb5 hl5 hg5 ho5
            refine hK.out _ _ (fun _ _ => ?_) ?_
            · exact ⟨by simp [*, go_sem], by simp [*, go_sem], by simp [*, go_sem]⟩
            clear hK K
            try simp only [Act.put, List.setIfInBounds_toArray, List.set_cons_zero, List.set_cons_succ]
            refine wpAnyN_one (i := 12) (by kernel_rfl) rfl (fun K hK => ?_)
            go_simp
            refine hK.out _ _ (fun h _ => absurd (by decide) h) ?_
            clear hK K
            try simp only [Act.put, List.setIfInBounds_toArray, List.set_cons_zero, List.set_cons_succ]
            refine wpAnyN_pure (i := 13) (v := .pointer (some ⟨w1.heap.size, 1, none⟩)) rfl (by kernel_rfl) (by kernel_rfl) (by kernel_rfl) (fun _ _ _ h => h) (Or.inl ⟨by rfl, fun W _ => by go_simp⟩) ?_
            try simp only [Act.put, List.setIfInBounds_toArray, List.set_cons_zero, List.set_cons_succ]
            refine wpAnyN_one (i := 14) (by kernel_rfl) rfl (fun K hK => ?_)
            go_simp
            refine hK.out _ _ (fun h _ => absurd (by decide) h) ?_
            clear hK K
            try simp only [Act.put, List.setIfInBounds_toArray, List.set_cons_zero, List.set_cons_succ]
            refine wpAnyN_done (by kernel_rfl) ?_ _
            have E4 := P5.own1.len_le
            have E5 := P5.own2.len_le
            simp only [List.length_append, List.length_map, List.length_cons, List.length_nil] at E4 E5
            have F4 := Lib.hid E4.1
            have F5 := Lib.hid E5.1
            have PF := Lib.hid P5.st
            clear E4 E5 P4 P5 G4 G5 x4 x5 f4 f5 y4 y5 z4 z5 q4 q5 r4 r5 c20 z20 cs2 cf2
            refine NoPanic.normal ?_
            go_wp2_with fail
            go_roundw
            case rel => exact ⟨q + 1, m4, m5, t ++ [(y.1, n + y.2)], A4, A5, k4, k5, by omega, by go_num, by rw [HE1.out], by have := F4.out; simp; omega, by have := F5.out; simp; omega, by simpa using PF.out, by rw [HTS.out]; have := KT.out.more HLE.out HNE.out; rwa [← HN.out] at this, by simp; omega⟩
            case measure => simp [intOf]; omega
          · skip
            go_simp
            refine hK.out _ _ (fun _ _ => ?_) ?_
            · exact ⟨by simp [*, go_sem], by simp [*, go_sem], by simp [*, go_sem]⟩
            clear hK K
            try simp only [Act.put, List.setIfInBounds_toArray, List.set_cons_zero, List.set_cons_succ]
            refine wpAnyN_one (i := 5) (by kernel_rfl) rfl (fun K hK => ?_)
            refine step_app (o := ⟨some 47, _, _, _, _, _⟩) tyZ (by rfl) _ _ (by rfl) encZ (w1.heap.size + 1) V1 (t.map (·.1)) (by rfl) (TwoSt.own1 (w := w1) (base := w.heap.size) (B := w1.heap.size + 1) (b0 := w.heap.size) (bs := w1.heap.size) (vl := (Value.slice (some ⟨c, off, none⟩) l'.length cap)) (ll := l') (V1 := V1) (V2 := V2) (U2 := V2) (L2 := (t.map (·.2))) (by (repeat (first | with_reducible exact S2.out | with_reducible refine TwoSt.alloc ?_ _ | with_reducible refine TwoSt.drew ?_)); done)) _ 1 [y.1] _ (by rfl) (sl_cell (by simp [*, go_sem]) (by first | omega | (simp; done) | (simp; omega))) (by first | omega | (simp; omega)) (by simp [maxLen]; omega) (by first | omega | (simp; omega)) ?_
            intro v4 w4 ho4 hg4 hl4 hb4 hn4
            obtain ⟨A4, k4, m4, rfl⟩ : ∃ A k m, v4 = .slice A m k := by obtain ⟨A, k, hv, _⟩ := ho4.form; exact ⟨A, k, _, hv⟩
            have P4 := TwoSt.app1 (w := w1) (base := w.heap.size) (B := w1.heap.size + 1) (b0 := w.heap.size) (bs := w1.heap.size) (vl := (Value.slice (some ⟨c, off, none⟩) l'.length cap)) (ll := l') (V1 := V1) (V2 := V2) (U2 := V2) (L2 := (t.map (·.2))) (U1 := V1) (L1 := (t.map (·.1))) (by (repeat (first | with_reducible exact S2.out | with_reducible refine TwoSt.alloc ?_ _ | with_reducible refine TwoSt.drew ?_)); done) hg4 ho4 hl4 hb4
            have r4 := hg4.size
            try simp only [World.size_alloc, World.drew] at r4
            have G4 := grown_new hg4 wr.heap.size (fun g hg => W1.out g hg)
            have x4 := blk_cell P4.sums
            have f4 := blk_frozen P4.sums
            have y4 : w4.cell? ⟨wr.heap.size, 0, none⟩ = some (.int .i64 y.1) := (G4 wr.heap.size 0 (Nat.le_refl _) (by first | omega | (simp; omega))).trans (by simp [*, go_sem])
            have b4 : w4.cell? ⟨w2.heap.size + 1, 0, none⟩ = some (.int .i64 (n + y.2)) := (G4 (w2.heap.size + 1) 0 (by omega) (by first | omega | (simp; done) | (simp; omega))).trans (by simp [*, go_sem])
            have z4 : w1.heap.size < w4.heap.size := P4.size
            have q4 : wr.heap.size < w4.heap.size := by have := hg4.size; (try simp at this); omega
            clear hn4 hb4 hl4 hg4 ho4
            refine hK.out _ _ (fun _ _ => ?_) ?_
            · exact ⟨by simp [*, go_sem], by simp [*, go_sem], by simp [*, go_sem]⟩
            clear hK K
            try simp only [Act.put, List.setIfInBounds_toArray, List.set_cons_zero, List.set_cons_succ]
            refine wpAnyN_pure (i := 11) (v := .pointer (some ⟨w1.heap.size, 0, none⟩)) rfl (by kernel_rfl) (by kernel_rfl) (by kernel_rfl) (fun _ _ _ h => h) (Or.inl ⟨by rfl, fun W _ => by go_simp⟩) ?_
            try simp only [Act.put, List.setIfInBounds_toArray, List.set_cons_zero, List.set_cons_succ]
            refine wpAnyN_one (i := 10) (by kernel_rfl) rfl (fun K hK => ?_)
            refine step_app (o := ⟨some 52, _, _, _, _, _⟩) tyZ (by rfl) _ _ (by rfl) encZ (w1.heap.size + 1) V2 (t.map (·.2)) (by rfl) (TwoSt.own2 (w := w1) (base := w.heap.size) (B := w1.heap.size + 1) (b0 := w.heap.size) (bs := w1.heap.size) (vl := (Value.slice (some ⟨c, off, none⟩) l'.length cap)) (ll := l') (V1 := V1) (V2 := V2) (U1 := .slice A4 m4 k4) (L1 := (t.map (·.1)) ++ [y.1]) (by (repeat (first | with_reducible exact P4 | with_reducible refine TwoSt.alloc ?_ _ | with_reducible refine TwoSt.drew ?_)); done)) _ 1 [(n + y.2)] _ (by rfl) (sl_cell (by simp [*, go_sem]) (by first | omega | (simp; done) | (simp; omega))) (by first | omega | (simp; omega)) (by simp [maxLen]; omega) (by first | omega | (simp; omega)) ?_
            intro v5 w5 ho5 hg5 hl5 hb5 hn5
            obtain ⟨A5, k5, m5, rfl⟩ : ∃ A k m, v5 = .slice A m k := by obtain ⟨A, k, hv, _⟩ := ho5.form; exact ⟨A, k, _, hv⟩
            have P5 := TwoSt.app2 (w := w1) (base := w.heap.size) (B := w1.heap.size + 1) (b0 := w.heap.size) (bs := w1.heap.size) (vl := (Value.slice (some ⟨c, off, none⟩) l'.length cap)) (ll := l') (V1 := V1) (V2 := V2) (U1 := .slice A4 m4 k4) (L1 := (t.map (·.1)) ++ [y.1]) (U2 := V2) (L2 := (t.map (·.2))) (by (repeat (first | with_reducible exact P4 | with_reducible refine TwoSt.alloc ?_ _ | with_reducible refine TwoSt.drew ?_)); done) hg5 ho5 hl5 hb5
            have r5 := hg5.size
            try simp only [World.size_alloc, World.drew] at r5
            have G5 := grown_new hg5 wr.heap.size (fun g hg => W2.out g hg)
            have x5 := blk_cell P5.sums
            have f5 := blk_frozen P5.sums
            have y5 : w5.cell? ⟨wr.heap.size, 0, none⟩ = some (.int .i64 y.1) := (G5 wr.heap.size 0 (Nat.le_refl _) (by first | omega | (simp; omega))).trans (by simp [*, go_sem])
            have z5 : w1.heap.size < w5.heap.size := P5.size
            have q5 : wr.heap.size < w5.heap.size := by have := hg5.size; (try simp at this); omega
            clear hn5 hb5 hl5 hg5 ho5
            refine hK.out _ _ (fun _ _ => ?_) ?_
            · exact ⟨by simp [*, go_sem], by simp [*, go_sem], by simp [*, go_sem]⟩
            clear hK K
            try simp only [Act.put, List.setIfInBounds_toArray, List.set_cons_zero, List.set_cons_succ]
            refine wpAnyN_one (i := 12) (by kernel_rfl) rfl (fun K hK => ?_)
            go_simp
            refine hK.out _ _ (fun h _ => absurd (by decide) h) ?_
            clear hK K
            try simp only [Act.put, List.setIfInBounds_toArray, List.set_cons_zero, List.set_cons_succ]
            refine wpAnyN_pure (i := 13) (v := .pointer (some ⟨w1.heap.size, 1, none⟩)) rfl (by kernel_rfl) (by kernel_rfl) (by kernel_rfl) (fun _ _ _ h => h) (Or.inl ⟨by rfl, fun W _ => by go_simp⟩) ?_
            try simp only [Act.put, List.setIfInBounds_toArray, List.set_cons_zero, List.set_cons_succ]
            refine wpAnyN_one (i := 14) (by kernel_rfl) rfl (fun K hK => ?_)
            go_simp
            refine hK.out _ _ (fun h _ => absurd (by decide) h) ?_
            clear hK K
            try simp only [Act.put, List.setIfInBounds_toArray, List.set_cons_zero, List.set_cons_succ]
            refine wpAnyN_done (by kernel_rfl) ?_ _
            have E4 := P5.own1.len_le
            have E5 := P5.own2.len_le
            simp only [List.length_append, List.length_map, List.length_cons, List.length_nil] at E4 E5
            have F4 := Lib.hid E4.1
            have F5 := Lib.hid E5.1
            have PF := Lib.hid P5.st
            clear E4 E5 P4 P5 G4 G5 x4 x5 f4 f5 y4 y5 z4 z5 q4 q5 r4 r5 c20 z20 cs2 cf2
            refine NoPanic.normal ?_
            go_wp2_with fail
            go_roundw
            case rel => exact ⟨q + 1, m4, m5, t ++ [(y.1, n + y.2)], A4, A5, k4, k5, by omega, by go_num, by rw [HE1.out], by have := F4.out; simp; omega, by have := F5.out; simp; omega, by simpa using PF.out, by rw [HTS.out]; have := KT.out.more HLE.out HNE.out; rwa [← HN.out] at this, by simp; omega⟩
            case measure => simp [intOf]; omega
        · skip
          go_simp
          refine hK.out _ _ (fun _ _ => ?_) ?_
          · exact ⟨by simp [*, go_sem], by simp [*, go_sem], by simp [*, go_sem]⟩
          clear hK K
          try simp only [Act.put, List.setIfInBounds_toArray, List.set_cons_zero, List.set_cons_succ]
          refine wpAnyN_one (i := 4) (by kernel_rfl) rfl (fun K hK => ?_)
          go_simp
          refine hK.out _ _ (fun _ _ => ?_) ?_
          · exact ⟨by simp [*, go_sem], by simp [*, go_sem], by simp [*, go_sem]⟩
          clear hK K
          try simp only [Act.put, List.setIfInBounds_toArray, List.set_cons_zero, List.set_cons_succ]
          refine wpAnyN_one (i := 5) (by kernel_rfl) rfl (fun K hK => ?_)
          refine step_app (o := ⟨some 47, _, _, _, _, _⟩) tyZ (by rfl) _ _ (by rfl) encZ (w1.heap.size + 1) V1 (t.map (·.1)) (by rfl) (TwoSt.own1 (w := w1) (base := w.heap.size) (B := w1.heap.size + 1) (b0 := w.heap.size) (bs := w1.heap.size) (vl := (Value.slice (some ⟨c, off, none⟩) l'.length cap)) (ll := l') (V1 := V1) (V2 := V2) (U2 := V2) (L2 := (t.map (·.2))) (by (repeat (first | with_reducible exact S2.out | with_reducible refine TwoSt.alloc ?_ _ | with_reducible refine TwoSt.drew ?_)); done)) _ 1 [y.1] _ (by rfl) (sl_cell (by simp [*, go_sem]) (by first | omega | (simp; done) | (simp; omega))) (by first | omega | (simp; omega)) (by simp [maxLen]; omega) (by first | omega | (simp; omega)) ?_
          intro v4 w4 ho4 hg4 hl4 hb4 hn4
          obtain ⟨A4, k4, m4, rfl⟩ : ∃ A k m, v4 = .slice A m k := by obtain ⟨A, k, hv, _⟩ := ho4.form; exact ⟨A, k, _, hv⟩
          have P4 := TwoSt.app1 (w := w1) (base := w.heap.size) (B := w1.heap.size + 1) (b0 := w.heap.size) (bs := w1.heap.size) (vl := (Value.slice (some ⟨c, off, none⟩) l'.length cap)) (ll := l') (V1 := V1) (V2 := V2) (U2 := V2) (L2 := (t.map (·.2))) (U1 := V1) (L1 := (t.map (·.1))) (by (repeat (first | with_reducible exact S2.out | with_reducible refine TwoSt.alloc ?_ _ | with_reducible refine TwoSt.drew ?_)); done) hg4 ho4 hl4 hb4
          have r4 := hg4.size
          try simp only [World.size_alloc, World.drew] at r4
          have G4 := grown_new hg4 wr.heap.size (fun g hg => W1.out g hg)
          have x4 := blk_cell P4.sums
          have f4 := blk_frozen P4.sums
          have y4 : w4.cell? ⟨wr.heap.size, 0, none⟩ = some (.int .i64 y.1) := (G4 wr.heap.size 0 (Nat.le_refl _) (by first | omega | (simp; omega))).trans (by simp [*, go_sem])
          have b4 : w4.cell? ⟨w2.heap.size, 0, none⟩ = some (.int .i64 (n + y.2)) := (G4 (w2.heap.size) 0 (by omega) (by first | omega | (simp; done) | (simp; omega))).trans (by simp [*, go_sem])
          have z4 : w1.heap.size < w4.heap.size := P4.size
          have q4 : wr.heap.size < w4.heap.size := by have := hg4.size; (try simp at this); omega
          clear hn4 hb4 hl4 hg4 ho4
          refine hK.out _ _ (fun _ _ => ?_) ?_
          · exact ⟨by simp [*, go_sem], by simp [*, go_sem], by simp [*, go_sem]⟩
          clear hK K
          try simp only [Act.put, List.setIfInBounds_toArray, List.set_cons_zero, List.set_cons_succ]
          refine wpAnyN_pure (i := 11) (v := .pointer (some ⟨w1.heap.size, 0, none⟩)) rfl (by kernel_rfl) (by kernel_rfl) (by kernel_rfl) (fun _ _ _ h => h) (Or.inl ⟨by rfl, fun W _ => by go_simp⟩) ?_
          try simp only [Act.put, List.setIfInBounds_toArray, List.set_cons_zero, List.set_cons_succ]
          refine wpAnyN_one (i := 10) (by kernel_rfl) rfl (fun K hK => ?_)
          refine step_app (o := ⟨some 52, _, _, _, _, _⟩) tyZ (by rfl) _ _ (by rfl) encZ (w1.heap.size + 1) V2 (t.map (·.2)) (by rfl) (TwoSt.own2 (w := w1) (base := w.heap.size) (B := w1.heap.size + 1) (b0 := w.heap.size) (bs := w1.heap.size) (vl := (Value.slice (some ⟨c, off, none⟩) l'.length cap)) (ll := l') (V1 := V1) (V2 := V2) (U1 := .slice A4 m4 k4) (L1 := (t.map (·.1)) ++ [y.1]) (by (repeat (first | with_reducible exact P4 | with_reducible refine TwoSt.alloc ?_ _ | with_reducible refine TwoSt.drew ?_)); done)) _ 1 [(n + y.2)] _ (by rfl) (sl_cell (by simp [*, go_sem]) (by first | omega | (simp; done) | (simp; omega))) (by first | omega | (simp; omega)) (by simp [maxLen]; omega) (by first | omega | (simp; omega)) ?_
          intro v5 w5 ho5 hg5 hl5 hb5 hn5
          obtain ⟨A5, k5, m5, rfl⟩ : ∃ A k m, v5 = .slice A m k := by obtain ⟨A, k, hv, _⟩ := ho5.form; exact ⟨A, k, _, hv⟩
          have P5 := TwoSt.app2 (w := w1) (base := w.heap.size) (B := w1.heap.size + 1) (b0 := w.heap.size) (bs := w1.heap.size) (vl := (Value.slice (some ⟨c, off, none⟩) l'.length cap)) (ll := l') (V1 := V1) (V2 := V2) (U1 := .slice A4 m4 k4) (L1 := (t.map (·.1)) ++ [y.1]) (U2 := V2) (L2 := (t.map (·.2))) (by (repeat (first | with_reducible exact P4 | with_reducible refine TwoSt.alloc ?_ _ | with_reducible refine TwoSt.drew ?_)); done) hg5 ho5 hl5 hb5
          have r5 := hg5.size
          try simp only [World.size_alloc, World.drew] at r5
          have G5 := grown_new hg5 wr.heap.size (fun g hg => W2.out g hg)
          have x5 := blk_cell P5.sums
          have f5 := blk_frozen P5.sums
          have y5 : w5.cell? ⟨wr.heap.size, 0, none⟩ = some (.int .i64 y.1) := (G5 wr.heap.size 0 (Nat.le_refl _) (by first | omega | (simp; omega))).trans (by simp [*, go_sem])
          have z5 : w1.heap.size < w5.heap.size := P5.size
          have q5 : wr.heap.size < w5.heap.size := by have := hg5.size; (try simp at this); omega
          clear hn5 hb5 hl5 hg5 ho5
          refine hK.out _ _ (fun _ _ => ?_) ?_
          · exact ⟨by simp [*, go_sem], by simp [*, go_sem], by simp [*, go_sem]⟩
          clear hK K
          try simp only [Act.put, List.setIfInBounds_toArray, List.set_cons_zero, List.set_cons_succ]
          refine wpAnyN_one (i := 12) (by kernel_rfl) rfl (fun K hK => ?_)
          go_simp
          refine hK.out _ _ (fun h _ => absurd (by decide) h) ?_
          clear hK K
          try simp only [Act.put, List.setIfInBounds_toArray, List.set_cons_zero, List.set_cons_succ]
          refine wpAnyN_pure (i := 13) (v := .pointer (some ⟨w1.heap.size, 1, none⟩)) rfl (by kernel_rfl) (by kernel_rfl) (by kernel_rfl) (fun _ _ _ h => h) (Or.inl ⟨by rfl, fun W _ => by go_simp⟩) ?_
          try simp only [Act.put, List.setIfInBounds_toArray, List.set_cons_zero, List.set_cons_succ]
          refine wpAnyN_one (i := 14) (by kernel_rfl) rfl (fun K hK => ?_)
          go_simp
          refine hK.out _ _ (fun h _ => absurd (by decide) h) ?_
          clear hK K
          try simp only [Act.put, List.setIfInBounds_toArray, List.set_cons_zero, List.set_cons_succ]
          refine wpAnyN_done (by kernel_rfl) ?_ _
          have E4 := P5.own1.len_le
          have E5 := P5.own2.len_le
          simp only [List.length_append, List.length_map, List.length_cons, List.length_nil] at E4 E5
          have F4 := Lib.hid E4.1
          have F5 := Lib.hid E5.1
          have PF := Lib.hid P5.st
          clear E4 E5 P4 P5 G4 G5 x4 x5 f4 f5 y4 y5 z4 z5 q4 q5 r4 r5 c20 z20 cs2 cf2
          refine NoPanic.normal ?_
          go_wp2_with fail
          go_roundw
          case rel => exact ⟨q + 1, m4, m5, t ++ [(y.1, n + y.2)], A4, A5, k4, k5, by omega, by go_num, by rw [HE1.out], by have := F4.out; simp; omega, by have := F5.out; simp; omega, by simpa using PF.out, by rw [HTS.out]; have := KT.out.more HLE.out HNE.out; rwa [← HN.out] at this, by simp; omega⟩
          case measure => simp [intOf]; omega
      · rw [List.concat_eq_append] at ht
        obtain ⟨m, hm⟩ : ∃ m, m = t'.length := ⟨_, rfl⟩
        have hkm : k1 = m + 1 := by have := HK1.out; rw [ht] at this; simp at this; omega
        have g1 : decide (0 < k1) = true := by simp; omega
        have g2 : (k1 : Int) - 1 = (m : Int) := by omega
        have g3 : (m : Int) < (k1 : Int) := by omega
        have g4 : m < k1 := by omega
        have g5 : m < (t.map (·.1)).length := by rw [ht]; simp; omega
        have ga : (t.map (·.1))[m] = a.1 := by simp only [ht, hm]; simp
        obtain ⟨b1, o1, rfl, hb1, hc1⟩ := KST.out.own1.sl.at_ g5
        have e0 := hc1 0 (.int .i64 a.1) (by rw [ga]; rfl)
        simp only [Nat.add_zero, Nat.mul_one] at e0
        have g6 : m < (t.map (·.2)).length := by rw [ht]; simp; omega
        obtain ⟨b2, o2, rfl, hb2, hc2⟩ := KST.out.own2.sl.at_ g6
        have gb : (t.map (·.2))[m] = a.2 := by simp only [ht, hm]; simp
        have e8 := hc2 0 (.int .i64 a.2) (by rw [gb]; rfl)
        simp only [Nat.add_zero, Nat.mul_one] at e8
        have g7 : m < k2 := by have := kk.out; omega
        have HKM := Lib.hid hkm
        have HM := Lib.hid hm
        have HT := Lib.hid ht
        clear hc1 hc2 g5 ga gb hkm hm ht
        by_cases ha : a.1 = y.1
        · have ha' : (a.1 == y.1) = true := by simpa using ha
          have HAE := Lib.hid ha
          have e9 := KST.out.own2.frozen
          have hz2 : b2 < wr.heap.size := hb2
          clear ha
          go_wp2_with fail
          refine wp_region_ext (by kernel_rfl) (by kernel_rfl) ?_
          repeat (go_big_quiet_step (fail))
          refine wpQuiet_nil ?_
          intro w2 hb2'
          replace hb2' := below_of_ext hb2'
          have s2 := (KST.out.alloc (.cells #[.int .i64 y.1, .int .i64 y.2] 96)).below hb2'
          have cs2 := blk_cell s2.sums
          have cf2 := blk_frozen s2.sums
          have zs2 : w1.heap.size < w2.heap.size := by have := hb2'.size; simp at this; omega
          have z22 : b2 < w2.heap.size := by have := hb2'.size; simp at this; omega
          have c23 : w2.cell? ⟨b2, o2 + m, none⟩ = some (.int .i64 a.2) := (hb2'.cell (p := ⟨b2, o2 + m, none⟩) (by simp; omega)).trans (by go_simp)
          have f22 := s2.own2.frozen
          have S2 := Lib.hid s2
          clear s2 hb2' cs cf g1 e0 e9 e8
          go_wp2_with fail
          have S3 := Lib.hid (S2.out.set2 m g6 (n + y.2))
          clear c23 f22 S2 cs2 cf2
          go_wp2_with fail
          go_roundw
          case rel => exact ⟨q + 1, k1, k2, t' ++ [(y.1, n + y.2)], some ⟨b1, o1, none⟩, some ⟨b2, o2, none⟩, c1, c2, by omega, by go_num, by rw [HE1.out], by have := HKM.out; have := HM.out; simp; omega, by have := HKM.out; have := HM.out; have := kk.out; simp; omega, by have h := S3.out; rw [HT.out, set_last HM.out (y.1, n + y.2)] at h; have e : (t' ++ [a]).map (·.1) = (t' ++ [(y.1, n + y.2)]).map (·.1) := (by simp [HAE.out]); rwa [e] at h, by have h := KT.out; rw [HT.out, show a = (y.1, a.2) from Prod.ext HAE.out rfl] at h; have h2 := h.same HLE.out; rw [← HN.out] at h2; rwa [HTS.out], by rw [HT.out] at htq; simp at htq ⊢; omega⟩
          case measure => simp [intOf]; omega
        · have ha' : (a.1 == y.1) = false := by simpa using ha
          have HNE := Lib.hid (show ∀ z ∈ t, z.1 ≠ y.1 by rw [HT.out]; exact Tab.last_ne (by rw [← HT.out]; exact KT.out) HLE.out ha)
          clear ha
          go_wp2_with fail
          refine wp_region_ext (by kernel_rfl) (by kernel_rfl) ?_
          repeat (go_big_quiet_step (fail))
          refine wpQuiet_nil ?_
          intro w2 hb2
          replace hb2 := below_of_ext hb2
          have c20 := (hb2.cell (p := ⟨wr.heap.size, 0, none⟩) (by simp)).trans (by go_simp : _ = some (Value.int .i64 y.1))
          have z20 : wr.heap.size < w2.heap.size := by have := hb2.size; simp at this; omega
          have s2 := (KST.out.alloc (.cells #[.int .i64 y.1, .int .i64 y.2] 96)).below hb2
          have cs2 := blk_cell s2.sums
          have cf2 := blk_frozen s2.sums
          have zs2 : w1.heap.size < w2.heap.size := by omega
          have ow1 : ∀ g, (Value.slice (some ⟨b1, o1, none⟩) k1 c1).ownBlock = some g → g < wr.heap.size := fun g hg => (KST.out.own1.lt g hg).2
          have ow2 : ∀ g, (Value.slice (some ⟨b2, o2, none⟩) k2 c2).ownBlock = some g → g < wr.heap.size := fun g hg => (KST.out.own2.lt g hg).2
          generalize Value.slice (some ⟨b1, o1, none⟩) k1 c1 = V1 at s2 cs2 ow1 ⊢
          generalize Value.slice (some ⟨b2, o2, none⟩) k2 c2 = V2 at s2 cs2 ow2 ⊢
          have W1 := Lib.hid ow1
          have W2 := Lib.hid ow2
          have S2 := Lib.hid s2
          clear s2 hb2 cs cf g1 g2 g3 g4 ow1 ow2 e0 e8 g7
          go_wp2_with fail
          refine wp_region_noPanic ?_
          refine wp_region_N (fun w' => w'.cell? ⟨w1.heap.size, 0, none⟩ = some V1 ∧ w'.cell? ⟨w1.heap.size, 1, none⟩ = some V2 ∧ w'.cell? ⟨wr.heap.size, 0, none⟩ = some (.int .i64 y.1)) [12, 14] (by kernel_rfl) ⟨by simp [*, go_sem], by simp [*, go_sem], by simp [*, go_sem]⟩ (fun hHeld => ?_)
          refine wpAnyN_pure (i := 0) (v := .pointer (some ⟨w1.heap.size, 0, none⟩)) rfl (by kernel_rfl) (by kernel_rfl) (by kernel_rfl) (fun _ _ _ h => h) (Or.inl ⟨by rfl, fun W _ => by go_simp⟩) ?_
          try simp only [Act.put, List.setIfInBounds_toArray, List.set_cons_zero, List.set_cons_succ]
          refine wpAnyN_take (i := 1) (v := V1) rfl (by kernel_rfl) (by kernel_rfl) (by kernel_rfl) (by kernel_rfl) (fun _ _ _ h => h) (Or.inl ⟨by rfl, fun W hW => by obtain ⟨q1, q2, q3⟩ := hW; go_simp⟩) hHeld ?_
          try simp only [Act.put, List.setIfInBounds_toArray, List.set_cons_zero, List.set_cons_succ]
          refine wpAnyN_pure (i := 2) (v := .pointer (some ⟨wr.heap.size, 0, none⟩)) rfl (by kernel_rfl) (by kernel_rfl) (by kernel_rfl) (fun _ _ _ h => h) (Or.inl ⟨by rfl, fun W _ => by go_simp⟩) ?_
          try simp only [Act.put, List.setIfInBounds_toArray, List.set_cons_zero, List.set_cons_succ]
          refine wpAnyN_take (i := 3) (v := .int .i64 y.1) rfl (by kernel_rfl) (by kernel_rfl) (by kernel_rfl) (by kernel_rfl) (fun _ _ _ h => h) (Or.inl ⟨by rfl, fun W hW => by obtain ⟨q1, q2, q3⟩ := hW; go_simp⟩) hHeld ?_
          try simp only [Act.put, List.setIfInBounds_toArray, List.set_cons_zero, List.set_cons_succ]
          refine wpAnyN_pure (i := 6) (v := .pointer (some ⟨w1.heap.size, 1, none⟩)) rfl (by kernel_rfl) (by kernel_rfl) (by kernel_rfl) (fun _ _ _ h => h) (Or.inl ⟨by rfl, fun W _ => by go_simp⟩) ?_
          try simp only [Act.put, List.setIfInBounds_toArray, List.set_cons_zero, List.set_cons_succ]
          refine wpAnyN_take (i := 7) (v := V2) rfl (by kernel_rfl) (by kernel_rfl) (by kernel_rfl) (by kernel_rfl) (fun _ _ _ h => h) (Or.inl ⟨by rfl, fun W hW => by obtain ⟨q1, q2, q3⟩ := hW; go_simp⟩) hHeld ?_
          try simp only [Act.put, List.setIfInBounds_toArray, List.set_cons_zero, List.set_cons_succ]
          refine wpAnyN_pure (i := 8) (v := .int .i64 (n + y.2)) rfl (by kernel_rfl) (by kernel_rfl) (by kernel_rfl) (fun _ _ _ h => h) (Or.inl ⟨by rfl, fun W _ => by go_simp⟩) ?_
          try simp only [Act.put, List.setIfInBounds_toArray, List.set_cons_zero, List.set_cons_succ]
          clear hHeld
          refine wpAnyN_two (i := 4) (k := 9) (by kernel_rfl) rfl rfl (fun K hK => ?_) (fun K hK => ?_)
          · skip
            go_simp
            refine hK.out _ _ (fun _ _ => ?_) ?_
            · exact ⟨by simp [*, go_sem], by simp [*, go_sem], by simp [*, go_sem]⟩
            clear hK K
            try simp only [Act.put, List.setIfInBounds_toArray, List.set_cons_zero, List.set_cons_succ]
            refine wpAnyN_two (i := 5) (k := 9) (by kernel_rfl) rfl rfl (fun K hK => ?_) (fun K hK => ?_)
            · skip
              refine step_app (o := ⟨some 47, _, _, _, _, _⟩) tyZ (by rfl) _ _ (by rfl) encZ (w1.heap.size + 1) V1 (t.map (·.1)) (by rfl) (TwoSt.own1 (w := w1) (base := w.heap.size) (B := w1.heap.size + 1) (b0 := w.heap.size) (bs := w1.heap.size) (vl := (Value.slice (some ⟨c, off, none⟩) l'.length cap)) (ll := l') (V1 := V1) (V2 := V2) (U2 := V2) (L2 := (t.map (·.2))) (by (repeat (first | with_reducible exact S2.out | with_reducible refine TwoSt.alloc ?_ _ | with_reducible refine TwoSt.drew ?_)); done)) _ 1 [y.1] _ (by rfl) (sl_cell (by simp [*, go_sem]) (by first | omega | (simp; done) | (simp; omega))) (by first | omega | (simp; omega)) (by simp [maxLen]; omega) (by first | omega | (simp; omega)) ?_
              intro v4 w4 ho4 hg4 hl4 hb4 hn4
              obtain ⟨A4, k4, m4, rfl⟩ : ∃ A k m, v4 = .slice A m k := by obtain ⟨A, k, hv, _⟩ := ho4.form; exact ⟨A, k, _, hv⟩
              have P4 := TwoSt.app1 (w := w1) (base := w.heap.size) (B := w1.heap.size + 1) (b0 := w.heap.size) (bs := w1.heap.size) (vl := (Value.slice (some ⟨c, off, none⟩) l'.length cap)) (ll := l') (V1 := V1) (V2 := V2) (U2 := V2) (L2 := (t.map (·.2))) (U1 := V1) (L1 := (t.map (·.1))) (by (repeat (first | with_reducible exact S2.out | with_reducible refine TwoSt.alloc ?_ _ | with_reducible refine TwoSt.drew ?_)); done) hg4 ho4 hl4 hb4
              have r4 := hg4.size
              try simp only [World.size_alloc, World.drew] at r4
              have G4 := grown_new hg4 wr.heap.size (fun g hg => W1.out g hg)
              have x4 := blk_cell P4.sums
              have f4 := blk_frozen P4.sums
              have y4 : w4.cell? ⟨wr.heap.size, 0, none⟩ = some (.int .i64 y.1) := (G4 wr.heap.size 0 (Nat.le_refl _) (by first | omega | (simp; omega))).trans (by simp [*, go_sem])
              have z4 : w1.heap.size < w4.heap.size := P4.size
              have q4 : wr.heap.size < w4.heap.size := by have := hg4.size; (try simp at this); omega
              clear hn4 hb4 hl4 hg4 ho4
              refine hK.out _ _ (fun _ _ => ?_) ?_
              · exact ⟨by simp [*, go_sem], by simp [*, go_sem], by simp [*, go_sem]⟩
              clear hK K
              try simp only [Act.put, List.setIfInBounds_toArray, List.set_cons_zero, List.set_cons_succ]
              refine wpAnyN_pure (i := 11) (v := .pointer (some ⟨w1.heap.size, 0, none⟩)) rfl (by kernel_rfl) (by kernel_rfl) (by kernel_rfl) (fun _ _ _ h => h) (Or.inl ⟨by rfl, fun W _ => by go_simp⟩) ?_
              try simp only [Act.put, List.setIfInBounds_toArray, List.set_cons_zero, List.set_cons_succ]
              refine wpAnyN_one (i := 9) (by kernel_rfl) rfl (fun K hK => ?_)
              go_simp
              refine hK.out _ _ (fun _ _ => ?_) ?_
              · exact ⟨by simp [*, go_sem], by simp [*, go_sem], by simp [*, go_sem]⟩
              clear hK K
              try simp only [Act.put, List.setIfInBounds_toArray, List.set_cons_zero, List.set_cons_succ]
              refine wpAnyN_one (i := 10) (by kernel_rfl) rfl (fun K hK => ?_)
              refine step_app (o := ⟨some 52, _, _, _, _, _⟩) tyZ (by rfl) _ _ (by rfl) encZ (w1.heap.size + 1) V2 (t.map (·.2)) (by rfl) (TwoSt.own2 (w := w1) (base := w.heap.size) (B := w1.heap.size + 1) (b0 := w.heap.size) (bs := w1.heap.size) (vl := (Value.slice (some ⟨c, off, none⟩) l'.length cap)) (ll := l') (V1 := V1) (V2 := V2) (U1 := .slice A4 m4 k4) (L1 := (t.map (·.1)) ++ [y.1]) (by (repeat (first | with_reducible exact P4 | with_reducible refine TwoSt.alloc ?_ _ | with_reducible refine TwoSt.drew ?_)); done)) _ 1 [(n + y.2)] _ (by rfl) (sl_cell (by simp [*, go_sem]) (by first | omega | (simp; done) | (simp; omega))) (by first | omega | (simp; omega)) (by simp [maxLen]; omega) (by first | omega | (simp; omega)) ?_
              intro v5 w5 ho5 hg5 hl5 hb5 hn5
              obtain ⟨A5, k5, m5, rfl⟩ : ∃ A k m, v5 = .slice A m k := by obtain ⟨A, k, hv, _⟩ := ho5.form; exact ⟨A, k, _, hv⟩
              have P5 := TwoSt.app2 (w := w1) (base := w.heap.size) (B := w1.heap.size + 1) (b0 := w.heap.size) (bs := w1.heap.size) (vl := (Value.slice (some ⟨c, off, none⟩) l'.length cap)) (ll := l') (V1 := V1) (V2 := V2) (U1 := .slice A4 m4 k4) (L1 := (t.map (·.1)) ++ [y.1]) (U2 := V2) (L2 := (t.map (·.2))) (by (repeat (first | with_reducible exact P4 | with_reducible refine TwoSt.alloc ?_ _ | with_reducible refine TwoSt.drew ?_)); done) hg5 ho5 hl5 hb5
              have r5 := hg5.size
              try simp only [World.size_alloc, World.drew] at r5
              have G5 := grown_new hg5 wr.heap.size (fun g hg => W2.out g hg)
              have x5 := blk_cell P5.sums
              have f5 := blk_frozen P5.sums
              have y5 : w5.cell? ⟨wr.heap.size, 0, none⟩ = some (.int .i64 y.1) := (G5 wr.heap.size 0 (Nat.le_refl _) (by first | omega | (simp; omega))).trans (by simp [*, go_sem])
              have z5 : w1.heap.size < w5.heap.size := P5.size
              have q5 : wr.heap.size < w5.heap.size := by have := hg5.size; (try simp at this); omega
              clear hn5 hb5 hl5 hg5 ho5
              refine hK.out _ _ (fun _ _ => ?_) ?_
              · exact ⟨by simp [*, go_sem], by simp [*, go_sem], by simp [*, go_sem]⟩
              clear hK K
              try simp only [Act.put, List.setIfInBounds_toArray, List.set_cons_zero, List.set_cons_succ]
              refine wpAnyN_one (i := 12) (by kernel_rfl) rfl (fun K hK => ?_)
              go_simp
              refine hK.out _ _ (fun h _ => absurd (by decide) h) ?_
              clear hK K
              try simp only [Act.put, List.setIfInBounds_toArray, List.set_cons_zero, List.set_cons_succ]
              refine wpAnyN_pure (i := 13) (v := .pointer (some ⟨w1.heap.size, 1, none⟩)) rfl (by kernel_rfl) (by kernel_rfl) (by kernel_rfl) (fun _ _ _ h => h) (Or.inl ⟨by rfl, fun W _ => by go_simp⟩) ?_
              try simp only [Act.put, List.setIfInBounds_toArray, List.set_cons_zero, List.set_cons_succ]
              refine wpAnyN_one (i := 14) (by kernel_rfl) rfl (fun K hK => ?_)
              go_simp
              refine hK.out _ _ (fun h _ => absurd (by decide) h) ?_
              clear hK K
              try simp only [Act.put, List.setIfInBounds_toArray, List.set_cons_zero, List.set_cons_succ]
              refine wpAnyN_done (by kernel_rfl) ?_ _
              have E4 := P5.own1.len_le
              have E5 := P5.own2.len_le
              simp only [List.length_append, List.length_map, List.length_cons, List.length_nil] at E4 E5
              have F4 := Lib.hid E4.1
              have F5 := Lib.hid E5.1
              have PF := Lib.hid P5.st
              clear E4 E5 P4 P5 G4 G5 x4 x5 f4 f5 y4 y5 z4 z5 q4 q5 r4 r5 c20 z20 cs2 cf2
              refine NoPanic.normal ?_
              go_wp2_with fail
              go_roundw
              case rel => exact ⟨q + 1, m4, m5, t ++ [(y.1, n + y.2)], A4, A5, k4, k5, by omega, by go_num, by rw [HE1.out], by have := F4.out; simp; omega, by have := F5.out; simp; omega, by simpa using PF.out, by rw [HTS.out]; have := KT.out.more HLE.out HNE.out; rwa [← HN.out] at this, by simp; omega⟩
              case measure => simp [intOf]; omega
            · skip
              go_simp
              refine hK.out _ _ (fun _ _ => ?_) ?_
              · exact ⟨by simp [*, go_sem], by simp [*, go_sem], by simp [*, go_sem]⟩
              clear hK K
              try simp only [Act.put, List.setIfInBounds_toArray, List.set_cons_zero, List.set_cons_succ]
              refine wpAnyN_one (i := 5) (by kernel_rfl) rfl (fun K hK => ?_)
              refine step_app (o := ⟨some 47, _, _, _, _, _⟩) tyZ (by rfl) _ _ (by rfl) encZ (w1.heap.size + 1) V1 (t.map (·.1)) (by rfl) (TwoSt.own1 (w := w1) (base := w.heap.size) (B := w1.heap.size + 1) (b0 := w.heap.size) (bs := w1.heap.size) (vl := (Value.slice (some ⟨c, off, none⟩) l'.length cap)) (ll := l') (V1 := V1) (V2 := V2) (U2 := V2) (L2 := (t.map (·.2))) (by (repeat (first | with_reducible exact S2.out | with_reducible refine TwoSt.alloc ?_ _ | with_reducible refine TwoSt.drew ?_)); done)) _ 1 [y.1] _ (by rfl) (sl_cell (by simp [*, go_sem]) (by first | omega | (simp; done) | (simp; omega))) (by first | omega | (simp; omega)) (by simp [maxLen]; omega) (by first | omega | (simp; omega)) ?_
              intro v4 w4 ho4 hg4 hl4 hb4 hn4
              obtain ⟨A4, k4, m4, rfl⟩ : ∃ A k m, v4 = .slice A m k := by obtain ⟨A, k, hv, _⟩ := ho4.form; exact ⟨A, k, _, hv⟩
              have P4 := TwoSt.app1 (w := w1) (base := w.heap.size) (B := w1.heap.size + 1) (b0 := w.heap.size) (bs := w1.heap.size) (vl := (Value.slice (some ⟨c, off, none⟩) l'.length cap)) (ll := l') (V1 := V1) (V2 := V2) (U2 := V2) (L2 := (t.map (·.2))) (U1 := V1) (L1 := (t.map (·.1))) (by (repeat (first | with_reducible exact S2.out | with_reducible refine TwoSt.alloc ?_ _ | with_reducible refine TwoSt.drew ?_)); done) hg4 ho4 hl4 hb4
              have r4 := hg4.size
              try simp only [World.size_alloc, World.drew] at r4
              have G4 := grown_new hg4 wr.heap.size (fun g hg => W1.out g hg)
              have x4 := blk_cell P4.sums
              have f4 := blk_frozen P4.sums
              have y4 : w4.cell? ⟨wr.heap.size, 0, none⟩ = some (.int .i64 y.1) := (G4 wr.heap.size 0 (Nat.le_refl _) (by first | omega | (simp; omega))).trans (by simp [*, go_sem])
              have b4 : w4.cell? ⟨w2.heap.size + 1, 0, none⟩ = some (.int .i64 (n + y.2)) := (G4 (w2.heap.size + 1) 0 (by omega) (by first | omega | (simp; done) | (simp; omega))).trans (by simp [*, go_sem])
              have z4 : w1.heap.size < w4.heap.size := P4.size
              have q4 : wr.heap.size < w4.heap.size := by have := hg4.size; (try simp at this); omega
              clear hn4 hb4 hl4 hg4 ho4
              refine hK.out _ _ (fun _ _ => ?_) ?_
              · exact ⟨by simp [*, go_sem], by simp [*, go_sem], by simp [*, go_sem]⟩
              clear hK K
              try simp only [Act.put, List.setIfInBounds_toArray, List.set_cons_zero, List.set_cons_succ]
              refine wpAnyN_pure (i := 11) (v := .pointer (some ⟨w1.heap.size, 0, none⟩)) rfl (by kernel_rfl) (by kernel_rfl) (by kernel_rfl) (fun _ _ _ h => h) (Or.inl ⟨by rfl, fun W _ => by go_simp⟩) ?_
              try simp only [Act.put, List.setIfInBounds_toArray, List.set_cons_zero, List.set_cons_succ]
              refine wpAnyN_one (i := 10) (by kernel_rfl) rfl (fun K hK => ?_)
              refine step_app (o := ⟨some 52, _, _, _, _, _⟩) tyZ (by rfl) _ _ (by rfl) encZ (w1.heap.size + 1) V2 (t.map (·.2)) (by rfl) (TwoSt.own2 (w := w1) (base := w.heap.size) (B := w1.heap.size + 1) (b0 := w.heap.size) (bs := w1.heap.size) (vl := (Value.slice (some ⟨c, off, none⟩) l'.length cap)) (ll := l') (V1 := V1) (V2 := V2) (U1 := .slice A4 m4 k4) (L1 := (t.map (·.1)) ++ [y.1]) (by (repeat (first | with_reducible exact P4 | with_reducible refine TwoSt.alloc ?_ _ | with_reducible refine TwoSt.drew ?_)); done)) _ 1 [(n + y.2)] _ (by rfl) (sl_cell (by simp [*, go_sem]) (by first | omega | (simp; done) | (simp; omega))) (by first | omega | (simp; omega)) (by simp [maxLen]; omega) (by first | omega | (simp; omega)) ?_
              intro v5 w5 ho5 hg5 hl5 hb5 hn5
              obtain ⟨A5, k5, m5, rfl⟩ : ∃ A k m, v5 = .slice A m k := by obtain ⟨A, k, hv, _⟩ := ho5.form; exact ⟨A, k, _, hv⟩
              have P5 := TwoSt.app2 (w := w1) (base := w.heap.size) (B := w1.heap.size + 1) (b0 := w.heap.size) (bs := w1.heap.size) (vl := (Value.slice (some ⟨c, off, none⟩) l'.length cap)) (ll := l') (V1 := V1) (V2 := V2) (U1 := .slice A4 m4 k4) (L1 := (t.map (·.1)) ++ [y.1]) (U2 := V2) (L2 := (t.map (·.2))) (by (repeat (first | with_reducible exact P4 | with_reducible refine TwoSt.alloc ?_ _ | with_reducible refine TwoSt.drew ?_)); done) hg5 ho5 hl5 hb5
              have r5 := hg5.size
              try simp only [World.size_alloc, World.drew] at r5
              have G5 := grown_new hg5 wr.heap.size (fun g hg => W2.out g hg)
              have x5 := blk_cell P5.sums
              have f5 := blk_frozen P5.sums
              have y5 : w5.cell? ⟨wr.heap.size, 0, none⟩ = some (.int .i64 y.1) := (G5 wr.heap.size 0 (Nat.le_refl _) (by first | omega | (simp; omega))).trans (by simp [*, go_sem])
              have z5 : w1.heap.size < w5.heap.size := P5.size
              have q5 : wr.heap.size < w5.heap.size := by have := hg5.size; (try simp at this); omega
              clear hn5 hb5 hl5 hg5 ho5
              refine hK.out _ _ (fun _ _ => ?_) ?_
              · exact ⟨by simp [*, go_sem], by simp [*, go_sem], by simp [*, go_sem]⟩
              clear hK K
              try simp only [Act.put, List.setIfInBounds_toArray, List.set_cons_zero, List.set_cons_succ]
              refine wpAnyN_one (i := 12) (by kernel_rfl) rfl (fun K hK => ?_)
              go_simp
              refine hK.out _ _ (fun h _ => absurd (by decide) h) ?_
              clear hK K
              try simp only [Act.put, List.setIfInBounds_toArray, List.set_cons_zero, List.set_cons_succ]
              refine wpAnyN_pure (i := 13) (v := .pointer (some ⟨w1.heap.size, 1, none⟩)) rfl (by kernel_rfl) (by kernel_rfl) (by kernel_rfl) (fun _ _ _ h => h) (Or.inl ⟨by rfl, fun W _ => by go_simp⟩) ?_
              try simp only [Act.put, List.setIfInBounds_toArray, List.set_cons_zero, List.set_cons_succ]
              refine wpAnyN_one (i := 14) (by kernel_rfl) rfl (fun K hK => ?_)
              go_simp
              refine hK.out _ _ (fun h _ => absurd (by decide) h) ?_
              clear hK K
              try simp only [Act.put, List.setIfInBounds_toArray, List.set_cons_zero, List.set_cons_succ]
              refine wpAnyN_done (by kernel_rfl) ?_ _
              have E4 := P5.own1.len_le
              have E5 := P5.own2.len_le
              simp only [List.length_append, List.length_map, List.length_cons, List.length_nil] at E4 E5
              have F4 := Lib.hid E4.1
              have F5 := Lib.hid E5.1
              have PF := Lib.hid P5.st
              clear E4 E5 P4 P5 G4 G5 x4 x5 f4 f5 y4 y5 z4 z5 q4 q5 r4 r5 c20 z20 cs2 cf2
              refine NoPanic.normal ?_
              go_wp2_with fail
              go_roundw
              case rel => exact ⟨q + 1, m4, m5, t ++ [(y.1, n + y.2)], A4, A5, k4, k5, by omega, by go_num, by rw [HE1.out], by have := F4.out; simp; omega, by have := F5.out; simp; omega, by simpa using PF.out, by rw [HTS.out]; have := KT.out.more HLE.out HNE.out; rwa [← HN.out] at this, by simp; omega⟩
              case measure => simp [intOf]; omega
          · skip
            go_simp
            refine hK.out _ _ (fun _ _ => ?_) ?_
            · exact ⟨by simp [*, go_sem], by simp [*, go_sem], by simp [*, go_sem]⟩
            clear hK K
            try simp only [Act.put, List.setIfInBounds_toArray, List.set_cons_zero, List.set_cons_succ]
            refine wpAnyN_one (i := 4) (by kernel_rfl) rfl (fun K hK => ?_)
            go_simp
            refine hK.out _ _ (fun _ _ => ?_) ?_
            · exact ⟨by simp [*, go_sem], by simp [*, go_sem], by simp [*, go_sem]⟩
            clear hK K
            try simp only [Act.put, List.setIfInBounds_toArray, List.set_cons_zero, List.set_cons_succ]
            refine wpAnyN_one (i := 5) (by kernel_rfl) rfl (fun K hK => ?_)
            refine step_app (o := ⟨some 47, _, _, _, _, _⟩) tyZ (by rfl) _ _ (by rfl) encZ (w1.heap.size + 1) V1 (t.map (·.1)) (by rfl) (TwoSt.own1 (w := w1) (base := w.heap.size) (B := w1.heap.size + 1) (b0 := w.heap.size) (bs := w1.heap.size) (vl := (Value.slice (some ⟨c, off, none⟩) l'.length cap)) (ll := l') (V1 := V1) (V2 := V2) (U2 := V2) (L2 := (t.map (·.2))) (by (repeat (first | with_reducible exact S2.out | with_reducible refine TwoSt.alloc ?_ _ | with_reducible refine TwoSt.drew ?_)); done)) _ 1 [y.1] _ (by rfl) (sl_cell (by simp [*, go_sem]) (by first | omega | (simp; done) | (simp; omega))) (by first | omega | (simp; omega)) (by simp [maxLen]; omega) (by first | omega | (simp; omega)) ?_
            intro v4 w4 ho4 hg4 hl4 hb4 hn4
            obtain ⟨A4, k4, m4, rfl⟩ : ∃ A k m, v4 = .slice A m k := by obtain ⟨A, k, hv, _⟩ := ho4.form; exact ⟨A, k, _, hv⟩
            have P4 := TwoSt.app1 (w := w1) (base := w.heap.size) (B := w1.heap.size + 1) (b0 := w.heap.size) (bs := w1.heap.size) (vl := (Value.slice (some ⟨c, off, none⟩) l'.length cap)) (ll := l') (V1 := V1) (V2 := V2) (U2 := V2) (L2 := (t.map (·.2))) (U1 := V1) (L1 := (t.map (·.1))) (by (repeat (first | with_reducible exact S2.out | with_reducible refine TwoSt.alloc ?_ _ | with_reducible refine TwoSt.drew ?_)); done) hg4 ho4 hl4 hb4
            have r4 := hg4.size
            try simp only [World.size_alloc, World.drew] at r4
            have G4 := grown_new hg4 wr.heap.size (fun g hg => W1.out g hg)
            have x4 := blk_cell P4.sums
            have f4 := blk_frozen P4.sums
            have y4 : w4.cell? ⟨wr.heap.size, 0, none⟩ = some (.int .i64 y.1) := (G4 wr.heap.size 0 (Nat.le_refl _) (by first | omega | (simp; omega))).trans (by simp [*, go_sem])
            have b4 : w4.cell? ⟨w2.heap.size, 0, none⟩ = some (.int .i64 (n + y.2)) := (G4 (w2.heap.size) 0 (by omega) (by first | omega | (simp; done) | (simp; omega))).trans (by simp [*, go_sem])
            have z4 : w1.heap.size < w4.heap.size := P4.size
            have q4 : wr.heap.size < w4.heap.size := by have := hg4.size; (try simp at this); omega
            clear hn4 hb4 hl4 hg4 ho4
            refine hK.out _ _ (fun _ _ => ?_) ?_
            · exact ⟨by simp [*, go_sem], by simp [*, go_sem], by simp [*, go_sem]⟩
            clear hK K
            try simp only [Act.put, List.setIfInBounds_toArray, List.set_cons_zero, List.set_cons_succ]
            refine wpAnyN_pure (i := 11) (v := .pointer (some ⟨w1.heap.size, 0, none⟩)) rfl (by kernel_rfl) (by kernel_rfl) (by kernel_rfl) (fun _ _ _ h => h) (Or.inl ⟨by rfl, fun W _ => by go_simp⟩) ?_
            try simp only [Act.put, List.setIfInBounds_toArray, List.set_cons_zero, List.set_cons_succ]
            refine wpAnyN_one (i := 10) (by kernel_rfl) rfl (fun K hK => ?_)
            refine step_app (o := ⟨some 52, _, _, _, _, _⟩) tyZ (by rfl) _ _ (by rfl) encZ (w1.heap.size + 1) V2 (t.map (·.2)) (by rfl) (TwoSt.own2 (w := w1) (base := w.heap.size) (B := w1.heap.size + 1) (b0 := w.heap.size) (bs := w1.heap.size) (vl := (Value.slice (some ⟨c, off, none⟩) l'.length cap)) (ll := l') (V1 := V1) (V2 := V2) (U1 := .slice A4 m4 k4) (L1 := (t.map (·.1)) ++ [y.1]) (by (repeat (first | with_reducible exact P4 | with_reducible refine TwoSt.alloc ?_ _ | with_reducible refine TwoSt.drew ?_)); done)) _ 1 [(n + y.2)] _ (by rfl) (sl_cell (by simp [*, go_sem]) (by first | omega | (simp; done) | (simp; omega))) (by first | omega | (simp; omega)) (by simp [maxLen]; omega) (by first | omega | (simp; omega)) ?_
            intro v5 w5 ho5 hg5 hl5 hb5 hn5
            obtain ⟨A5, k5, m5, rfl⟩ : ∃ A k m, v5 = .slice A m k := by obtain ⟨A, k, hv, _⟩ := ho5.form; exact ⟨A, k, _, hv⟩
            have P5 := TwoSt.app2 (w := w1) (base := w.heap.size) (B := w1.heap.size + 1) (b0 := w.heap.size) (bs := w1.heap.size) (vl := (Value.slice (some ⟨c, off, none⟩) l'.length cap)) (ll := l') (V1 := V1) (V2 := V2) (U1 := .slice A4 m4 k4) (L1 := (t.map (·.1)) ++ [y.1]) (U2 := V2) (L2 := (t.map (·.2))) (by (repeat (first | with_reducible exact P4 | with_reducible refine TwoSt.alloc ?_ _ | with_reducible refine TwoSt.drew ?_)); done) hg5 ho5 hl5 hb5
            have r5 := hg5.size
            try simp only [World.size_alloc, World.drew] at r5
            have G5 := grown_new hg5 wr.heap.size (fun g hg => W2.out g hg)
            have x5 := blk_cell P5.sums
            have f5 := blk_frozen P5.sums
            have y5 : w5.cell? ⟨wr.heap.size, 0, none⟩ = some (.int .i64 y.1) := (G5 wr.heap.size 0 (Nat.le_refl _) (by first | omega | (simp; omega))).trans (by simp [*, go_sem])
            have z5 : w1.heap.size < w5.heap.size := P5.size
            have q5 : wr.heap.size < w5.heap.size := by have := hg5.size; (try simp at this); omega
            clear hn5 hb5 hl5 hg5 ho5
            refine hK.out _ _ (fun _ _ => ?_) ?_
            · exact ⟨by simp [*, go_sem], by simp [*, go_sem], by simp [*, go_sem]⟩
            clear hK K
            try simp only [Act.put, List.setIfInBounds_toArray, List.set_cons_zero, List.set_cons_succ]
            refine wpAnyN_one (i := 12) (by kernel_rfl) rfl (fun K hK => ?_)
            go_simp
            refine hK.out _ _ (fun h _ => absurd (by decide) h) ?_
            clear hK K
            try simp only [Act.put, List.setIfInBounds_toArray, List.set_cons_zero, List.set_cons_succ]
            refine wpAnyN_pure (i := 13) (v := .pointer (some ⟨w1.heap.size, 1, none⟩)) rfl (by kernel_rfl) (by kernel_rfl) (by kernel_rfl) (fun _ _ _ h => h) (Or.inl ⟨by rfl, fun W _ => by go_simp⟩) ?_
            try simp only [Act.put, List.setIfInBounds_toArray, List.set_cons_zero, List.set_cons_succ]
            refine wpAnyN_one (i := 14) (by kernel_rfl) rfl (fun K hK => ?_)
            go_simp
            refine hK.out _ _ (fun h _ => absurd (by decide) h) ?_
            clear hK K
            try simp only [Act.put, List.setIfInBounds_toArray, List.set_cons_zero, List.set_cons_succ]
            refine wpAnyN_done (by kernel_rfl) ?_ _
            have E4 := P5.own1.len_le
            have E5 := P5.own2.len_le
            simp only [List.length_append, List.length_map, List.length_cons, List.length_nil] at E4 E5
            have F4 := Lib.hid E4.1
            have F5 := Lib.hid E5.1
            have PF := Lib.hid P5.st
            clear E4 E5 P4 P5 G4 G5 x4 x5 f4 f5 y4 y5 z4 z5 q4 q5 r4 r5 c20 z20 cs2 cf2
            refine NoPanic.normal ?_
            go_wp2_with fail
            go_roundw
            case rel => exact ⟨q + 1, m4, m5, t ++ [(y.1, n + y.2)], A4, A5, k4, k5, by omega, by go_num, by rw [HE1.out], by have := F4.out; simp; omega, by have := F5.out; simp; omega, by simpa using PF.out, by rw [HTS.out]; have := KT.out.more HLE.out HNE.out; rwa [← HN.out] at this, by simp; omega⟩
            case measure => simp [intOf]; omega
    · obtain rfl : q = l'.length := by omega
      rw [List.take_length] at KT
      have ct := blk_cell hst.zero
      have cft := blk_frozen hst.zero
      have zt := lt_of_block hst.zero
      clear hst htab
      subst hk1
      subst hk2
      go_wp2_with fail
      refine bodyPost_ret (v := .agg #[.slice A1 t.length c1, .slice A2 t.length c2]) (by simp only [results, Tryz.results96]; go_simp) rfl ⟨t, A1, c1, A2, c2, rfl, KT.out.perm HP.out, by have := HLen.out; omega, ?_, ?_, ?_⟩
      · exact ((KST.out.own1.setCellB (by simp only; omega)).setCellB (by simp only; omega)).base_le (by omega)
      · exact ((KST.out.own2.setCellB (by simp only; omega)).setCellB (by simp only; omega)).base_le (by omega)
      · have hB := (KST.out.blw.setCell (p := ⟨w.heap.size, 0, none⟩) (Nat.le_refl _) (.slice A1 t.length c1)).setCell (p := ⟨w.heap.size, 1, none⟩) (Nat.le_refl _) (.slice A2 t.length c2)
        have hA : Below w.heap.size w (w.alloc (.cells #[.slice none 0 0, .slice none 0 0] 165)) := (Below.refl _ _).alloc (Nat.le_refl _) _
        exact turn_then hA HTu.out hB
end Go.Proofs.YtcjnchjmpkapmaaGreat
/- Package reach: Between and Share. -/
namespace Go.Proofs.YtcjnchjmpkapmaaGreat
open Go.ChangeShapes Go.WideShapes Go.ChangeAt Go.RowKit
set_option linter.unusedVariables false
set_option maxRecDepth 100000

def betw (l : Int) (r : List Nd) (a b : Int) : Int × Int × Int := if b < a then (0, 0, 2) else (betwLow l r a b, betwHigh l r a b, 0)
def share (l : Int) (r : List Nd) (a b d : Int) : Int × Int × Int :=
  if sumR r = 0 then (0, 0, 7) else if d < 1 ∨ b < a then (0, 0, 2) else (((betwLow l r a b).toNat * d.toNat / (sumR r).toNat : Nat), (upV (betwHigh l r a b).toNat d.toNat (sumR r).toNat : Nat), 0)
def bothV (t : Int × Int × Int) : Value := .tuple #[.agg #[.int .i64 t.1, .int .i64 t.2.1], .int .i64 t.2.2]
end Go.Proofs.YtcjnchjmpkapmaaGreat
/- Package rank: tables. -/
namespace Go.Proofs.YtcjnchjmpkapmaaGreat
open Go.ChangeShapes Go.WideShapes Go.ChangeAt Go.RowKit
set_option linter.unusedVariables false
set_option maxRecDepth 100000

def upT (t : List Nd) (x : Int) : Int := if atMost t x = 0 then 0 else (t.getD (atMost t x - 1) (0, 0)).2
theorem Tab.upT {l t : List Nd} (h : Tab l t) (x : Int) : upT t x = wUp l x := by
  unfold Go.Proofs.YtcjnchjmpkapmaaGreat.upT
  by_cases h0 : atMost t x = 0
  · rw [if_pos h0, h.none h0]
  · have hi : atMost t x - 1 < t.length := by have := atMost_le t x; omega
    rw [if_neg h0, getD_at hi, h.some h0 hi]
theorem upTo_closure (W : World) (b2 b3 i n c2 blk off : Nat) (v2 : Value) (x y : Int) (hi : i < n) (hn : n ≤ 67108864) (h2 : W.cell? ⟨b2, 0, none⟩ = some (.slice (some ⟨blk, off, none⟩) n c2)) (h3 : W.cell? ⟨b3, 0, none⟩ = some (.int .i64 x)) (h4 : W.cell? ⟨blk, off + i, none⟩ = some (.int .i64 y)) :
    Calls Tryz.prog 194 (#[.int .i64 i] ++ #[.pointer (some ⟨b2, 0, none⟩), .pointer (some ⟨b3, 0, none⟩)]) W fun e w' => e = .returned (.bool (decide (x < y))) ∧ ∃ q os, w' = Go.Sort.grow (W.drewN q) os := by
  have hi1 : (i : Int) < (n : Int) := by omega
  go_enter Tryz.func194, Tryz.ntmps194
  go_wp2_with fail
  go_region
  all_goals go_wp2_with fail
  all_goals go_ret
  all_goals exact ⟨rfl, 1, #[], by rw [Go.Sort.grow_empty]; rfl⟩
theorem enters_upTo : ∀ args W, (callFunc 194 args).run Tryz.prog W = .ok (.enter 194 args) W := enters_of Tryz.func194 (by kernel_rfl) rfl
theorem rise_mono {t : List Nd} (hr : t.Pairwise fun a b => a.1 < b.1) (x : Int) (a b : Nat) (hab : a ≤ b) (hb : b < t.length) (h : decide (x < (t.getD a (0, 0)).1) = true) : decide (x < (t.getD b (0, 0)).1) = true := by
  rw [getD_at (by omega)] at h
  rw [getD_at hb]
  simp only [decide_eq_true_eq] at h ⊢
  rcases Nat.lt_or_ge a b with hlt | hge
  · have := List.pairwise_iff_getElem.1 hr a b (by omega) hb hlt; omega
  · obtain rfl : a = b := by omega
    exact h
theorem sums_upTo (w : World) (A1 A2 : Option Addr) (c1 c2 : Nat) (t : List Nd) (x : Int) (h1 : Sl w w.heap.size encZ A1 (t.map (·.1))) (h2 : Sl w w.heap.size encZ A2 (t.map (·.2))) (hm : t.length ≤ 67108864) (hr : t.Pairwise fun a b => a.1 < b.1) :
    Calls Tryz.prog 97 #[.agg #[.slice A1 t.length c1, .slice A2 t.length c2], .int .i64 x] w fun e w' => e = .returned (.int .i64 (upT t x)) ∧ Below w.heap.size w w' := by
  obtain ⟨W0, hW0⟩ : ∃ W0, W0 = (w.alloc (.cells #[.slice A1 t.length c1, .slice A2 t.length c2] 165)).alloc (.cells #[.int .i64 x] 3) := ⟨_, rfl⟩
  have hsz : W0.heap.size = w.heap.size + 1 + 1 := by rw [hW0]; simp
  have B0 : Below w.heap.size w W0 := by rw [hW0]; exact (by repeat (first | with_reducible exact Below.refl _ _ | with_reducible assumption | ((with_reducible refine Below.setCell ?_ ?_ _); rotate_left; · (first | omega | exact Nat.le_refl _ | (simp <;> omega))) | (with_reducible refine Below.allocW ?_ _) | (with_reducible refine Below.drew ?_) | (with_reducible refine Below.extW ?_ _)))
  have k0 : W0.cell? ⟨w.heap.size, 0, none⟩ = some (.slice A1 t.length c1) := by rw [hW0]; go_simp
  have k1 : W0.cell? ⟨w.heap.size, 1, none⟩ = some (.slice A2 t.length c2) := by rw [hW0]; go_simp
  have k2 : W0.cell? ⟨w.heap.size + 1, 0, none⟩ = some (.int .i64 x) := by rw [hW0]; go_simp
  have hS := Go.Proofs.Any.sort_Search Tryz.search 194 #[.pointer (some ⟨w.heap.size, 0, none⟩), .pointer (some ⟨w.heap.size + 1, 0, none⟩)] t.length (fun i => decide (x < (t.getD i (0, 0)).1)) W0 enters_upTo (by omega)
    (fun m os i hi => by
      rw [getD_at hi]
      rcases h1 with h1 | ⟨blk, off, rfl, hb, hc⟩
      · have : t.length = 0 := by have := congrArg List.length h1; simpa using this
        omega
      · have hc' := hc i t[i].1 (by simp [hi]) 0 (.int .i64 t[i].1) rfl
        simp only [Nat.add_zero, Nat.mul_one] at hc'
        refine upTo_closure _ w.heap.size (w.heap.size + 1) i t.length c1 blk off undef x t[i].1 hi hm (Go.cell_grown (by simp only [hsz]; omega) k0 m os) (Go.cell_grown (by simp only [hsz]; omega) k2 m os) (Go.cell_grown (by simp only [hsz]; omega) ((B0.cell (p := ⟨blk, off + i, none⟩) hb).trans hc') m os))
    (rise_mono hr x)
  have HS : Hid (Calls Tryz.prog 193 #[.int .i64 t.length, .func (.func 194) #[] #[.pointer (some ⟨w.heap.size, 0, none⟩), .pointer (some ⟨w.heap.size + 1, 0, none⟩)]] W0 fun e w' => e = .returned (.int .i64 (atMost t x)) ∧ ∃ q os, w' = Go.Sort.grow (W0.drewN q) os) := Lib.hid hS
  have hle := atMost_le t x
  have H2 := Lib.hid h2
  have HW := Lib.hid hW0
  have K1 := Lib.hid k1
  have HB0 := Lib.hid B0
  have HZ := Lib.hid hsz
  clear hS h1 h2 hr k0 k1 k2 B0 hsz hW0
  unfold upT
  generalize hk : atMost t x = k at HS hle ⊢
  clear hk
  by_cases hk0 : k = 0
  · subst hk0
    rw [if_pos rfl]
    go_enter Tryz.func97, Tryz.ntmps97
    go_wp2_with fail
    rw [← HW.out]
    refine HS.out.mono ?_
    rintro e w1 ⟨rfl, q, os, rfl⟩
    go_wp2_with fail
    go_ret
    exact ⟨rfl, HB0.out.trans (Go.Proofs.below_grown_sl w.heap.size W0 q os (by have := HZ.out; omega))⟩
  · rw [if_neg hk0]
    obtain ⟨m, rfl⟩ : ∃ m, k = m + 1 := ⟨k - 1, by omega⟩
    simp only [Nat.add_sub_cancel]
    have hm1 : m < t.length := by omega
    rw [getD_at hm1]
    have g0 : ((m + 1 : Nat) == 0) = false := by simp
    have g2 : (m : Int) < (t.length : Int) := by omega
    obtain ⟨blk, off, rfl, hb, hc⟩ := H2.out.at_ (k := m) (by simpa using hm1)
    have hc' := hc 0 (.int .i64 t[m].2) (by simp [encZ])
    simp only [Nat.add_zero, Nat.mul_one] at hc'
    generalize t[m].2 = z at hc' ⊢
    clear hc
    go_enter Tryz.func97, Tryz.ntmps97
    go_wp2_with fail
    rw [← HW.out]
    refine HS.out.mono ?_
    rintro e w1 ⟨rfl, q, os, hw1⟩
    have hB1 : Below w.heap.size w w1 := by rw [hw1]; exact HB0.out.trans (Go.Proofs.below_grown_sl w.heap.size W0 q os (by have := HZ.out; omega))
    have c1' : w1.cell? ⟨w.heap.size, 1, none⟩ = some (.slice (some ⟨blk, off, none⟩) t.length c2) := by rw [hw1]; exact Go.cell_grown (by have := HZ.out; simp only; omega) K1.out q os
    have c2' := (hB1.cell (p := ⟨blk, off + m, none⟩) hb).trans hc'
    clear hw1 hc'
    go_wp2_with fail
    go_ret
    exact ⟨rfl, hB1⟩
end Go.Proofs.YtcjnchjmpkapmaaGreat
