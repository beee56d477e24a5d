/-
  Texts of this proof, one behind the other: AgNew, MemIn, Parents, First, Press, BagLaw, Leaf, AddB, HeldLaw, DigOps, DigReset, OpenSide, SortK, TabLaw, Made, RegionN, Made2, Reach2, Table, Bag, BagPut, BagAdd, BagMake, Ref10, Ref10Put, Ref10Of, BagMade, RoomLaw.
-/
import Derived.OwnWalkIn
import Derived.Deep.LoopGhost
import Derived.Laws.BitsLemmas
import Derived.Deep.RegionWith
import Derived.Deep.DeepCutAuto
import Derived.Shelf.SlSortCmp.NoneTotal
import Derived.Deep.RegionHeld3
import Derived.Deep.RegionLaw
import Derived.Shelf.SlSorted.Search
import Derived.Shelf.Spec.SlicesInsert
import Derived.Test.YtcjnchjmpkapmaaR1
import Derived.Test.YtcjnchjmpkapmaaR2
import Derived.Test.YtcjnchjmpkapmaaR3
/- Package fold: New; Put of whatever number. -/
set_option linter.unusedSimpArgs false namespace Go.Proofs.Ytcjnchjmpkapmaa
open Go.ChangeShapes Go.WideShapes Go.ChangeAt Go.RowKit Go.Maps
set_option linter.unusedVariables false
set_option linter.unusedSimpArgs false
set_option maxRecDepth 100000

def AgPutPost (w : World) (a b : Nat) (L : List Int) (F : Nat → Prop) (e : Ending) (w' : World) : Prop := ∃ (t : Bool) (F' : Nat → Prop), e = .returned (.bool t) ∧ AgAt w' a b L F' ∧ Turn F w w' ∧ Grow w F F'
theorem ag_Put (w : World) (a b : Nat) (L : List Int) (F : Nat → Prop) (h : AgAt w a b L F) (id : Int) (h2 : id ≤ 9223372036854775807) (hL : ∀ x ∈ L, 1 ≤ x ∧ x ≤ 9223372036854775807) (hlen : L.length ≤ 1000000000000) :
    Calls Try.prog 79 #[.pointer (some ⟨a, 0, none⟩), .int .i64 id] w (AgPutPost w a b (putW L id) F) := by
  by_cases h1 : id < 1
  · have e : putW L id = L := by unfold putW; rw [if_pos (.inl h1)]
    rw [e]
    refine (ag_Put_no w a id h1).mono ?_
    rintro e w' ⟨rfl, hb⟩
    exact ⟨false, F, rfl, h.below hb, .of_below hb, Grow.refl⟩
  · by_cases hid : id ∈ L
    · have e : putW L id = L := by unfold putW; rw [if_pos (.inr hid)]
      rw [e]
      refine (ag_Put_in w a b L F h id hid (by omega) h2).mono ?_
      rintro e w' ⟨rfl, hb⟩
      exact ⟨false, F, rfl, h.below hb, .of_below hb, Grow.refl⟩
    · have e : putW L id = putH L id := by unfold putW; rw [if_neg (by rintro (h | h); exact h1 h; exact hid h)]
      rw [e]
      refine (ag_Put_new w a b L F h id hid (by omega) h2 hL hlen).mono ?_
      rintro e w' ⟨F', rfl, ha, ht, hg⟩
      exact ⟨true, F', rfl, ha, ht, hg⟩
def putAll (ids : List Int) : List Int := ids.foldl putW []
theorem putAll_snoc {ids : List Int} {q : Nat} (h : q < ids.length) : putAll (ids.take (q + 1)) = putW (putAll (ids.take q)) ids[q] := by
  unfold putAll
  rw [List.take_succ_eq_append_getElem h, List.foldl_append]; rfl
theorem foldW_len (ids : List Int) : ∀ L : List Int, (ids.foldl putW L).length ≤ L.length + ids.length := by
  induction ids with
  | nil => intro L; simp
  | cons x ids ih =>
    intro L
    have h1 := ih (putW L x)
    have h2 := putW_len L x
    simp only [List.foldl_cons, List.length_cons]
    omega
theorem putAll_len (ids : List Int) : (putAll ids).length ≤ ids.length := by
  have := foldW_len ids []
  simpa [putAll] using this
theorem foldW_mem (ids : List Int) : ∀ (L : List Int) (z : Int), z ∈ ids.foldl putW L ↔ z ∈ L ∨ (1 ≤ z ∧ z ∈ ids) := by
  induction ids with
  | nil => intro L z; simp
  | cons x ids ih =>
    intro L z
    rw [List.foldl_cons, ih, putW_mem, List.mem_cons]
    constructor
    · rintro ((h | ⟨h1, rfl⟩) | ⟨h1, h2⟩)
      · exact .inl h
      · exact .inr ⟨h1, .inl rfl⟩
      · exact .inr ⟨h1, .inr h2⟩
    · rintro (h | ⟨h1, h2 | h2⟩)
      · exact .inl (.inl h)
      · exact .inl (.inr ⟨h2 ▸ h1, h2⟩)
      · exact .inr ⟨h1, h2⟩
theorem putAll_mem (ids : List Int) (z : Int) : z ∈ putAll ids ↔ 1 ≤ z ∧ z ∈ ids := by
  unfold putAll; rw [foldW_mem]; simp
theorem foldW_wait (ids : List Int) : ∀ L : List Int, WaitL L → WaitL (ids.foldl putW L) := by
  induction ids with
  | nil => intro L h; exact h
  | cons x ids ih => intro L h; exact ih _ (h.put x)
theorem putAll_wait (ids : List Int) : WaitL (putAll ids) := foldW_wait ids [] .nil
theorem putAll_vals {ids : List Int} (h : ∀ x ∈ ids, x ≤ 9223372036854775807) : ∀ x ∈ putAll ids, 1 ≤ x ∧ x ≤ 9223372036854775807 := fun x hx => ⟨((putAll_mem ids x).1 hx).1, h x ((putAll_mem ids x).1 hx).2⟩
def AgNewPost (w : World) (L : List Int) (e : Ending) (w' : World) : Prop := ∃ (a b : Nat) (F : Nat → Prop), e = .returned (.pointer (some ⟨a, 0, none⟩)) ∧ AgAt w' a b L F ∧ (∀ x, F x → w.heap.size ≤ x) ∧ Below w.heap.size w w'
set_option maxHeartbeats 4000000 in
theorem fold_New (w : World) (A : Option Addr) (cap : Nat) (ids : List Int) (hS : Sl w w.heap.size encZ A ids) (hI : ∀ x ∈ ids, x ≤ 9223372036854775807) (hlen : ids.length ≤ 1000000000000) :
    Calls Try.prog 73 #[.slice A ids.length cap] w (AgNewPost w (putAll ids)) := by
  have hmm := @run_makeMap Try.prog
  have HS := Lib.hid hS
  have HI := Lib.hid hI
  clear hS hI
  go_enter Try.func73, Try.ntmps73
  have M0 := Lib.hid (World.ownsMap_made w Try.prog 3 (unitElem (H := Unit)))
  have al := fun (W : World) (o : Obj) => (Below.refl W.heap.size W).alloc (Nat.le_refl _) o
  have BW0 : Hid (Below w.heap.size w ((w.alloc (.map #[] 0)).alloc (.cells #[.slice none 0 0, .map (some w.heap.size)] 122))) := Lib.hid (by repeat (first | with_reducible exact Below.refl _ _ | with_reducible assumption | ((with_reducible refine Below.setCell ?_ ?_ _); rotate_left; · (first | omega | exact Nat.le_refl _ | (simp <;> omega))) | (with_reducible refine Below.allocW ?_ _) | (with_reducible refine Below.drew ?_) | (with_reducible refine Below.extW ?_ _)))
  have A0 : Hid (∃ F, AgAt ((w.alloc (.map #[] 0)).alloc (.cells #[.slice none 0 0, .map (some w.heap.size)] 122)) (w.heap.size + 1) w.heap.size [] F ∧ ∀ x, F x → w.heap.size ≤ x) := Lib.hid ⟨_, ⟨.map [], ⟨.slice none 0 0, heap_new_at (w.alloc (.map #[] 0)) _ _ (by simp), .nil _ _ _ _, ownsMap_keep M0.out ((al (w.alloc (.map #[] 0)) _).block _ (by simp)), rfl⟩, ⟨fun z => by simp [Go.Maps.has], rfl⟩⟩, fun x hx => by
    rcases hx with rfl | hx | rfl
    · omega
    · cases hx
    · exact Nat.le_refl _⟩
  go_upto_region 2 with fail
  generalize (w.alloc (.map #[] 0)).alloc (.cells #[.slice none 0 0, .map (some w.heap.size)] 122) = W0 at BW0 A0 ⊢
  obtain ⟨F0, hA0, hF0⟩ := A0.out
  have HA0 := Lib.hid hA0
  have HF0 := Lib.hid hF0
  obtain ⟨ga, hga⟩ : ∃ ga, ga = w.heap.size + 1 := ⟨_, rfl⟩
  obtain ⟨gm, hgm⟩ : ∃ gm, gm = w.heap.size := ⟨_, rfl⟩
  rw [← hga, ← hgm] at HA0
  rw [← hga]
  clear A0 hA0 hF0 M0 al hga hgm
  go_wp2_with fail
  go_loopw [11] (fun j wr => ∃ (q : Nat) (F : Nat → Prop), q ≤ ids.length ∧ j = .int .i64 q ∧ AgAt wr ga gm (putAll (ids.take q)) F ∧ (∀ x, F x → w.heap.size ≤ x) ∧ Below w.heap.size w wr) (fun j _ => ids.length - (intOf j).toNat)
  case atStart => exact ⟨0, F0, Nat.zero_le _, rfl, HA0.out, HF0.out, BW0.out⟩
  case round =>
    obtain ⟨q, F, hq, rfl, hA, hF, hB⟩ := hrel
    have HA := Lib.hid hA
    have HF := Lib.hid hF
    have HB := Lib.hid hB
    clear hA hF HA0
    by_cases hlt : q < ids.length
    · have hqi : (q : Int) < (ids.length : Int) := by omega
      obtain ⟨b, off, rfl, hb, hc⟩ := HS.out.at_ hlt
      have d0 := (hB.cell (p := ⟨b, off + q, none⟩) hb).trans (by have := hc 0 (.int .i64 ids[q]) rfl; simpa using this)
      have lb : b < wr.heap.size := Nat.lt_of_lt_of_le hb hB.size
      have hx2 := HI.out _ (List.getElem_mem hlt)
      have HSn := Lib.hid (putAll_snoc hlt)
      have hle := putAll_len (ids.take q)
      rw [List.length_take] at hle
      have HPut := Lib.hid (fun W h => ag_Put W ga gm (putAll (ids.take q)) F h ids[q] hx2 (putAll_vals fun x hx => HI.out x (List.mem_of_mem_take hx)) (by omega))
      obtain ⟨x, hx⟩ : ∃ x, x = ids[q] := ⟨_, rfl⟩
      rw [← hx] at d0 HPut HSn
      clear hc hx hx2 hle hB
      go_wp2_with fail
      refine (HPut.out _ HA.out).mono ?_
      rintro e w3 ⟨t, F', rfl, hA3, hT3, hG3⟩
      have N3 : Hid (AgAt w3 ga gm (putW (putAll (ids.take q)) x) F' ∧ (∀ x, F' x → w.heap.size ≤ x) ∧ Below w.heap.size w w3) := Lib.hid ⟨hA3, fun y hy => by
        rcases hG3 y hy with h | h
        · exact HF.out y h
        · exact Nat.le_trans HB.out.size h, HB.out.trans (hT3.below HF.out HB.out.size)⟩
      clear hA3 hT3 hG3
      go_wp2_with fail
      go_roundw
      case rel => exact ⟨q + 1, F', by omega, by go_num, by rw [HSn.out]; exact N3.out.1, N3.out.2.1, N3.out.2.2⟩
      case measure => simp [intOf]; omega
    · obtain rfl : q = ids.length := by omega
      have hqi : decide ((ids.length : Int) < (ids.length : Int)) = false := by simp
      rw [List.take_length] at HA
      go_wp2_with fail
      go_ret
      exact ⟨ga, gm, F, rfl, HA.out, HF.out, HB.out⟩
end Go.Proofs.Ytcjnchjmpkapmaa
/- Appends inside a fence; what a round keeps. -/
namespace Go.Proofs.Ytcjnchjmpkapmaa
open Go.ChangeShapes Go.WideShapes Go.ChangeAt Go.RowKit
set_option linter.unusedVariables false

section
variable {α : Type} {P : Program} {t e : TypeId} {size bytes : Nat} {z : Value} {F : Fence} {n : Nat}
theorem wpListIn_app {w : World} {ops : Array Oper} {rest : List Oper} {o : Oper} {a : Act} {Q : Exit → Act → World → Prop} (T : SliceTy P t e size bytes z) (hgd : o.guard = none) (s x : Operand)
    (ho : o.op = .call { callee := .builtin .append, args := #[s, x], argTypes := #[t, t] }) (E : Enc α size) (base : Nat) (v : Value) (l : List α) (hs : a.eval s = v) (hown : Own w base e E v l)
    (A : Option Addr) (c : Nat) (l2 : List α) (B : Nat) (hx : a.eval x = .slice A l2.length c) (hsrc : Sl w B E A l2) (hn : (l.length + l2.length) * bytes ≤ 140737488355328) (hm : l.length + l2.length ≤ maxLen) (hbase : base ≤ w.heap.size)
    (h : ∀ v' w', Own w' base e E v' (l ++ l2) → w.grownBy w' v.ownBlock → (v'.ownBlock = v.ownBlock ∨ v'.ownBlock = some w.heap.size) → Below base w w' → (l2 ≠ [] → v' ≠ .slice none 0 0) →
      wpListIn F n P ops Q rest (a.put o.dst v') w') : wpListIn F n P ops Q (o :: rest) a w := by
  refine wpListIn_plain hgd fun K hK => ?_
  obtain ⟨v', w', hr, h2, h3, h4, h5⟩ := app_run T o.type w base v l hown A c l2 B hsrc hn hm hbase
  unfold Oper.wpIn
  refine ⟨?_, ?_⟩
  · simp [Oper.about, ho, resolve, Target.leads, Sem.run_pure]
  · rw [Oper.semAt_plain F _ _ (by rw [ho]; intro c hc'; cases hc')]
    simp only [execOp, ho, resolve, invoke, builtin, Sem.run_bind, Sem.run_pure, Result.andThen_ok, List.map_toArray, List.map_cons, List.map_nil, hs, hx, hr]
    exact hK _ _ (h v' w' h2 h3 h4 ((Below.refl base w).grown h3 hbase fun k hk => (hown.lt k hk).1) h5)
theorem wpListIn_push {w : World} {ops : Array Oper} {rest : List Oper} {o : Oper} {a : Act} {Q : Exit → Act → World → Prop} (T : SliceTy P t e size bytes z) (hgd : o.guard = none) (s x : Operand)
    (ho : o.op = .call { callee := .builtin .append, args := #[s, x], argTypes := #[t, t] }) (E : Enc α size) (W : World) (base : Nat) (v : Value) (l : List α) (hs : a.eval s = v) (hown : Own W base e E v l)
    (x0 : α) (hx : a.eval x = .slice (some ⟨W.heap.size, 0, none⟩) 1 1) (hw : w = W.alloc (.cells (E.enc x0).toArray e)) (hn : (l.length + 1) * bytes ≤ 140737488355328) (hm : l.length + 1 ≤ maxLen) (hbase : base ≤ W.heap.size)
    (h : ∀ v' w', Own w' base e E v' (l ++ [x0]) → W.grownBy w' v.ownBlock → W.heap.size < w'.heap.size → (v'.ownBlock = v.ownBlock ∨ v'.ownBlock = some (W.heap.size + 1)) → Below base W w' → v' ≠ .slice none 0 0 →
      wpListIn F n P ops Q rest (a.put o.dst v') w') : wpListIn F n P ops Q (o :: rest) a w := by
  subst hw
  have hsl := sl_lit W E [x0] e _ rfl
  simp only [List.flatMap_cons, List.flatMap_nil, List.append_nil] at hsl
  refine wpListIn_app T hgd s x ho E base v l hs (hown.alloc _) (some ⟨W.heap.size, 0, none⟩) 1 [x0] _ (by simpa using hx) hsl (by simpa using hn) (by simpa using hm) (by simp; omega) fun v' w' h2 h3 h4 h5 h6 => ?_
  have hs := h3.size
  simp at hs
  refine h v' w' h2 ⟨h3.os, h3.tape, h3.output, by omega, fun i hi hne => (h3.block i (by simp; omega) hne).trans (Below.heap_alloc W _ i hi)⟩ (by omega) ?_ ?_ (h6 (by simp))
  · rcases h4 with h4 | h4
    · exact .inl h4
    · right; rw [h4]; simp
  · exact ((Below.refl base W).alloc hbase _).trans h5
end

def KeepX (z : Nat) (X : Nat → Prop) (A B : World) : Prop := A.heap.size ≤ B.heap.size ∧ ∀ (b : Nat) (cs : Array Value) (t : TypeId) (fr : Nat × Nat), b < z → ¬ X b → A.heap[b]? = some (.cells cs t fr) → B.heap[b]? = some (.cells cs t fr)
section
variable {z : Nat} {X : Nat → Prop} {A B C : World}
theorem row_grown {row : Option Nat} {b : Nat} {cs : Array Value} {t : TypeId} {fr : Nat × Nat} (h : A.heap[b]? = some (.cells cs t fr)) (hg : A.grownBy B row) (hr : ∀ r, row = some r → ∃ o : Obj, A.heap[r]? = some o ∧ o.isCells = false) : B.heap[b]? = some (.cells cs t fr) :=
  (grownBy_keeps_cells hg hr h rfl).trans h
theorem own_grown {α : Type} {size base e : Nat} {E : Enc α size} {v : Value} {l : List α} {row : Option Nat} (h : Own A base e E v l) (hg : A.grownBy B row) (hr : ∀ r, row = some r → ∃ o : Obj, A.heap[r]? = some o ∧ o.isCells = false) : Own B base e E v l :=
  h.of_block fun g hv => by
    rcases h with ⟨rfl, _⟩ | ⟨g1, o1, c1, u1, rfl, _, hh1, _⟩
    · cases hv
    · have : g1 = g := by simpa [Value.ownBlock] using hv
      subst this
      exact grownBy_keeps_cells hg hr hh1 rfl
end
def SlX (w : World) (z : Nat) (X : Nat → Prop) (A : Option Addr) (es : List Int) : Prop := es = [] ∨ ∃ b off, A = some ⟨b, off, none⟩ ∧ b < z ∧ ¬ X b ∧ ∀ i x, es[i]? = some x → w.cell? ⟨b, off + i, none⟩ = some (.int .i64 x)
end Go.Proofs.Ytcjnchjmpkapmaa
/- Package fold: Parents: the parents of all nodes, in the order of folding. -/
namespace Go.Proofs.Ytcjnchjmpkapmaa
open Go.ChangeShapes Go.WideShapes Go.ChangeAt Go.RowKit
set_option linter.unusedVariables false
set_option linter.unusedSimpArgs false
set_option maxRecDepth 100000
attribute [local go_sem] Oper.semAt_some

theorem AgAt.mapb {w : World} {a b : Nat} {L : List Int} {F : Nat → Prop} (h : AgAt w a b L F) : (∃ es clock, w.heap[b]? = some (.map es clock)) ∧ F b ∧ b < w.heap.size := by
  obtain ⟨D, ⟨v, h1, h2, h3, rfl⟩, _⟩ := h
  have hl := h3.lt
  obtain ⟨es, clock, hb, _⟩ := h3
  exact ⟨⟨es, clock, hb⟩, .inr (.inr rfl), hl⟩
theorem AgAt.ty {w : World} {a b : Nat} {L : List Int} {F : Nat → Prop} (h : AgAt w a b L F) {x : Nat} (hx : F x) : x = b ∨ TypeAt w x 122 ∨ TypeAt w x 3 := by
  obtain ⟨D, ⟨v, h1, h2, h3, rfl⟩, _⟩ := h
  rcases hx with rfl | hx | rfl
  · exact .inr (.inl (.of h1))
  · rcases h2 with ⟨rfl, _⟩ | ⟨g1, o1, c1, u1, rfl, _, hh1, _⟩
    · cases hx
    · cases hx; exact .inr (.inr (.of hh1))
  · exact .inl rfl
theorem AgAt.not_type {w : World} {a b : Nat} {L : List Int} {F : Nat → Prop} (h : AgAt w a b L F) {x t : Nat} {cs : Array Value} {fr : Nat × Nat} (hx : w.heap[x]? = some (.cells cs t fr)) (h1 : t ≠ 122) (h2 : t ≠ 3) : ¬ F x := fun hf => by
  rcases h.ty hf with rfl | ht | ht
  · obtain ⟨⟨es, clock, hm⟩, _⟩ := h.mapb
    rw [hx] at hm; cases hm
  · exact h1 (typeAt_eq (.of hx) ht)
  · exact h2 (typeAt_eq (.of hx) ht)
theorem AgAt.not_cells {w : World} {a b : Nat} {L : List Int} {F : Nat → Prop} (h : AgAt w a b L F) {x : Nat} {o : Obj} (hx : w.heap[x]? = some o) (ho : o.isCells = false) (hb : x ≠ b) : ¬ F x := fun hf => by
  rcases h.ty hf with e | ⟨cs, fr, ht⟩ | ⟨cs, fr, ht⟩
  · exact hb e
  · rw [hx] at ht; cases ht; cases ho
  · rw [hx] at ht; cases ht; cases ho
theorem AgAt.grown {w w' : World} {a b : Nat} {L : List Int} {F : Nat → Prop} (h : AgAt w a b L F) {row : Option Nat} (hg : w.grownBy w' row) (hr : ∀ r, row = some r → r ≠ b ∧ ∃ o : Obj, w.heap[r]? = some o ∧ o.isCells = false) : AgAt w' a b L F :=
  h.keep fun x hx => hg.block x (h.lt x hx) fun e => by
    obtain ⟨hb, o, ho, hc⟩ := hr x e.symm
    exact h.not_cells ho hc hb hx
theorem AgAt.turnN {w w' : World} {a b : Nat} {L : List Int} {F : Nat → Prop} (h : AgAt w a b L F) (ht : Turn F w w') : KeepN w w' :=
  ⟨ht.size, fun x cs fr hx => ht.keep hx (h.not_type hx (by decide) (by decide))⟩
theorem AgAt.turnFrom {w w' : World} {a b B : Nat} {L : List Int} {F : Nat → Prop} (h : AgAt w a b L F) (ht : Turn F w w') (hb : b < B) : KeepsFrom B w w' :=
  ⟨ht.size, fun x o hB hx ho => ht.keep hx (h.not_cells hx ho (by omega))⟩
theorem attach_take (r : List Nd) : r.attach.take r.length = r.attach := by have := List.take_length (l := r.attach); rwa [List.length_attach] at this
set_option maxRecDepth 100000 in
set_option maxHeartbeats 2000000 in
theorem each_in (n Bs g K l : Nat) (r : List Nd) (F0 : Nat → Prop) (w : World) (hn : 1 ≤ n) (hBs : w.heap[Bs]? = some (.cells #[.pointer (some ⟨g, 0, none⟩)] 61 (0, 0))) (hP : PoolAt w g K l r F0) (hr : r.length ≤ 67108864) :
    SeqStopsK Fence.wide n Try.prog 59 #[.pointer (some ⟨Bs, 0, none⟩)] (fun x : {x : Nd // x ∈ r} => #[Value.int .i64 x.1.1, Value.int .i64 x.1.2]) KeepN (fun ys => ys = r.attach) (fun pre => pre <+: r.attach) r.length w := fun q J Jx W hW hJ hJx hY h0 => by
  have kb := blk_below hBs hW
  have HP := Lib.hid (hP.below hW)
  have cb := blk_cell kb
  have HY := Lib.hid hY
  have HJ := Lib.hid hJ
  clear kb hBs hP hY hJ
  refine callsIn_of_wp Try.func59 rfl trivial ?_ rfl
  simp only [Try.ntmps59, List.size_toArray, List.length_cons, List.length_nil, Nat.reduceAdd, Nat.reduceSub, Array.replicate_succ, Array.replicate_zero, List.push_toArray, List.append_toArray, List.nil_append, List.cons_append]
  gi_wp2_with fail
  refine ⟨trivial, ?_⟩
  refine (callsIn_wide.2 (pool_Snap _ g K l r F0 HP.out hr)).mono ?_
  rintro e w1 ⟨v, rfl, ho, hb⟩
  have HO := Lib.hid ho
  have J0 : Hid (J [] w1) := Lib.hid (HJ.out _ _ _ none h0 (grownBy_of_below hb none) (fun _ h => by cases h))
  have hs := hb.size
  obtain ⟨A, cap, rfl, _⟩ := ho.form
  clear ho hb h0
  gi_wp2_with fail
  gi_loopw [8] (fun i wr => ∃ k : Nat, k ≤ r.length ∧ i = .int .i64 k ∧ Own wr W.heap.size 45 encN (.slice A r.length cap) r ∧ J (r.attach.take k) wr ∧ W.heap.size ≤ wr.heap.size) (fun i _ => r.length - (intOf i).toNat)
  case atStart => exact ⟨0, Nat.zero_le _, rfl, HO.out, J0.out, hs⟩
  case round =>
    obtain ⟨k, hk, rfl, hown, hJk, hsz⟩ := hrel
    have KO := Lib.hid hown
    have KJ := Lib.hid hJk
    clear hown hJk
    by_cases hlt : k < r.length
    · obtain ⟨b, off, rfl, hT, hc⟩ := KO.out.slT.at_ hlt
      have d0 := hc 0 (.int .i64 r[k].1) rfl
      have d1 := hc 1 (.int .i64 r[k].2) rfl
      simp only [Nat.add_zero] at d0
      have hlt' : k < r.attach.length := by rw [List.length_attach]; exact hlt
      have hts := List.take_succ_eq_append_getElem hlt'
      obtain ⟨x, hx⟩ : ∃ x, x = r[k] := ⟨_, rfl⟩
      obtain ⟨y, hy0⟩ : ∃ y, y = r.attach[k] := ⟨_, rfl⟩
      have hyx : y.1 = x := by rw [hy0, hx, List.getElem_attach]
      rw [← hx] at d0 d1
      rw [← hy0] at hts
      have HS := Lib.hid hts
      have hA : Below wr.heap.size wr (wr.alloc (.cells #[.int .i64 x.1, .int .i64 x.2] 45)) := (Below.refl _ _).alloc (Nat.le_refl _) _
      have hJ2 := HJ.out _ _ _ none KJ.out (grownBy_of_below hA none) (fun _ h => by cases h)
      obtain ⟨fn, tmps, assign, body, hy, hR⟩ := HY.out (r.attach.take k) y _ hJ2 (by rw [List.length_take]; omega)
      have KA := Lib.hid (KO.out.below hA)
      rw [hyx] at hy
      clear hc hts hx hJ2 hA hT hy0 hlt' hyx
      gi_wp2_with fail
      refine hR.mono ?_
      rintro e w3 (⟨rfl, hJ3, hk3⟩ | ⟨rfl, hJx3⟩)
      · have K3 := Lib.hid (hk3.own KA.out)
        have z3 := hk3.1
        rw [← HS.out] at hJ3
        have J3 := Lib.hid hJ3
        clear hJ3 hk3
        gi_wp2_with fail
        go_roundw
        case rel => exact ⟨k + 1, by omega, by go_num, K3.out, J3.out, by simp at z3; omega⟩
        case measure => simp [intOf]; omega
      · rw [← HS.out] at hJx3
        have J3 := Lib.hid hJx3
        clear hJx3
        gi_wp2_with fail
        refine bodyPost_ret (results_none rfl _ _ _) rfl ?_
        exact ⟨⟨_, rfl⟩, .inr ⟨_, List.take_prefix _ _, J3.out⟩⟩
    · obtain rfl : k = r.length := by omega
      rw [attach_take] at KJ
      gi_wp2_with fail
      go_end0
      exact ⟨⟨_, rfl⟩, .inl ⟨_, rfl, KJ.out⟩⟩
def sliceLen : Value → Nat
  | .slice _ n _ => n
  | _ => 0
theorem Drain.len {P O L : List Int} {x : Int} (h : O.length + (x :: L).length = P.length) : (O ++ [x]).length + (popH (x :: L)).length = P.length := by
  rw [(popH_perm x L).length_eq]
  simp only [List.length_append, List.length_cons, List.length_nil] at h ⊢
  omega
def halves (r : List Nd) : List Int := r.map fun x => x.1 / 2
theorem halves_snoc (r : List Nd) (x : Nd) : putAll (halves (r ++ [x])) = putW (putAll (halves r)) (x.1 / 2) := by
  unfold halves putAll
  rw [List.map_append, List.foldl_append]; rfl
structure Drain (P : List Int) (O L : List Int) : Prop where
  wait : WaitL L
  up : O.Pairwise leA
  ahead : ∀ o ∈ O, ∀ y ∈ L, leA o y
  mem : ∀ z, z ∈ P ↔ z ∈ O ∨ z ∈ L
theorem Drain.start {P : List Int} (h : WaitL P) : Drain P [] P := ⟨h, .nil, by simp, by simp⟩
theorem Drain.step {P O L : List Int} {x : Int} (h : Drain P O (x :: L)) : Drain P (O ++ [x]) (popH (x :: L)) := by
  have hp := popH_perm x L
  refine ⟨h.wait.pop, ?_, ?_, fun z => ?_⟩
  · rw [List.pairwise_append]
    exact ⟨h.up, List.pairwise_singleton _ _, fun o ho y hy => by rw [List.mem_singleton.1 hy]; exact h.ahead o ho x (by simp)⟩
  · intro o ho y hy
    have hy := hp.mem_iff.1 hy
    rcases List.mem_append.1 ho with ho | ho
    · exact h.ahead o ho y (List.mem_cons_of_mem _ hy)
    · rw [List.mem_singleton.1 ho]; exact heap_head h.wait.heap y (List.mem_cons_of_mem _ hy)
  · rw [h.mem, List.mem_append, List.mem_singleton, List.mem_cons, hp.mem_iff]
    constructor
    · rintro (h | h | h)
      · exact .inl (.inl h)
      · exact .inl (.inr h)
      · exact .inr h
    · rintro ((h | h) | h)
      · exact .inl h
      · exact .inr (.inl h)
      · exact .inr (.inr h)
structure ParI (w : World) (ga gm pc : Nat) (pre : List Nd) (W : World) : Prop where
  p : W.heap[pc]? = some (.cells #[.pointer (some ⟨ga, 0, none⟩)] 110 (0, 0))
  a : ∃ F, AgAt W ga gm (putAll (halves pre)) F ∧ ∀ x, F x → w.heap.size ≤ x
set_option maxHeartbeats 4000000 in
theorem fold_Parents (w : World) (g K l : Nat) (r : List Nd) (F : Nat → Prop) (hP : PoolAt w g K l r F) (hr : r.length ≤ 67108864) :
    Calls Try.prog 74 #[.pointer (some ⟨g, 0, none⟩)] w fun e w' => ∃ (v : Value) (O : List Int), e = .returned v ∧ Own w' w.heap.size 3 encZ v O ∧ Drain (putAll (halves r)) O [] ∧ O.length ≤ 67108864 ∧ Below w.heap.size w w' := by
  have hroll := hP.fits.roll
  have hP2 : ∀ x ∈ r, 1 ≤ x.1 ∧ x.1 ≤ 1000000000000000 := fun x hx => by
    have h1 := isNode_lt (hP.fits.nodes hP.l_le x hx)
    have h2 := pow_48 hP.l_le.2
    omega
  have hPv : ∀ (pre : List {x : Nd // x ∈ r}) (y : Int), y ∈ halves (pre.map (·.1)) → y ≤ 9223372036854775807 := fun pre y hy => by
    unfold halves at hy
    obtain ⟨z, hz, rfl⟩ := List.mem_map.1 hy
    obtain ⟨u, hu, rfl⟩ := List.mem_map.1 hz
    have := hP2 u.1 u.2
    omega
  have HP := Lib.hid hP
  clear hP
  refine (callsIn_wide (n := 3)).1 ?_
  refine callsIn_of_wp_marks Try.func74 rfl trivial ?_ rfl
  simp only [Try.ntmps74, List.size_toArray, List.length_cons, List.length_nil, Nat.reduceAdd, Nat.reduceSub, Array.replicate_succ, Array.replicate_zero, List.push_toArray, List.append_toArray, List.nil_append, List.cons_append]
  gi_wp2_with fail
  refine ⟨trivial, ?_⟩
  refine (callsIn_wide.2 (fold_New _ none 0 [] .nil (by simp) (by simp))).mono ?_
  rintro e w1 ⟨ga, gm, FA, rfl, hA, hFA, hb1⟩
  have A1 := Lib.hid hA
  have F1 := Lib.hid hFA
  have B1 := Lib.hid hb1
  clear hA hFA hb1
  gi_wp2_with fail
  refine ⟨trivial, ?_⟩
  refine (callsIn_wide.2 (pool_Each _ g)).mono ?_
  rintro e w4 ⟨rfl, rfl⟩
  gi_wp2_with fail
  have al := fun (W : World) (o : Obj) => (Below.refl W.heap.size W).alloc (Nat.le_refl _) o
  have hb0 := (al w1 (.cells #[.pointer (some ⟨ga, 0, none⟩)] 110)).trans ((al (w1.alloc (.cells #[.pointer (some ⟨ga, 0, none⟩)] 110)) (.cells #[.pointer (some ⟨g, 0, none⟩)] 61)).mono (by simp))
  have BW0 := Lib.hid (Below.then_ B1.out hb0)
  have kp := (heap_new_lt (w1.alloc (.cells #[.pointer (some ⟨ga, 0, none⟩)] 110)) (.cells #[.pointer (some ⟨g, 0, none⟩)] 61) w1.heap.size (by simp)).trans (heap_alloc_new w1 (.cells #[.pointer (some ⟨ga, 0, none⟩)] 110))
  have kb := heap_new_at (w1.alloc (.cells #[.pointer (some ⟨ga, 0, none⟩)] 110)) (.cells #[.pointer (some ⟨g, 0, none⟩)] 61) (w1.heap.size + 1) (by simp)
  have A0 := Lib.hid (A1.out.below hb0)
  have hgm := A1.out.mapb.2.2
  have hgm0 := F1.out gm A1.out.mapb.2.1
  generalize (w1.alloc (.cells #[.pointer (some ⟨ga, 0, none⟩)] 110)).alloc (.cells #[.pointer (some ⟨g, 0, none⟩)] 61) = W0 at hb0 BW0 kp kb A0 ⊢
  have zs0 := hb0.size
  have zs1 := B1.out.size
  have zsW := BW0.out.size
  have hpw : w.heap.size ≤ w1.heap.size := zs1
  have KP0 := Lib.hid kp
  clear al hb0
  refine wpIn_rangeFunc_ownG rfl (by decide) (gf := 59) (lb := #[.pointer (some ⟨w1.heap.size + 1, 0, none⟩)]) rfl trivial (enters_of Try.func59 (by kernel_rfl) rfl)
    (each_in (3 - 1) (w1.heap.size + 1) g K l r F W0 (by decide) kb (HP.out.below BW0.out) hr) keepN_t (fun W q o o' _ h hc _ => keepN_b W q o o' h hc) (Below.refl _ _) (fun _ => rfl)
    (fun pre W => ParI w ga gm w1.heap.size (pre.map (·.1)) W ∧ Below w.heap.size w W)
    (fun _ _ _ => False)
    (OwnFrom.and (fun s A B row hs hg hr => ⟨row_grown hs.p hg (fun q e => (hr q e).2), by
      obtain ⟨F', h1, h2⟩ := hs.a
      exact ⟨F', h1.grown hg (fun q e => ⟨by have := (hr q e).1; omega, (hr q e).2⟩), h2⟩⟩) (ownFrom_below (Nat.le_refl _) zsW))
    (fun c => fun _ _ _ _ hs _ _ => hs)
    ⟨⟨KP0.out, _, A0.out, F1.out⟩, BW0.out⟩
    (fun x => { tmps := #[.pointer (some ⟨g, 0, none⟩), undef, .slice none 0 0, .pointer (some ⟨w1.heap.size, 0, none⟩), .int .i64 x.1.1, undef, undef, undef, .pointer (some ⟨ga, 0, none⟩), .pointer (some ⟨g, 0, none⟩), .func (.func 59) #[] #[.pointer (some ⟨w1.heap.size + 1, 0, none⟩)], .int .i64 x.1.1, .int .i64 x.1.2, undef, undef, undef, undef, undef, undef, undef, undef, undef, undef, undef, undef, undef, undef, undef, undef, undef], defers := [] }) ?assign ?body ?done ?stop
  case assign =>
    intro q x W Kc hK
    gi_wp2
    exact hK
  case body =>
    rintro q pre x W ⟨⟨hp, F', hA, hF⟩, hB⟩ hlen
    have HA := Lib.hid hA
    have HF := Lib.hid hF
    have HB := Lib.hid hB
    have HPc := Lib.hid hp
    have cp := blk_cell hp
    have zp := lt_of_block hp
    have hx := hP2 x.1 x.2
    have hlen2 : (putAll (halves (pre.map (·.1)))).length ≤ r.length := by
      have h1 := putAll_len (halves (pre.map (·.1)))
      have h2 : (halves (pre.map (·.1))).length = pre.length := by simp [halves]
      omega
    have hsn := halves_snoc (pre.map (·.1)) x.1
    have HSn := Lib.hid hsn
    have HPut := Lib.hid (fun W h => ag_Put W ga gm (putAll (halves (pre.map (·.1)))) F' h (x.1.1 / 2) (by omega) (putAll_vals fun y hy => hPv pre y hy) (by omega))
    obtain ⟨⟨x1, x2⟩, hxm⟩ := x
    simp only at hx HPut HSn
    clear hA hF hB hp hlen2 hsn
    gi_wp2_with fail
    refine ⟨trivial, ?_⟩
    refine (CallsIn.inRound q (callsIn_wide.2 (HPut.out _ HA.out))).mono ?_
    rintro e w5 ⟨t, F5, rfl, hA5, hT5, hG5⟩
    have KW : Hid (KeepsFrom W0.heap.size W w5) := Lib.hid (HA.out.turnFrom hT5 (by omega))
    have KN := Lib.hid (HA.out.turnN hT5)
    have KP5 := Lib.hid (hT5.keep HPc.out (HA.out.not_type HPc.out (by decide) (by decide)))
    have BB5 := Lib.hid (HB.out.trans (hT5.below HF.out HB.out.size))
    have KA5 := Lib.hid hA5
    have KF5 : Hid (∀ y, F5 y → w.heap.size ≤ y) := Lib.hid fun y hy => by
      rcases hG5 y hy with h | h
      · exact HF.out y h
      · exact Nat.le_trans HB.out.size h
    clear hA5 hT5 hG5 cp
    gi_wp2_with fail
    exact ⟨KW.out, KN.out, ⟨KP5.out, F5, by rw [List.map_append]; exact HSn.out ▸ KA5.out, KF5.out⟩, BB5.out⟩
  case done =>
    rintro D ys W hD hys ⟨⟨hp, F', hA, hF⟩, hB⟩ hK
    have hys' : ys = r.attach := hys
    rw [hys', List.attach_map_subtype_val] at hA
    clear hys hys'
    have HA := Lib.hid hA
    have HF := Lib.hid hF
    have HB := Lib.hid hB
    have HPc := Lib.hid hp
    have cp := blk_cell hp
    have zp := lt_of_block hp
    have HK := Lib.hid hK
    have zD : D < W.heap.size := lt_of_block hK
    have hDm : D ≠ gm := by omega
    have hFW := hA.lt
    have HFW := Lib.hid hFW
    have hDF : ¬ F' D := hA.not_cells hK rfl hDm
    have HDF := Lib.hid hDF
    have hpF : ¬ F' w1.heap.size := hA.not_type hp (by decide) (by decide)
    have HPF := Lib.hid hpF
    have hwW := hB.size
    have hPl := putAll_len (halves r)
    have hPl2 : (halves r).length = r.length := by simp [halves]
    have hPV : ∀ y ∈ putAll (halves r), 1 ≤ y ∧ y ≤ 9223372036854775807 := putAll_vals fun y hy => hPv r.attach y (by rw [List.attach_map_subtype_val]; exact hy)
    have HPV := Lib.hid hPV
    have hdr := Drain.start (putAll_wait (halves r))
    have HDr := Lib.hid hdr
    obtain ⟨P, hPe⟩ : ∃ P, P = putAll (halves r) := ⟨_, rfl⟩
    have HPe := Lib.hid hPe
    rw [← hPe] at HA HPV HDr hPl
    have hPl3 : P.length ≤ 67108864 := by omega
    clear hA hF hB hp hK hFW hDF hpF hPV hdr hPe hPl hPl2
    gi_wp2_with fail
    gi_loopw [5, 6, 7] (fun v _ _ wr => ∃ (O L : List Int), Own wr W.heap.size 3 encZ v O ∧ Drain P O L ∧ O.length + L.length = P.length ∧ AgAt wr ga gm L F' ∧ wr.heap[w1.heap.size]? = some (.cells #[.pointer (some ⟨ga, 0, none⟩)] 110 (0, 0)) ∧ wr.heap[D]? = some (.deferred (some [])) ∧ W.heap.size ≤ wr.heap.size ∧ Below w.heap.size w wr) (fun v _ _ _ => P.length - sliceLen v)
    case atStart => exact ⟨[], P, .nil _ _ _ _, HDr.out, by simp, HA.out, HPc.out, HK.out, Nat.le_refl _, HB.out⟩
    case round =>
      obtain ⟨O, L, hO, hDr, hln, hA, hpc, hK, hsz, hB⟩ := hrel
      have KO := Lib.hid hO
      have KD := Lib.hid hDr
      have KA := Lib.hid hA
      have KP := Lib.hid hpc
      have KK := Lib.hid hK
      have KB := Lib.hid hB
      have cp := blk_cell hpc
      have zp := lt_of_block hpc
      obtain ⟨Ao, co, rfl, _⟩ := hO.form
      obtain ⟨Dm, hAS, _⟩ := hA
      have HLn := Lib.hid (ag_Len _ ga gm _ L Dm F' hAS)
      clear hO hDr hpc hK hAS HA HPc HK HB HDr
      gi_wp2_with fail
      refine ⟨trivial, ?_⟩
      refine (callsIn_wide.2 HLn.out).mono ?_
      rintro e w5 ⟨rfl, hb5⟩
      have s5 := hb5.size
      have KO5 := Lib.hid (KO.out.below hb5)
      have KA5 := Lib.hid (KA.out.below hb5)
      have KP5 := Lib.hid (blk_below KP.out hb5)
      have KK5 := Lib.hid ((hb5.block D (by omega)).trans KK.out)
      have KB5 := Lib.hid (Below.then_ KB.out hb5)
      clear hb5 hB cp zp HLn
      cases L with
      | nil =>
        simp only [List.length_nil]
        have hres : Hid (Drain (putAll (halves r)) O []) := Lib.hid (HPe.out ▸ KD.out)
        gi_wp2_with fail
        have hK5 := KK5.out
        refine ⟨by simp, .inl ⟨_, _, rfl, run_takeDeferred hK5, ?_⟩⟩
        have ho2 := (own_grown KO5.out (grownBy_putObj' w5 D (.deferred none)) (fun r e => by cases e; exact ⟨_, hK5, rfl⟩)).base_le (b := w.heap.size) hwW
        exact ⟨.slice Ao O.length co, by simp [results, Try.f74, go_sem], .slice Ao O.length co, O, rfl, ho2, hres.out, by simp only [List.length_nil] at hln; omega, KB5.out.trans (belowK_b (w := w) (Nat.le_refl _) w5 D _ _ (by omega) hK5 rfl rfl)⟩
      | cons x L =>
        have hxL : x ∉ L := (List.nodup_cons.1 KD.out.wait.once).1
        have hpv : ∀ y ∈ x :: L, 1 ≤ y ∧ y ≤ 9223372036854775807 := fun y hy => HPV.out y ((KD.out.mem y).2 (.inr hy))
        have hlL : L.length ≤ 67108864 := by simp only [List.length_cons] at hln; omega
        have HPop := Lib.hid (fun W h => ag_Pop W ga gm x L F' h hxL hpv (by omega))
        have HDs := Lib.hid KD.out.step
        have HLn := Lib.hid (Drain.len hln)
        have hOl : O.length ≤ 67108864 := by simp only [List.length_cons] at hln; omega
        have hl1 : (x :: L).length = L.length + 1 := by simp
        have cp := blk_cell KP5.out
        have zp := lt_of_block KP5.out
        have hmes : O.length < P.length := by simp only [List.length_cons] at hln; omega
        rw [hl1]
        clear hxL hpv KD hl1 hln
        gi_wp2_with fail
        refine ⟨trivial, ?_⟩
        refine (callsIn_wide.2 (HPop.out _ KA5.out)).mono ?_
        rintro e w6 ⟨rfl, hA6, hT6⟩
        have s6 := hT6.size
        have KA6 := Lib.hid hA6
        have KO6 := Lib.hid (hT6.own KO5.out (fun b hb hf => by have := (KO5.out.lt b hb).1; have := HFW.out b hf; omega))
        have KP6 := Lib.hid (hT6.keep KP5.out HPF.out)
        have KK6 := Lib.hid (hT6.keep KK5.out HDF.out)
        have KB6 := Lib.hid (KB5.out.trans (hT6.below HF.out KB5.out.size))
        clear hA6 hT6 cp zp KA5 KO5 KP5 KK5 KB5
        gi_wp2_with ((gi_at_builtin; refine wpListIn_push tyZ rfl _ _ rfl encZ w6 W.heap.size (.slice Ao O.length co) O rfl KO6.out x (by go_simp) rfl ?a1 ?a2 ?a3 ?a4))
        case a1 => omega
        case a2 => simp only [maxLen]; omega
        case a3 => omega
        case a4 =>
          intro v7 w7 ho7 hg7 _ _ hb7 _
          have KO7 := Lib.hid ho7
          have s7 := hg7.size
          have hne : ∀ b, b < W.heap.size → some b ≠ (Value.slice Ao O.length co).ownBlock := fun b hb h => by have := (KO6.out.lt b h.symm).1; omega
          have KA7 := Lib.hid (KA6.out.keep fun b hb => hg7.block b (by have := HFW.out b hb; omega) (hne b (HFW.out b hb)))
          have KP7 := Lib.hid ((hg7.block w1.heap.size (by omega) (hne _ (by omega))).trans KP6.out)
          have KK7 := Lib.hid ((hg7.block D (by omega) (hne _ (by omega))).trans KK6.out)
          have KB7 := Lib.hid (KB6.out.trans (hb7.mono hwW))
          have h7 : sliceLen v7 = O.length + 1 := by
            obtain ⟨A7, c7, rfl, _⟩ := KO7.out.form
            simp [sliceLen]
          clear ho7 hg7 hb7
          gi_wp2_with fail
          go_roundw
          case rel => exact ⟨O ++ [x], popH (x :: L), KO7.out, HDs.out, HLn.out, KA7.out, KP7.out, KK7.out, by omega, KB7.out⟩
          case measure => rw [h7]; simp only [sliceLen]; omega
  case stop =>
    rintro D c pre W hD hpre h hK
    exact h.elim
end Go.Proofs.Ytcjnchjmpkapmaa
/- Package fold: First; package press: Tight. -/
namespace Go.Proofs.Ytcjnchjmpkapmaa
open Go.ChangeShapes Go.WideShapes Go.ChangeAt Go.RowKit
set_option linter.unusedVariables false
set_option linter.unusedSimpArgs false
set_option maxRecDepth 100000

def FirstPost (l : Nat) (most : Int) (r : List Nd) (w : World) (e : Ending) (w' : World) : Prop :=
  ∃ (id : Int) (ok : Bool), e = .returned (.tuple #[.int .i64 id, .bool ok]) ∧ (ok = true → FirstIs l most r id) ∧ (ok = false → ∀ p, readyR l r p most = false) ∧ Below w.heap.size w w'
end Go.Proofs.Ytcjnchjmpkapmaa
/- Package press: run, Run: folding as far as it goes. -/
namespace Go.Proofs.Ytcjnchjmpkapmaa
open Go.ChangeShapes Go.WideShapes Go.ChangeAt Go.RowKit
set_option linter.unusedVariables false
set_option linter.unusedSimpArgs false
set_option maxRecDepth 100000

theorem deep_le {l : Nat} {r : List Nd} (h : Fits l r) (hl : l ≤ 48) : deepR r ≤ 48 * r.length := by
  have h1 : ∀ x ∈ r, x.1.toNat.log2 ≤ 48 := fun x hx => by
    have h2 := h.lt x hx
    have h3 := (h.roll.2 x hx).1
    have h4 : x.1.toNat < 2 ^ (l + 1) := by
      have : ((2 ^ (l + 1) : Nat) : Int) = 2 * 2 ^ l := by push_cast; omega
      omega
    have := (Nat.log2_lt (by omega)).2 h4
    omega
  clear h
  unfold deepR
  induction r with
  | nil => simp
  | cons x r ih =>
    have := ih fun y hy => h1 y (by simp [hy])
    have := h1 x (by simp)
    simp only [List.map_cons, List.sum_cons, List.length_cons]
    omega
structure RunS (w : World) (ga gm g K l nb : Nat) (F : Nat → Prop) (s : List Nd) (L : List Int) (c : Nat) (Fp FA : Nat → Prop) (W : World) : Prop where
  a : AgAt W ga gm L FA
  p : PoolAt W g K l s Fp
  apart : ∀ b, Fp b → ¬ FA b
  n : W.heap[nb]? = some (.cells #[.int .i64 c] 3 (0, 0))
  np : ¬ Fp nb
  na : ¬ FA nb
  fa : ∀ b, FA b → w.heap.size ≤ b
  gp : Grow w F Fp
  t : Turn (fun b => F b ∨ b = nb) w W
section
variable {w : World} {ga gm g K l nb : Nat} {F : Nat → Prop} {s s' : List Nd} {L L' : List Int} {c : Nat} {Fp FA FA' : Nat → Prop} {W W' : World}
theorem RunS.below (h : RunS w ga gm g K l nb F s L c Fp FA W) (hb : Below W.heap.size W W') : RunS w ga gm g K l nb F s L c Fp FA W' :=
  ⟨h.a.below hb, h.p.below hb, h.apart, blk_below h.n hb, h.np, h.na, h.fa, h.gp, h.t.more hb⟩
theorem RunS.ag (h : RunS w ga gm g K l nb F s L c Fp FA W) (ha : AgAt W' ga gm L' FA') (ht : Turn FA W W') (hg : Grow W FA FA') : RunS w ga gm g K l nb F s L' c Fp FA' W' := by
  have lp := h.p.lt
  refine ⟨ha, h.p.keep fun b hb => ht.block b (lp b hb) (h.apart b hb), fun b hb hf => ?_, ht.keep h.n h.na, h.np, fun hf => ?_, fun b hb => ?_, h.gp, ?_⟩
  · rcases hg b hf with hf | hf
    · exact h.apart b hb hf
    · have := lp b hb; omega
  · rcases hg _ hf with hf | hf
    · exact h.na hf
    · have := lt_of_block h.n; omega
  · rcases hg b hb with hf | hf
    · exact h.fa b hf
    · exact Nat.le_trans h.t.size hf
  · exact h.t.trans ht fun b hb => .inr (h.fa b hb)
theorem RunS.pool (h : RunS w ga gm g K l nb F s L c Fp FA W) (hp : PoolTo W g K l s' Fp W') : ∃ Fp', RunS w ga gm g K l nb F s' L c Fp' FA W' := by
  obtain ⟨Fp', h1, h2, h3⟩ := hp
  have la := h.a.lt
  refine ⟨Fp', h.a.keep fun b hb => h2.block b (la b hb) fun hf => h.apart b hf hb, h1, fun b hb hf => ?_, h2.keep h.n h.np, fun hf => ?_, h.na, h.fa, h.gp.trans h3 h.t.size, ?_⟩
  · rcases h3 b hb with hb | hb
    · exact h.apart b hb hf
    · have := la b hf; omega
  · rcases h3 _ hf with hf | hf
    · exact h.np hf
    · have := lt_of_block h.n; omega
  · exact h.t.trans h2 fun b hb => (h.gp b hb).imp .inl id
theorem RunS.count (h : RunS w ga gm g K l nb F s L c Fp FA W) : RunS w ga gm g K l nb F s L (c + 1) Fp FA (W.setCell ⟨nb, 0, none⟩ (.int .i64 (c + 1 : Nat))) := by
  have k : ∀ b, b ≠ nb → (W.setCell ⟨nb, 0, none⟩ (.int .i64 (c + 1 : Nat))).heap[b]? = W.heap[b]? := fun b hb => Below.heap_setCell _ _ _ _ (by simpa using hb)
  refine ⟨h.a.keep fun b hb => k b (by rintro rfl; exact h.na hb), h.p.keep fun b hb => k b (by rintro rfl; exact h.np hb), h.apart, ?_, h.np, h.na, h.fa, h.gp, h.t.setCell (.inl (.inr rfl)) _⟩
  simp [World.setCell, Array.getElem?_modify, h.n]
end
theorem press_Run1 (W : World) (nb c : Nat) (id : Int) (h : W.heap[nb]? = some (.cells #[.int .i64 c] 3 (0, 0))) (hc : c ≤ 4611686018427387904) :
    Calls Try.prog 61 #[.int .i64 id, .pointer (some ⟨nb, 0, none⟩)] W fun e w' => e = .returned (.tuple #[]) ∧ w' = W.setCell ⟨nb, 0, none⟩ (.int .i64 (c + 1 : Nat)) := by
  have c0 := blk_cell h
  have f0 := blk_frozen h
  have z0 := lt_of_block h
  clear h
  go_enter Try.func61, Try.ntmps61
  go_wp2_with fail
  go_end0
  exact ⟨rfl, by congr 1⟩
theorem enters_Run1 : ∀ args W, (callFunc 61 args).run Try.prog W = .ok (.enter 61 args) W := enters_of Try.func61 (by kernel_rfl) rfl
def RunPost (g K l : Nat) (r : List Nd) (most : Int) (nb : Nat) (F : Nat → Prop) (w : World) (e : Ending) (w' : World) : Prop :=
  ∃ (ps : List Int) (s : List Nd) (Fp : Nat → Prop), e = .returned (.tuple #[]) ∧ RunTo l most r ps s ∧ ps.length ≤ 48 * r.length ∧ PoolAt w' g K l s Fp ∧ Grow w F Fp ∧ ¬ Fp nb ∧ Turn (fun b => F b ∨ b = nb) w w' ∧ w'.heap[nb]? = some (.cells #[.int .i64 ps.length] 3 (0, 0))
set_option maxHeartbeats 4000000 in
theorem press_run (w : World) (g K l : Nat) (r : List Nd) (F : Nat → Prop) (hP : PoolAt w g K l r F) (hr : r.length ≤ 67108864) (k : Int) (h1 : 1 ≤ k) (h2 : k ≤ 1048576) (nb : Nat) (hn : w.heap[nb]? = some (.cells #[.int .i64 0] 3 (0, 0))) (hnF : ¬ F nb) :
    Calls Try.prog 60 #[.pointer (some ⟨g, 0, none⟩), .int .i64 k, .func (.func 61) #[] #[.pointer (some ⟨nb, 0, none⟩)]] w (RunPost g K l r (sumR r / k) nb F w) := by
  have eg := enters_Run1
  have hs0 := sumR_nonneg hP.fits.roll
  have hs1 := hP.fits.sum
  have hll := hP.l_le
  have hdl := deep_le hP.fits hll.2
  have HRl := Lib.hid hP.fits.roll
  have HP := Lib.hid hP
  have HT := Lib.hid (fun W h => pool_Total W g K l r F h)
  have HC := Lib.hid (fun W => fold_Cap W (sumR r) k hs0 (by omega) h1 (by omega))
  have HPa := Lib.hid (fun W h => fold_Parents W g K l r F h hr)
  generalize sumR r / k = most at HC ⊢
  generalize sumR r = n at HC HT hs0 hs1
  have HN := Lib.hid hn
  have HNF := Lib.hid hnF
  clear hP hs0 hs1 hn hnF
  go_enter Try.func60, Try.ntmps60
  go_wp2_with fail
  refine (HT.out _ HP.out).mono ?_
  rintro e w1 ⟨rfl, hb1⟩
  have B1 := Lib.hid hb1
  clear hb1
  go_wp2_with fail
  refine (HC.out _).mono ?_
  rintro e w2 ⟨rfl, hb2⟩
  have B2 := Lib.hid (Below.then_ B1.out hb2)
  clear hb2
  go_wp2_with fail
  refine (HPa.out _ (HP.out.below B2.out)).mono ?_
  rintro e w3 ⟨v, O, rfl, ho, hd, hol, hb3⟩
  obtain ⟨A, cap, rfl, _⟩ := ho.form
  have S3 := Lib.hid ho.sl
  have hO49 : ∀ x ∈ O, x ≤ 9223372036854775807 := fun x hx => by
    have h3 := (hd.mem x).2 (.inl hx)
    obtain ⟨y, hy, rfl⟩ := List.mem_map.1 ((putAll_mem _ _).1 h3).2
    have h4 := isNode_lt (HP.out.fits.nodes hll y hy)
    have h5 := pow_48 hll.2
    omega
  have hO49' : ∀ x ∈ O, x ≤ 562949953421312 := fun x hx => by
    have h3 := (hd.mem x).2 (.inl hx)
    obtain ⟨y, hy, rfl⟩ := List.mem_map.1 ((putAll_mem _ _).1 h3).2
    have h4 := isNode_lt (HP.out.fits.nodes hll y hy)
    have h5 := pow_48 hll.2
    omega
  have hwt : ∀ x ∈ r, 1 ≤ x.1 / 2 → x.1 / 2 ∈ putAll O := fun x hx h3 => by
    refine (putAll_mem _ _).2 ⟨h3, ?_⟩
    have : x.1 / 2 ∈ putAll (halves r) := (putAll_mem _ _).2 ⟨h3, List.mem_map.2 ⟨x, hx, rfl⟩⟩
    rcases (hd.mem _).1 this with h | h
    · exact h
    · simp at h
  have hlenO := putAll_len O
  have HW := Lib.hid (Waits.start (l := l) (most := most) hwt HRl.out)
  have HWt := Lib.hid (putAll_wait O)
  have HV : Hid (∀ x ∈ putAll O, x ≤ 562949953421312) := Lib.hid fun x hx => hO49' x ((putAll_mem _ _).1 hx).2
  have HNw := Lib.hid (fun W h => fold_New W A cap O h hO49 (by omega))
  have B3 := Lib.hid (Below.then_ B2.out hb3)
  clear ho hd hb3 hO49 hO49' hwt
  generalize putAll O = L0 at HW HWt HV HNw hlenO
  go_wp2_with fail
  refine (HNw.out _ S3.out).mono ?_
  rintro e w4 ⟨ga, gm, FA, rfl, hA4, hF4, hb4⟩
  have B4 := Lib.hid (Below.then_ B3.out hb4)
  have R4 : Hid (RunS w ga gm g K l nb F r L0 0 F FA w4) := Lib.hid
    ⟨hA4, HP.out.below B4.out, fun b hb hf => by have := HP.out.lt b hb; have := hF4 b hf; have := B3.out.size; omega, blk_below HN.out B4.out, HNF.out, fun hf => by have := lt_of_block HN.out; have := hF4 nb hf; have := B3.out.size; omega,
      fun b hb => Nat.le_trans B3.out.size (hF4 b hb), Grow.refl, .of_below B4.out⟩
  clear hA4 hF4 hb4 S3 HNw
  have hn0 : 4 * deepR r + L0.length ≤ 20000000000 := by omega
  have hfR := HP.out.fits
  go_wp2_with fail
  go_loopg [] 20000000000 (fun kk wr => ∃ (s : List Nd) (L : List Int) (ps : List Int) (Fp FA : Nat → Prop), RunS w ga gm g K l nb F s L ps.length Fp FA wr ∧ WaitL L ∧ Waits l most s L ∧ (∀ x ∈ L, x ≤ 562949953421312) ∧ Folded l most r s ∧ (∀ qs t, RunTo l most s qs t → RunTo l most r (ps ++ qs) t) ∧ ps.length + deepR s ≤ deepR r ∧ 4 * deepR s + L.length ≤ kk ∧ kk ≤ 20000000000)
  case atStart => exact ⟨r, L0, [], F, FA, R4.out, HWt.out, HW.out, HV.out, .refl _, fun qs t h => h, by simp, hn0, Nat.le_refl _⟩
  case round =>
    obtain ⟨s, L, ps, Fp, FA, hR, hw, hW, hV, hFo, hTo, hdp, hk1, hk2⟩ := hrel
    have R := Lib.hid hR
    have HWt := Lib.hid hw
    have HW := Lib.hid hW
    have HV := Lib.hid hV
    have HF := Lib.hid hFo
    have HTo := Lib.hid hTo
    have hfs := hFo.fits hfR
    have hls := hFo.len hfR
    obtain ⟨Dm, hAS, _⟩ := hR.a
    have HLn := Lib.hid (ag_Len _ ga gm _ L Dm FA hAS)
    have HD := Lib.hid hdp
    clear hR hw hW hV hFo hTo hAS hdp
    go_wp2_with fail
    refine HLn.out.mono ?_
    rintro e w5 ⟨rfl, hb5⟩
    have R5 := Lib.hid (R.out.below hb5)
    clear hb5 R HLn
    cases L with
    | nil =>
      simp only [List.length_nil]
      have hE := Lib.hid (HTo.out [] s (Waits.done HW.out))
      rw [List.append_nil] at hE
      go_wp2_with fail
      go_end0
      have hd1 := HD.out
      exact ⟨ps, s, Fp, rfl, hE.out, by omega, R5.out.p, R5.out.gp, R5.out.np, R5.out.t, R5.out.n⟩
    | cons x L =>
      have hxL : x ∉ L := (List.nodup_cons.1 HWt.out.once).1
      have hpv : ∀ y ∈ x :: L, 1 ≤ y ∧ y ≤ 9223372036854775807 := fun y hy => ⟨HWt.out.pos y hy, by have := HV.out y hy; omega⟩
      have hx1 : 1 ≤ x := HWt.out.pos x (by simp)
      have hx2 : x ≤ 562949953421312 := HV.out x (by simp)
      have hlL : L.length + 1 + 4 * deepR s ≤ gk := by simp only [List.length_cons] at hk1; omega
      have HPop := Lib.hid (fun W h => ag_Pop W ga gm x L FA h hxL hpv (by omega))
      have hl1 : (x :: L).length = L.length + 1 := by simp
      have hpl : (popH (x :: L)).length = L.length := (popH_perm x L).length_eq
      have HPW := Lib.hid HWt.out.pop
      have HPV : Hid (∀ y ∈ popH (x :: L), 1 ≤ y ∧ y ≤ 562949953421312) := Lib.hid fun y hy => ⟨HWt.out.pos y (List.mem_cons_of_mem _ ((popH_perm x L).mem_iff.1 hy)), HV.out y (List.mem_cons_of_mem _ ((popH_perm x L).mem_iff.1 hy))⟩
      rw [hl1]
      clear hl1 hk1 hpv hxL
      go_wp2_with fail
      refine (HPop.out _ R5.out.a).mono ?_
      rintro e w6 ⟨rfl, hA6, hT6⟩
      have R6 := Lib.hid (R5.out.ag hA6 hT6 Grow.refl)
      clear hA6 hT6 R5
      go_wp2_with fail
      refine (fold_Ready _ g K l s Fp R6.out.p x most).mono ?_
      rintro e w7 ⟨rfl, hb7⟩
      have R7 := Lib.hid (R6.out.below hb7)
      clear hb7 R6
      cases hy : readyR l s x most
      · have HSk := Lib.hid (HW.out.skip hy)
        clear hy
        generalize popH (x :: L) = M at HSk HPW HPV R7 hpl
        go_wp2_with fail
        go_roundg (gk - 1)
        case measure => omega
        case rel => exact ⟨s, M, ps, Fp, FA, R7.out, HPW.out, HSk.out, fun y hy => (HPV.out y hy).2, HF.out, HTo.out, HD.out, by omega, by omega⟩
      · have HFr := Lib.hid (HW.out.first HWt.out hy)
        have HWf := Lib.hid (HW.out.fold hfs.roll hy)
        have hdf := deep_fold hfs.roll hy
        have hkid := kids_iff.1 (ready_iff.1 hy).1
        have hx3 : x < 281474976710656 := by have := pow_48 hll.2; omega
        have HDo := Lib.hid (fun W h => fold_Do W g K l s Fp h x most hy (by omega))
        have HFo : Hid (Folded l most r (foldR s x)) := Lib.hid (.step x HF.out hy)
        have HTo2 : Hid (∀ qs t, RunTo l most (foldR s x) qs t → RunTo l most r ((ps ++ [x]) ++ qs) t) := Lib.hid fun qs t h => by
          have := HTo.out _ _ (.step HFr.out h)
          simpa using this
        have hpl1 : (ps ++ [x]).length = ps.length + 1 := by simp
        have hd1 := HD.out
        clear hkid hy HW HWt HF HTo HV
        generalize foldR s x = s2 at HWf HDo HFo HTo2 hdf
        generalize popH (x :: L) = M at HWf HPW HPV R7 hpl
        go_wp2_with fail
        refine (HDo.out _ R7.out.p).mono ?_
        rintro e w8 ⟨⟨n8, rfl⟩, hp8⟩
        obtain ⟨Fp8, R8'⟩ := R7.out.pool hp8
        have R8 := Lib.hid R8'
        clear R7 hp8 R8' HDo
        go_wp2_with fail
        refine (press_Run1 _ nb ps.length x R8.out.n (by omega)).mono ?_
        rintro e w9 ⟨rfl, rfl⟩
        have R9 := Lib.hid R8.out.count
        generalize w8.setCell ⟨nb, 0, none⟩ (.int .i64 (ps.length + 1 : Nat)) = w9 at R9 ⊢
        clear R8
        have HP1 := Lib.hid (fun W h => ag_Put W ga gm M FA h (2 * x) (by omega) (fun y hy => ⟨(HPV.out y hy).1, by have := (HPV.out y hy).2; omega⟩) (by omega))
        have V1 : Hid (∀ y ∈ putW M (2 * x), 1 ≤ y ∧ y ≤ 562949953421312) := Lib.hid fun y hy => by
          rcases (putW_mem _ _ _).1 hy with h | ⟨_, rfl⟩
          · exact HPV.out y h
          · exact ⟨by omega, by omega⟩
        have W1 := Lib.hid (HPW.out.put (2 * x))
        have L1 := putW_len M (2 * x)
        go_wp2_with fail
        refine (HP1.out _ R9.out.a).mono ?_
        rintro e wa ⟨t1, F1, rfl, hA, hT, hG⟩
        have RA := Lib.hid (R9.out.ag hA hT hG)
        clear hA hT hG R9 HP1
        generalize putW M (2 * x) = M1 at RA V1 W1 L1 HWf
        have HP2 := Lib.hid (fun W h => ag_Put W ga gm M1 F1 h (2 * x + 1) (by omega) (fun y hy => ⟨(V1.out y hy).1, by have := (V1.out y hy).2; omega⟩) (by omega))
        have V2 : Hid (∀ y ∈ putW M1 (2 * x + 1), 1 ≤ y ∧ y ≤ 562949953421312) := Lib.hid fun y hy => by
          rcases (putW_mem _ _ _).1 hy with h | ⟨_, rfl⟩
          · exact V1.out y h
          · exact ⟨by omega, by omega⟩
        have W2 := Lib.hid (W1.out.put (2 * x + 1))
        have L2 := putW_len M1 (2 * x + 1)
        go_wp2_with fail
        refine (HP2.out _ RA.out.a).mono ?_
        rintro e wb ⟨t2, F2, rfl, hA, hT, hG⟩
        have RB := Lib.hid (RA.out.ag hA hT hG)
        clear hA hT hG RA HP2
        generalize putW M1 (2 * x + 1) = M2 at RB V2 W2 L2 HWf
        have HP3 := Lib.hid (fun W h => ag_Put W ga gm M2 F2 h (x / 2) (by omega) (fun y hy => ⟨(V2.out y hy).1, by have := (V2.out y hy).2; omega⟩) (by omega))
        have V3 : Hid (∀ y ∈ putW M2 (x / 2), 1 ≤ y ∧ y ≤ 562949953421312) := Lib.hid fun y hy => by
          rcases (putW_mem _ _ _).1 hy with h | ⟨_, rfl⟩
          · exact V2.out y h
          · exact ⟨by omega, by omega⟩
        have W3 := Lib.hid (W2.out.put (x / 2))
        have L3 := putW_len M2 (x / 2)
        go_wp2_with fail
        refine (HP3.out _ RB.out.a).mono ?_
        rintro e wc ⟨t3, F3, rfl, hA, hT, hG⟩
        have RC := Lib.hid (RB.out.ag hA hT hG)
        clear hA hT hG RB HP3
        generalize putW M2 (x / 2) = M3 at RC V3 W3 L3 HWf
        go_wp2_with fail
        go_roundg (gk - 1)
        case measure => omega
        case rel => exact ⟨s2, M3, ps ++ [x], Fp8, F3, by rw [hpl1]; exact RC.out, W3.out, HWf.out, fun y hy => (V3.out y hy).2, HFo.out, HTo2.out, by rw [hpl1]; omega, by omega, by omega⟩
def PressPost (g K l : Nat) (r : List Nd) (most : Int) (F : Nat → Prop) (w : World) (e : Ending) (w' : World) : Prop :=
  ∃ (ps : List Int) (s : List Nd), e = .returned (.tuple #[.int .i64 ps.length, .int .i64 0]) ∧ RunTo l most r ps s ∧ ps.length ≤ 48 * r.length ∧ PoolTo w g K l s F w'
theorem press_Run (w : World) (g K l : Nat) (r : List Nd) (F : Nat → Prop) (hP : PoolAt w g K l r F) (hr : r.length ≤ 67108864) (k : Int) (h1 : 1 ≤ k) (h2 : k ≤ 1048576) :
    Calls Try.prog 40 #[.pointer (some ⟨g, 0, none⟩), .int .i64 k] w (PressPost g K l r (sumR r / k) F w) := by
  have HP := Lib.hid hP
  have HR := Lib.hid (fun W h nb hn hf => press_run W g K l r F h hr k h1 h2 nb hn hf)
  generalize sumR r / k = most at HR ⊢
  clear hP
  go_enter Try.func40, Try.ntmps40
  go_wp2_with fail
  refine (press_wrong _ g k h1 h2).mono ?_
  rintro e w1 ⟨rfl, hb1⟩
  have B1 := Lib.hid (hb1.trans (((Below.refl w1.heap.size w1).alloc (Nat.le_refl _) (.cells #[.int .i64 0] 3)).mono hb1.size))
  have X1 := Lib.hid (heap_alloc_new w1 (.cells #[.int .i64 0] 3))
  have s1 := hb1.size
  have P1 := Lib.hid (HP.out.below B1.out)
  clear hb1
  have NF : Hid (¬ F w1.heap.size) := Lib.hid fun hf => by have := HP.out.lt _ hf; omega
  go_wp2_with fail
  refine (HR.out _ P1.out _ X1.out NF.out).mono ?_
  rintro e w2 ⟨ps, s, Fp, rfl, hR, hpl, hP2, hG, _, hT, hn⟩
  have HE : Hid (RunTo l most r ps s ∧ ps.length ≤ 48 * r.length ∧ PoolTo w g K l s F w2) := by
    refine Lib.hid ⟨hR, hpl, Fp, hP2, ?_, fun b hb => (hG b hb).imp id fun h => Nat.le_trans B1.out.size h⟩
    refine ⟨hT.os.trans B1.out.os, hT.tape.trans B1.out.tape, hT.output.trans B1.out.output, Nat.le_trans B1.out.size hT.size, fun b hb hf => ?_⟩
    rw [hT.block b (Nat.lt_of_lt_of_le hb B1.out.size) (by rintro (h | h); exact hf h; omega)]
    exact B1.out.block b hb
  have c2 := blk_cell hn
  have z2 := lt_of_block hn
  clear hR hP2 hG hT hn hpl X1 P1 B1 HR
  go_wp2_with fail
  go_ret2
  exact ⟨ps, s, rfl, HE.out⟩
end Go.Proofs.Ytcjnchjmpkapmaa
/- Bags as lists of values and weights; culprits. Plain laws. -/
namespace Go.Proofs.Ytcjnchjmpkapmaa
open Go.ChangeShapes Go.WideShapes Go.ChangeAt Go.RowKit
set_option linter.unusedVariables false

structure BagL (l : Nat) (m : List Nd) : Prop where
  up : m.Pairwise fun a b => a.1 < b.1
  val : ∀ x ∈ m, 0 ≤ x.1 ∧ x.1 < 2 ^ l ∧ 1 ≤ x.2
  sum : sumR m ≤ 72057594037927935
theorem BagL.nil (l : Nat) : BagL l [] := ⟨.nil, by simp, by simp [sumR]⟩
theorem sumR_pos {m : List Nd} (h : ∀ x ∈ m, 1 ≤ x.2) : 0 ≤ sumR m ∧ (m.length : Int) ≤ sumR m := by
  induction m with
  | nil => simp [sumR]
  | cons x m ih =>
    have := ih fun y hy => h y (by simp [hy])
    have := h x (by simp)
    simp only [sumR, List.length_cons]; omega
theorem BagL.sum0 {l : Nat} {m : List Nd} (h : BagL l m) : 0 ≤ sumR m := (sumR_pos fun x hx => (h.val x hx).2.2).1
theorem addR_vals {m : List Nd} {x c : Int} {P : Nd → Prop} (h : ∀ y ∈ m, P y) (hn : P (x, c)) (ho : ∀ y ∈ m, y.1 = x → P (x, y.2 + c)) : ∀ y ∈ addR m x c, P y := by
  induction m with
  | nil => intro y hy; simp [addR] at hy; rw [hy]; exact hn
  | cons z m ih =>
    intro y hy
    simp only [addR] at hy
    split at hy
    · rename_i he
      rcases List.mem_cons.1 hy with rfl | hy
      · exact ho z (by simp) he
      · exact h y (by simp [hy])
    · split at hy
      · rcases List.mem_cons.1 hy with rfl | hy
        · exact hn
        · exact h y hy
      · rcases List.mem_cons.1 hy with rfl | hy
        · exact h y (by simp)
        · exact ih (fun u hu => h u (by simp [hu])) (fun u hu => ho u (by simp [hu])) y hy
theorem addR_up {m : List Nd} (h : m.Pairwise fun a b => a.1 < b.1) (x c : Int) : (addR m x c).Pairwise fun a b => a.1 < b.1 := by
  induction m with
  | nil => simp [addR]
  | cons z m ih =>
    obtain ⟨h1, h2⟩ := List.pairwise_cons.1 h
    simp only [addR]
    split
    · rename_i he
      exact List.pairwise_cons.2 ⟨fun y hy => by have := h1 y hy; simp only; omega, h2⟩
    · split
      · rename_i hlt
        refine List.pairwise_cons.2 ⟨fun y hy => ?_, h⟩
        rcases List.mem_cons.1 hy with rfl | hy
        · exact hlt
        · have := h1 y hy; simp only; omega
      · rename_i hne hge
        refine List.pairwise_cons.2 ⟨fun y hy => ?_, ih h2⟩
        rcases addR_mem hy with hy | hy
        · omega
        · exact h1 y hy
theorem BagL.add {l : Nat} {m : List Nd} (h : BagL l m) {x c : Int} (h0 : 0 ≤ x) (h1 : x < 2 ^ l) (hc : 1 ≤ c) (hs : sumR m + c ≤ 72057594037927935) : BagL l (addR m x c) :=
  ⟨addR_up h.up x c, addR_vals h.val ⟨h0, h1, hc⟩ fun y hy he => ⟨h0, h1, by have := (h.val y hy).2.2; simp only; omega⟩, by rw [sumR_add]; exact hs⟩
def betwB : List Nd → Int → Int → Int
  | [], _, _ => 0
  | x :: m, a, b => (if a ≤ x.1 ∧ x.1 ≤ b then x.2 else 0) + betwB m a b
theorem betwB_append (a b : List Nd) (x y : Int) : betwB (a ++ b) x y = betwB a x y + betwB b x y := by
  induction a with
  | nil => simp [betwB]
  | cons z a ih => simp only [List.cons_append, betwB, ih]; omega
theorem betwB_one (z : Nd) (x y : Int) : betwB [z] x y = if x ≤ z.1 ∧ z.1 ≤ y then z.2 else 0 := by simp [betwB]
theorem betwB_le {m : List Nd} (h : ∀ z ∈ m, 1 ≤ z.2) (x y : Int) : 0 ≤ betwB m x y ∧ betwB m x y ≤ sumR m := by
  induction m with
  | nil => simp [betwB, sumR]
  | cons z m ih =>
    have := ih fun u hu => h u (by simp [hu])
    have := h z (by simp)
    simp only [betwB, sumR]
    split <;> omega
structure CutAt (m : List Nd) (p : Int → Prop) (i : Nat) : Prop where
  le : i ≤ m.length
  ahead : ∀ z ∈ m.take i, ¬ p z.1
  behind : ∀ z ∈ m.drop i, p z.1
def leaves (l : Nat) (m : List Nd) : List Nd := m.map fun x => (2 ^ l + x.1, x.2)
theorem leaves_roll {l : Nat} {m : List Nd} (h : BagL l m) : Roll (leaves l m) := by
  have := pow_pos' l
  refine ⟨?_, fun x hx => ?_⟩
  · unfold leaves
    rw [List.pairwise_map]
    exact h.up.imp fun {a b} hab => by simp only; omega
  · obtain ⟨y, hy, rfl⟩ := List.mem_map.1 hx
    have := h.val y hy
    simp only; omega
theorem leaves_sum (l : Nat) (m : List Nd) : sumR (leaves l m) = sumR m := by
  induction m with
  | nil => rfl
  | cons x m ih => simp only [leaves, List.map_cons, sumR] at ih ⊢; rw [ih]
theorem leaves_add (l : Nat) (m : List Nd) (x c : Int) : leaves l (addR m x c) = addR (leaves l m) (2 ^ l + x) c := by
  induction m with
  | nil => rfl
  | cons z m ih =>
    simp only [addR, leaves, List.map_cons] at ih ⊢
    by_cases h1 : z.1 = x
    · rw [if_pos h1, if_pos (show (2 : Int) ^ l + z.1 = 2 ^ l + x by omega)]; simp
    · rw [if_neg h1, if_neg (show ¬ (2 : Int) ^ l + z.1 = 2 ^ l + x by omega)]
      by_cases h2 : x < z.1
      · rw [if_pos h2, if_pos (show (2 : Int) ^ l + x < 2 ^ l + z.1 by omega)]; simp
      · rw [if_neg h2, if_neg (show ¬ (2 : Int) ^ l + x < 2 ^ l + z.1 by omega)]; simp [ih]
theorem leaves_betw {l : Nat} (hl : 1 ≤ l ∧ l ≤ 48) : ∀ {m : List Nd}, (∀ x ∈ m, 0 ≤ x.1 ∧ x.1 < 2 ^ l) → ∀ (a b : Int), bagB l (leaves l m) a b = betwB m a b := by
  intro m
  induction m with
  | nil => intro _ a b; rfl
  | cons x m ih =>
    intro h a b
    have hx := h x (by simp)
    obtain ⟨n1, n2, n3⟩ := leaf_node hl hx.1 hx.2
    have := ih (fun y hy => h y (by simp [hy])) a b
    simp only [bagB, leaves, List.map_cons, weighR, betwB] at this ⊢
    rw [this]
    congr 1
    unfold loN at n2; unfold hiN at n3
    simp only [n2, n3, inLow, Bool.and_eq_true, decide_eq_true_eq]
def culIs (f : Int → Int) (L : List Int) (r : Int × Int) : Prop := (r = (0, 0) ∧ ∀ x ∈ L, f x ≤ 0) ∨ (r.1 ∈ L ∧ r.2 = f r.1 ∧ 0 < f r.1 ∧ ∀ x ∈ L, 0 < f x → r.1 ≤ x)
end Go.Proofs.Ytcjnchjmpkapmaa
/- Leaves: package twig, and the reference of layer 2. -/
namespace Go.Proofs.Ytcjnchjmpkapmaa
open Go.ChangeShapes Go.WideShapes Go.ChangeAt Go.RowKit
set_option linter.unusedVariables false
set_option maxRecDepth 100000

def isVal (l : Nat) (x : Int) : Bool := decide (0 ≤ x) && decide (x < 2 ^ l)
def leafV (l : Nat) (x : Int) : Value := .tuple #[.int .i64 (if isVal l x = true then 2 ^ l + x else 0), .bool (isVal l x)]
theorem leafV_yes {l : Nat} {x : Int} (h : isVal l x = true) : leafV l x = .tuple #[.int .i64 (2 ^ l + x), .bool true] := by unfold leafV; rw [h]; rfl
theorem leafV_no {l : Nat} {x : Int} (h : isVal l x = false) : leafV l x = .tuple #[.int .i64 0, .bool false] := by unfold leafV; rw [h]; rfl
theorem or_leaf {l : Nat} (h : l ≤ 48) {x : Int} (h0 : 0 ≤ x) (h1 : x < 2 ^ l) : bits .or .i64 (2 ^ l) x = 2 ^ l + x := by
  have p1 := pow_48 h
  have p2 := pow_pos' l
  exact bits_join .i64 63 (by decide) (fun n h0 h1 => by rw [IntKind.wrap_i64]; omega) l (2 ^ l) x (by omega) (Int.emod_self) (by omega) h0 h1 (by omega)
theorem twig_Leaf (w : World) (l : Nat) (x : Int) (h1 : 1 ≤ l) (h2 : l ≤ 48) : Calls Try.prog 43 #[.int .i64 l, .int .i64 x] w fun e w' => e = .returned (leafV l x) ∧ Below w.heap.size w w' := by
  have p1 := pow_48 h2
  have p2 := pow_pos' l
  have HU := Lib.hid (show decide (1 ≤ (l : Int) ∧ (l : Int) ≤ 48) = true by simp; omega)
  have l1 : (1 : Int) ≤ (l : Int) := by omega
  have l2 : (l : Int) ≤ 48 := by omega
  by_cases hx0 : x < 0
  · rw [leafV_no (by unfold isVal; simp; omega)]
    go_enter Try.func43, Try.ntmps43
    go_wp2_with fail
    refine (universe_ _ _).mono ?_
    rintro e w1 ⟨rfl, hb1⟩
    have B1 : Below w.heap.size w w1 := Below.then_ (by repeat (first | with_reducible exact Below.refl _ _ | with_reducible assumption | ((with_reducible refine Below.setCell ?_ ?_ _); rotate_left; · (first | omega | exact Nat.le_refl _ | (simp <;> omega))) | (with_reducible refine Below.allocW ?_ _) | (with_reducible refine Below.drew ?_) | (with_reducible refine Below.extW ?_ _))) hb1
    have s1 : w.heap.size ≤ w1.heap.size := B1.size
    rw [HU.out]
    go_wp2_with fail
    go_ret2
    exact ⟨rfl, B1⟩
  · have k0 : decide (x < 0) = false := by simpa using hx0
    by_cases hx1 : x < 2 ^ l
    · rw [leafV_yes (by unfold isVal; simp; omega)]
      have HO := Lib.hid (or_leaf h2 (show 0 ≤ x by omega) hx1)
      have k1 : decide ((2 : Int) ^ l ≤ x) = false := by simp; omega
      go_enter Try.func43, Try.ntmps43
      go_wp2_with fail
      refine (universe_ _ _).mono ?_
      rintro e w1 ⟨rfl, hb1⟩
      have B1 : Below w.heap.size w w1 := Below.then_ (by repeat (first | with_reducible exact Below.refl _ _ | with_reducible assumption | ((with_reducible refine Below.setCell ?_ ?_ _); rotate_left; · (first | omega | exact Nat.le_refl _ | (simp <;> omega))) | (with_reducible refine Below.allocW ?_ _) | (with_reducible refine Below.drew ?_) | (with_reducible refine Below.extW ?_ _))) hb1
      have s1 : w.heap.size ≤ w1.heap.size := B1.size
      rw [HU.out]
      go_wp2_with fail
      go_ret2
      exact ⟨by simp [HO.out], B1⟩
    · rw [leafV_no (by unfold isVal; simp; omega)]
      have k1 : decide ((2 : Int) ^ l ≤ x) = true := by simp; omega
      go_enter Try.func43, Try.ntmps43
      go_wp2_with fail
      refine (universe_ _ _).mono ?_
      rintro e w1 ⟨rfl, hb1⟩
      have B1 : Below w.heap.size w w1 := Below.then_ (by repeat (first | with_reducible exact Below.refl _ _ | with_reducible assumption | ((with_reducible refine Below.setCell ?_ ?_ _); rotate_left; · (first | omega | exact Nat.le_refl _ | (simp <;> omega))) | (with_reducible refine Below.allocW ?_ _) | (with_reducible refine Below.drew ?_) | (with_reducible refine Below.extW ?_ _))) hb1
      have s1 : w.heap.size ≤ w1.heap.size := B1.size
      rw [HU.out]
      go_wp2_with fail
      go_ret2
      exact ⟨rfl, B1⟩
end Go.Proofs.Ytcjnchjmpkapmaa
/- What a bag's Add leaves, and tells. Plain. -/
namespace Go.Proofs.Ytcjnchjmpkapmaa
open Go.ChangeShapes Go.WideShapes Go.ChangeAt Go.RowKit
set_option linter.unusedVariables false

def addB (l : Nat) (m : List Nd) (x c : Int) : List Nd × Int :=
  if isVal l x = false then (m, 3) else if c < 1 then (m, 4) else if 72057594037927935 < sumR m + c then (m, 5) else (addR m x c, 0)
theorem addR_len (m : List Nd) (x c : Int) : (addR m x c).length ≤ m.length + 1 := by
  induction m with
  | nil => simp [addR]
  | cons z m ih => simp only [addR]; split <;> (try split) <;> simp <;> omega
theorem addB_len (l : Nat) (m : List Nd) (x c : Int) : (addB l m x c).1.length ≤ m.length + 1 := by
  unfold addB
  have := addR_len m x c
  split
  · simp
  · split
    · simp
    · split <;> simp <;> omega
end Go.Proofs.Ytcjnchjmpkapmaa
/- What a digest of calls holds, and the bag of all that was accepted. Plain laws. -/
namespace Go.Proofs.Ytcjnchjmpkapmaa
open Go.ChangeShapes Go.WideShapes Go.ChangeAt Go.RowKit
set_option linter.unusedVariables false

def insErr (l : Nat) (r : List Nd) (x c : Int) : Int := if isVal l x = false then 3 else if c < 1 then 4 else if 72057594037927935 < sumR r + c then 5 else 0
def PreTo (l : Nat) (k : Int) (r : List Nd) (id : Int) (s : List Nd) : Prop :=
  (getR r id = 0 ∧ 8 * k ≤ r.length ∧ ∃ ps, RunTo l (sumR r / k) r ps s) ∨ (¬ (getR r id = 0 ∧ 8 * k ≤ r.length) ∧ s = r)
def InsTo (l : Nat) (k : Int) (r : List Nd) (x c : Int) (r' : List Nd) : Prop :=
  (insErr l r x c ≠ 0 ∧ r' = r) ∨ (insErr l r x c = 0 ∧ ∃ s, PreTo l k r (2 ^ l + x) s ∧ r' = addR s (2 ^ l + x) c)
abbrev Op3 := Int × Int × Int
def DoTo (l : Nat) (k : Int) (r : List Nd) (o : Op3) (r' : List Nd) (n : Int) : Prop :=
  (o.1 = 1 ∧ ∃ ps, RunTo l (sumR r / k) r ps r' ∧ n = ps.length) ∨ (o.1 = 2 ∧ r' = [] ∧ n = 0) ∨ (o.1 ≠ 1 ∧ o.1 ≠ 2 ∧ InsTo l k r o.2.1 o.2.2 r' ∧ n = insErr l r o.2.1 o.2.2)
theorem ins_ok {l : Nat} {r : List Nd} {x c : Int} (h : insErr l r x c = 0) : isVal l x = true ∧ 1 ≤ c ∧ sumR r + c ≤ 72057594037927935 := by
  unfold insErr at h
  split at h
  · omega
  · rename_i h1
    split at h
    · omega
    · split at h
      · omega
      · exact ⟨by simpa using h1, by omega, by omega⟩
theorem isVal_iff {l : Nat} {x : Int} : isVal l x = true ↔ 0 ≤ x ∧ x < 2 ^ l := by simp [isVal]
theorem PreTo.same {l : Nat} {k : Int} {r s : List Nd} {id : Int} (h : PreTo l k r id s) (hf : Fits l r) : Fits l s ∧ sumR s = sumR r ∧ s.length ≤ r.length := by
  rcases h with ⟨_, _, ps, h⟩ | ⟨_, rfl⟩
  · exact ⟨h.folded.fits hf, h.folded.sum hf, h.folded.len hf⟩
  · exact ⟨hf, rfl, Nat.le_refl _⟩
theorem DoTo.len {l : Nat} {k : Int} {r r' : List Nd} {o : Op3} {n : Int} (h : DoTo l k r o r' n) (hf : Fits l r) : r'.length ≤ r.length + 1 := by
  rcases h with ⟨_, ps, h, _⟩ | ⟨_, rfl, _⟩ | ⟨_, _, h, _⟩
  · have := h.folded.len hf; omega
  · simp
  · rcases h with ⟨_, rfl⟩ | ⟨_, s, h, rfl⟩
    · omega
    · have := (h.same hf).2.2
      have := addR_len s (2 ^ l + o.2.1) o.2.2
      omega
structure Held (l : Nat) (k : Int) (r m : List Nd) : Prop where
  fits : Fits l r
  flow : Flow l r (leaves l m)
  bag : BagL l m
  light : lightOf l r k = true
theorem Held.nil (l : Nat) (k : Int) : Held l k [] [] := ⟨Fits.nil l, Flow.nil l, .nil l, rfl⟩
section
variable {l : Nat} {k : Int} {r m : List Nd}
theorem Held.sum (h : Held l k r m) : sumR r = sumR m := by
  rw [h.flow.sum h.fits.roll (leaves_roll h.bag), leaves_sum]
theorem Held.run (h : Held l k r m) {ps : List Int} {s : List Nd} (hR : RunTo l (sumR r / k) r ps s) : Held l k s m :=
  ⟨hR.folded.fits h.fits, hR.folded.flow h.fits h.flow, h.bag, hR.folded.light h.fits h.light⟩
theorem Held.pre (h : Held l k r m) {id : Int} {s : List Nd} (hp : PreTo l k r id s) : Held l k s m := by
  rcases hp with ⟨_, _, ps, hp⟩ | ⟨_, rfl⟩
  · exact h.run hp
  · exact h
theorem leaf_inner {l : Nat} {x : Int} (h0 : 0 ≤ x) : (kidsOf l (2 ^ l + x)).2.2 = false := by
  rw [← Bool.not_eq_true, kids_iff]
  omega
theorem Held.add (h : Held l k r m) (hl : 1 ≤ l ∧ l ≤ 48) (hk : 1 ≤ k) {x c : Int} (h0 : 0 ≤ x) (h1 : x < 2 ^ l) (hc : 1 ≤ c) (hs : sumR r + c ≤ 72057594037927935) : Held l k (addR r (2 ^ l + x) c) (addR m x c) := by
  have hp := pow_pos' l
  refine ⟨h.fits.add (by omega) (by omega) hc hs, ?_, h.bag.add h0 h1 hc (by rw [← h.sum]; exact hs), add_light h.fits.roll hk h.light hc (leaf_inner h0)⟩
  rw [leaves_add]
  exact h.flow.add h.fits.roll (leaves_roll h.bag) (leaf_node hl h0 h1).1 hc
def bagDo (l : Nat) (m : List Nd) (o : Op3) (n : Int) : List Nd := if o.1 = 2 then [] else if o.1 ≠ 1 ∧ n = 0 then (addB l m o.2.1 o.2.2).1 else m
theorem Held.do_ (h : Held l k r m) (hl : 1 ≤ l ∧ l ≤ 48) (hk : 1 ≤ k) {o : Op3} {r' : List Nd} {n : Int} (hd : DoTo l k r o r' n) : Held l k r' (bagDo l m o n) := by
  unfold bagDo
  rcases hd with ⟨h1, ps, hR, _⟩ | ⟨h1, rfl, _⟩ | ⟨h1, h2, hI, hn⟩
  · rw [if_neg (by omega), if_neg (by omega)]; exact h.run hR
  · rw [if_pos h1]; exact .nil l k
  · rw [if_neg h2]
    rcases hI with ⟨h3, rfl⟩ | ⟨h3, s, hp, rfl⟩
    · rw [if_neg (by rw [hn]; exact fun h => h3 h.2)]; exact h
    · rw [if_pos ⟨h1, by rw [hn]; exact h3⟩]
      obtain ⟨v1, v2, v3⟩ := ins_ok h3
      obtain ⟨w1, w2⟩ := isVal_iff.1 v1
      have hm : sumR m + o.2.2 ≤ 72057594037927935 := by rw [← h.sum]; exact v3
      have e : (addB l m o.2.1 o.2.2).1 = addR m o.2.1 o.2.2 := by
        unfold Go.Proofs.Ytcjnchjmpkapmaa.addB
        rw [if_neg (by simp [v1]), if_neg (by omega), if_neg (by omega)]
      rw [e]
      exact (h.pre hp).add hl hk w1 w2 v2 (by rw [(hp.same h.fits).2.1]; exact v3)
theorem bagDo_len (l : Nat) (m : List Nd) (o : Op3) (n : Int) : (bagDo l m o n).length ≤ m.length + 1 := by
  unfold bagDo
  have := addB_len l m o.2.1 o.2.2
  split
  · simp
  · split <;> omega
theorem range_le {l : Nat} {r : List Nd} (hr : Roll r) (hn : ∀ x ∈ r, isNode l x.1 = true) {a b : Int} (hab : a ≤ b) : betwHigh l r a b - betwLow l r a b ≤ weighR l (around (a - 1)) r + weighR l (around b) r := by
  unfold betwHigh betwLow
  induction r with
  | nil => simp [weighR]
  | cons x r ih =>
    have h1 := ih hr.tail fun z hz => hn z (by simp [hz])
    have h2 := ends_bounds (hn x (by simp))
    have h3 := (hr.2 x (by simp)).2
    simp only [weighR]
    have key : (if inHigh a b (endsOf l x.1).1 (endsOf l x.1).2.1 = true then x.2 else 0) - (if inLow a b (endsOf l x.1).1 (endsOf l x.1).2.1 = true then x.2 else 0)
        ≤ (if around (a - 1) (endsOf l x.1).1 (endsOf l x.1).2.1 = true then x.2 else 0) + (if around b (endsOf l x.1).1 (endsOf l x.1).2.1 = true then x.2 else 0) := by
      simp only [inHigh, inLow, around, Bool.and_eq_true, decide_eq_true_eq]
      repeat' split
      all_goals omega
    omega
theorem Held.betw (h : Held l k r m) (hl : 1 ≤ l ∧ l ≤ 48) (hk : 1 ≤ k) {a b : Int} (hab : a ≤ b) : betwLow l r a b ≤ betwB m a b ∧ betwB m a b ≤ betwHigh l r a b ∧ betwHigh l r a b - betwLow l r a b ≤ 2 * l * (sumR m / k) := by
  have hq := leaves_roll h.bag
  have e := leaves_betw hl (m := m) (fun x hx => ⟨(h.bag.val x hx).1, (h.bag.val x hx).2.1⟩) a b
  unfold bagB at e
  have h0 : 0 ≤ sumR r / k := Int.ediv_nonneg (sumR_nonneg h.fits.roll) (by omega)
  have g1 := around_le h.fits.roll (h.fits.nodes hl) h.light h0 hl (a - 1)
  have g2 := around_le h.fits.roll (h.fits.nodes hl) h.light h0 hl b
  have g3 := range_le h.fits.roll (h.fits.nodes hl) hab
  rw [h.sum] at g1 g2
  refine ⟨?_, ?_, ?_⟩
  · rw [← e]
    refine h.flow.le h.fits.roll hq ?_
    intro lo hi x y h1 h2 h3
    simp only [inLow, Bool.and_eq_true, decide_eq_true_eq] at *
    omega
  · rw [← e]
    refine h.flow.ge h.fits.roll hq ?_
    intro lo hi x y h1 h2 h3 h4
    simp only [inLow, inHigh, Bool.and_eq_true, decide_eq_true_eq] at *
    omega
  · have : (2 : Int) * l * (sumR m / k) = l * (sumR m / k) + l * (sumR m / k) := by rw [Int.mul_assoc, Int.two_mul]
    omega
end
end Go.Proofs.Ytcjnchjmpkapmaa
/- Package digest: Len, Room, Cap, Compress, Reset, Insert. -/
namespace Go.Proofs.Ytcjnchjmpkapmaa
open Go.ChangeShapes Go.WideShapes Go.ChangeAt Go.RowKit
set_option linter.unusedVariables false
set_option linter.unusedSimpArgs false
set_option maxRecDepth 100000

def DigTo (w : World) (g K l : Nat) (k : Int) (s : List Nd) (F : Nat → Prop) (w' : World) : Prop := ∃ F', DigAt w' g K l k s F' ∧ Turn F w w' ∧ Grow w F F'
theorem DigTo.below {w : World} {g K l : Nat} {k : Int} {s : List Nd} {F : Nat → Prop} {w' : World} (h : DigAt w g K l k s F) (hb : Below w.heap.size w w') : DigTo w g K l k s F w' := ⟨F, h.below hb, .of_below hb, Grow.refl⟩
theorem PoolAt.not_dig {w : World} {p K l g : Nat} {r : List Nd} {F : Nat → Prop} (h : PoolAt w p K l r F) {cs : Array Value} (hh : w.heap[g]? = some (.cells cs 70 (0, 0))) : ¬ F g := fun hf => by
  obtain ⟨t, ht, ha⟩ := h.typed g hf
  have := typeAt_eq ha (.of hh)
  subst this
  rcases ht with h | h | h | h | h <;> revert h <;> decide
theorem DigAt.parts {w : World} {g K l : Nat} {k : Int} {r : List Nd} {F : Nat → Prop} (h : DigAt w g K l k r F) : ∃ p F0, F = footP g F0 ∧ w.heap[g]? = some (.cells #[.int .i64 k, .pointer (some ⟨p, 0, none⟩)] 70 (0, 0)) ∧ PoolAt w p K l r F0 ∧ ¬ F0 g ∧ 1 ≤ k ∧ k ≤ 1048576 := by
  obtain ⟨h1, h2, p, F0, hF, hh, hP⟩ := h
  exact ⟨p, F0, hF, hh, hP, hP.not_dig hh, h1, h2⟩
theorem digest_Len (w : World) (g K l : Nat) (k : Int) (r : List Nd) (F : Nat → Prop) (h : DigAt w g K l k r F) : Calls Try.prog 45 #[.pointer (some ⟨g, 0, none⟩)] w fun e w' => e = .returned (.int .i64 r.length) ∧ Below w.heap.size w w' := by
  obtain ⟨h1, h2, p, F0, rfl, hh, hP⟩ := h
  have c := blk_cell hh
  have z := lt_of_block hh
  have HP := Lib.hid hP
  clear hh hP
  go_enter Try.func45, Try.ntmps45
  go_wp2_with fail
  refine (pool_Len _ p K l r F0 HP.out).mono ?_
  rintro e w1 ⟨rfl, hb1⟩
  have B1 : Below w.heap.size w w1 := Below.then_ (by repeat (first | with_reducible exact Below.refl _ _ | with_reducible assumption | ((with_reducible refine Below.setCell ?_ ?_ _); rotate_left; · (first | omega | exact Nat.le_refl _ | (simp <;> omega))) | (with_reducible refine Below.allocW ?_ _) | (with_reducible refine Below.drew ?_) | (with_reducible refine Below.extW ?_ _))) hb1
  have s1 : w.heap.size ≤ w1.heap.size := B1.size
  go_wp2_with fail
  go_ret
  exact ⟨rfl, (by repeat (first | with_reducible exact Below.refl _ _ | with_reducible assumption | ((with_reducible refine Below.setCell ?_ ?_ _); rotate_left; · (first | omega | exact Nat.le_refl _ | (simp <;> omega))) | (with_reducible refine Below.allocW ?_ _) | (with_reducible refine Below.drew ?_) | (with_reducible refine Below.extW ?_ _)))⟩
theorem made_room (w : World) (k : Int) (h1 : 1 ≤ k) (h2 : k ≤ 1048576) : Calls Try.prog 46 #[.agg #[.int .i64 k]] w fun e w' => e = .returned (.int .i64 (8 * k)) ∧ Below w.heap.size w w' := by
  go_enter Try.func46, Try.ntmps46
  go_wp2_with fail
  go_ret
  exact ⟨rfl, (by repeat (first | with_reducible exact Below.refl _ _ | with_reducible assumption | ((with_reducible refine Below.setCell ?_ ?_ _); rotate_left; · (first | omega | exact Nat.le_refl _ | (simp <;> omega))) | (with_reducible refine Below.allocW ?_ _) | (with_reducible refine Below.drew ?_) | (with_reducible refine Below.extW ?_ _)))⟩
def CompPost (g K l : Nat) (k : Int) (r : List Nd) (F : Nat → Prop) (w : World) (e : Ending) (w' : World) : Prop :=
  ∃ (ps : List Int) (s : List Nd), e = .returned (.int .i64 ps.length) ∧ RunTo l (sumR r / k) r ps s ∧ DigTo w g K l k s F w'
theorem digest_Compress (w : World) (g K l : Nat) (k : Int) (r : List Nd) (F : Nat → Prop) (h : DigAt w g K l k r F) (hn : r.length ≤ 67108864) :
    Calls Try.prog 21 #[.pointer (some ⟨g, 0, none⟩)] w (CompPost g K l k r F w) := by
  obtain ⟨h1, h2, p, F0, rfl, hh, hP⟩ := h
  have hgF := hP.not_dig hh
  have c := blk_cell hh
  have z := lt_of_block hh
  have HR := Lib.hid (fun W h => press_Run W p K l r F0 h hn k h1 h2)
  have HP := Lib.hid hP
  have HH := Lib.hid hh
  unfold CompPost
  generalize sumR r / k = most at HR ⊢
  clear hh hP
  go_enter Try.func21, Try.ntmps21
  go_upto_region 3 with fail
  go_region_with (first
    | (go_at_call 40; refine (HR.out w.drew (HP.out.keep fun _ _ => rfl)).mono ?_; rintro e w1 ⟨ps, s, rfl, hR, _, F1, hP1, hT, hG⟩; have HE : Hid (RunTo l most r ps s ∧ DigTo w g K l k s (footP g F0) w1) := Lib.hid ⟨hR, footP g F1, ⟨h1, h2, p, F1, rfl, hT.keep (w := w.drew) HH.out hgF, hP1⟩, ((Turn.refl _ w).drew.trans hT Grow.refl).mono (fun b _ hb => .inr hb), hG.foot (w := w.drew)⟩; clear hR hP1 hT hG))
  all_goals
    clear c z
    go_wp2_with fail
    go_ret
    exact ⟨ps, s, rfl, HE.out⟩
theorem digest_Insert (w : World) (g K l : Nat) (k : Int) (r : List Nd) (F : Nat → Prop) (h : DigAt w g K l k r F) (hn : r.length ≤ 67108864) (x c : Int) :
    Calls Try.prog 23 #[.pointer (some ⟨g, 0, none⟩), .int .i64 x, .int .i64 c] w fun e w' => ∃ r', e = .returned (.int .i64 (insErr l r x c)) ∧ InsTo l k r x c r' ∧ DigTo w g K l k r' F w' := by
  have hD := Lib.hid h
  have hll := h.l_le
  have hCo := Lib.hid (fun W h => digest_Compress W g K l k r F h hn)
  have hLn := Lib.hid (fun W h => digest_Len W g K l k r F h)
  obtain ⟨h1, h2, p, F0, hFe, hh, hP⟩ := h
  have s0 := sumR_nonneg hP.fits.roll
  have s1 := hP.fits.sum
  have HL := Lib.hid (fun W h => pool_L W p K l r F0 h)
  have HT := Lib.hid (fun W h => pool_Total W p K l r F0 h)
  have HLf := Lib.hid (fun W => twig_Leaf W l x hll.1 hll.2)
  have HP := Lib.hid hP
  have c0 := blk_cell hh
  have z0 := lt_of_block hh
  cases hv : isVal l x
  · have e1 : insErr l r x c = 3 := by unfold insErr; rw [if_pos hv]
    have HE : Hid (InsTo l k r x c r) := Lib.hid (.inl ⟨by rw [e1]; omega, rfl⟩)
    rw [e1]
    rw [leafV_no hv] at HLf
    clear hh hP hv e1
    go_enter Try.func23, Try.ntmps23
    go_wp2_with fail
    refine (HL.out _ HP.out).mono ?_
    rintro e w1 ⟨rfl, hb1⟩
    have B1 : Below w.heap.size w w1 := Below.then_ (by repeat (first | with_reducible exact Below.refl _ _ | with_reducible assumption | ((with_reducible refine Below.setCell ?_ ?_ _); rotate_left; · (first | omega | exact Nat.le_refl _ | (simp <;> omega))) | (with_reducible refine Below.allocW ?_ _) | (with_reducible refine Below.drew ?_) | (with_reducible refine Below.extW ?_ _))) hb1
    have s1 : w.heap.size ≤ w1.heap.size := B1.size
    have z1_0 : g < w1.heap.size := by have := hb1.size; (try simp at this); omega
    have y1_0 : g ≤ w1.heap.size := Nat.le_of_lt z1_0
    have c1_0 := fun o => hb1.cell (p := ⟨g, o, none⟩) (by first | omega | (simp <;> omega))
    have f1_0 := fun o => hb1.frozen (p := ⟨g, o, none⟩) (by first | omega | (simp <;> omega))
    go_wp2_with fail
    refine (HLf.out _).mono ?_
    rintro e w2 ⟨rfl, hb2⟩
    have B2 : Below w.heap.size w w2 := Below.then_ (by repeat (first | with_reducible exact Below.refl _ _ | with_reducible assumption | ((with_reducible refine Below.setCell ?_ ?_ _); rotate_left; · (first | omega | exact Nat.le_refl _ | (simp <;> omega))) | (with_reducible refine Below.allocW ?_ _) | (with_reducible refine Below.drew ?_) | (with_reducible refine Below.extW ?_ _))) hb2
    have s2 : w.heap.size ≤ w2.heap.size := B2.size
    have z2_0 : g < w2.heap.size := by have := hb2.size; (try simp at this); omega
    have y2_0 : g ≤ w2.heap.size := Nat.le_of_lt z2_0
    have c2_0 := fun o => hb2.cell (p := ⟨g, o, none⟩) (by first | omega | (simp <;> omega))
    have f2_0 := fun o => hb2.frozen (p := ⟨g, o, none⟩) (by first | omega | (simp <;> omega))
    go_wp2_with fail
    go_ret
    exact ⟨r, rfl, HE.out, .below hD.out B2⟩
  · rw [leafV_yes hv] at HLf
    by_cases hc : c < 1
    · have e1 : insErr l r x c = 4 := by unfold insErr; rw [if_neg (by simp [hv]), if_pos hc]
      have HE : Hid (InsTo l k r x c r) := Lib.hid (.inl ⟨by rw [e1]; omega, rfl⟩)
      rw [e1]
      clear hh hP hv e1
      go_enter Try.func23, Try.ntmps23
      go_wp2_with fail
      refine (HL.out _ HP.out).mono ?_
      rintro e w1 ⟨rfl, hb1⟩
      have B1 : Below w.heap.size w w1 := Below.then_ (by repeat (first | with_reducible exact Below.refl _ _ | with_reducible assumption | ((with_reducible refine Below.setCell ?_ ?_ _); rotate_left; · (first | omega | exact Nat.le_refl _ | (simp <;> omega))) | (with_reducible refine Below.allocW ?_ _) | (with_reducible refine Below.drew ?_) | (with_reducible refine Below.extW ?_ _))) hb1
      have s1 : w.heap.size ≤ w1.heap.size := B1.size
      have z1_0 : g < w1.heap.size := by have := hb1.size; (try simp at this); omega
      have y1_0 : g ≤ w1.heap.size := Nat.le_of_lt z1_0
      have c1_0 := fun o => hb1.cell (p := ⟨g, o, none⟩) (by first | omega | (simp <;> omega))
      have f1_0 := fun o => hb1.frozen (p := ⟨g, o, none⟩) (by first | omega | (simp <;> omega))
      go_wp2_with fail
      refine (HLf.out _).mono ?_
      rintro e w2 ⟨rfl, hb2⟩
      have B2 : Below w.heap.size w w2 := Below.then_ (by repeat (first | with_reducible exact Below.refl _ _ | with_reducible assumption | ((with_reducible refine Below.setCell ?_ ?_ _); rotate_left; · (first | omega | exact Nat.le_refl _ | (simp <;> omega))) | (with_reducible refine Below.allocW ?_ _) | (with_reducible refine Below.drew ?_) | (with_reducible refine Below.extW ?_ _))) hb2
      have s2 : w.heap.size ≤ w2.heap.size := B2.size
      have z2_0 : g < w2.heap.size := by have := hb2.size; (try simp at this); omega
      have y2_0 : g ≤ w2.heap.size := Nat.le_of_lt z2_0
      have c2_0 := fun o => hb2.cell (p := ⟨g, o, none⟩) (by first | omega | (simp <;> omega))
      have f2_0 := fun o => hb2.frozen (p := ⟨g, o, none⟩) (by first | omega | (simp <;> omega))
      go_wp2_with fail
      go_ret
      exact ⟨r, rfl, HE.out, .below hD.out B2⟩
    · have hc' : decide (c < 1) = false := by simpa using hc
      by_cases hs : 72057594037927935 < sumR r + c
      · have e1 : insErr l r x c = 5 := by unfold insErr; rw [if_neg (by simp [hv]), if_neg hc, if_pos hs]
        have HE : Hid (InsTo l k r x c r) := Lib.hid (.inl ⟨by rw [e1]; omega, rfl⟩)
        rw [e1]
        generalize sumR r = n at hs s0 s1 HT
        have hs2 : 72057594037927935 - n < c := by omega
        clear hh hP hv e1 hs hc
        go_enter Try.func23, Try.ntmps23
        go_wp2_with fail
        refine (HL.out _ HP.out).mono ?_
        rintro e w1 ⟨rfl, hb1⟩
        have B1 : Below w.heap.size w w1 := Below.then_ (by repeat (first | with_reducible exact Below.refl _ _ | with_reducible assumption | ((with_reducible refine Below.setCell ?_ ?_ _); rotate_left; · (first | omega | exact Nat.le_refl _ | (simp <;> omega))) | (with_reducible refine Below.allocW ?_ _) | (with_reducible refine Below.drew ?_) | (with_reducible refine Below.extW ?_ _))) hb1
        have s1 : w.heap.size ≤ w1.heap.size := B1.size
        have z1_0 : g < w1.heap.size := by have := hb1.size; (try simp at this); omega
        have y1_0 : g ≤ w1.heap.size := Nat.le_of_lt z1_0
        have c1_0 := fun o => hb1.cell (p := ⟨g, o, none⟩) (by first | omega | (simp <;> omega))
        have f1_0 := fun o => hb1.frozen (p := ⟨g, o, none⟩) (by first | omega | (simp <;> omega))
        go_wp2_with fail
        refine (HLf.out _).mono ?_
        rintro e w2 ⟨rfl, hb2⟩
        have B2 : Below w.heap.size w w2 := Below.then_ (by repeat (first | with_reducible exact Below.refl _ _ | with_reducible assumption | ((with_reducible refine Below.setCell ?_ ?_ _); rotate_left; · (first | omega | exact Nat.le_refl _ | (simp <;> omega))) | (with_reducible refine Below.allocW ?_ _) | (with_reducible refine Below.drew ?_) | (with_reducible refine Below.extW ?_ _))) hb2
        have s2 : w.heap.size ≤ w2.heap.size := B2.size
        have z2_0 : g < w2.heap.size := by have := hb2.size; (try simp at this); omega
        have y2_0 : g ≤ w2.heap.size := Nat.le_of_lt z2_0
        have c2_0 := fun o => hb2.cell (p := ⟨g, o, none⟩) (by first | omega | (simp <;> omega))
        have f2_0 := fun o => hb2.frozen (p := ⟨g, o, none⟩) (by first | omega | (simp <;> omega))
        go_wp2_with fail
        have P2 := Lib.hid (HP.out.below B2)
        refine (HT.out _ P2.out).mono ?_
        rintro e w3 ⟨rfl, hb3⟩
        have B3 : Below w.heap.size w w3 := Below.then_ (by repeat (first | with_reducible exact Below.refl _ _ | with_reducible assumption | ((with_reducible refine Below.setCell ?_ ?_ _); rotate_left; · (first | omega | exact Nat.le_refl _ | (simp <;> omega))) | (with_reducible refine Below.allocW ?_ _) | (with_reducible refine Below.drew ?_) | (with_reducible refine Below.extW ?_ _))) hb3
        have s3 : w.heap.size ≤ w3.heap.size := B3.size
        go_wp2_with fail
        go_ret
        exact ⟨r, rfl, HE.out, .below hD.out B3⟩
      · have e1 : insErr l r x c = 0 := by unfold insErr; rw [if_neg (by simp [hv]), if_neg hc, if_neg hs]
        have hE : ∀ s, PreTo l k r (2 ^ l + x) s → InsTo l k r x c (addR s (2 ^ l + x) c) := fun s hp => .inr ⟨e1, s, hp, rfl⟩
        have HE := Lib.hid hE
        rw [e1]
        obtain ⟨v1, v2, v3⟩ := ins_ok e1
        obtain ⟨y1, y2⟩ := isVal_iff.1 v1
        have hpw := pow_pos' l
        have hp48 := pow_48 hll.2
        obtain ⟨id, hid⟩ : ∃ id : Nat, (2 : Int) ^ l + x = id := ⟨(2 ^ l + x).toNat, by omega⟩
        have hid1 : 1 ≤ id := by omega
        have hid2 : id < 2 * 2 ^ l := by
          have : (id : Int) < 2 * 2 ^ l := by omega
          exact_mod_cast this
        rw [hid] at HLf HE
        have HG := Lib.hid (fun W h => pool_Get W p K l r F0 h id)
        have HPre := Lib.hid (fun s (h : PreTo l k r id s) => h.same hP.fits)
        have HAdd := Lib.hid (fun W q s F' (hs : PreTo l k r id s) h => pool_Add W q K l s F' h id hid1 hid2 c (by omega) (by rw [(hs.same hP.fits).2.1]; omega) (by have := (hs.same hP.fits).2.2; omega))
        have HC1 : Hid (∀ ps s, getR r id = 0 → 8 * k ≤ r.length → RunTo l (sumR r / k) r ps s → PreTo l k r id s) := Lib.hid fun ps s a b h => .inl ⟨a, b, ps, h⟩
        have HC2 : Hid (¬ (getR r id = 0 ∧ 8 * k ≤ r.length) → PreTo l k r id r) := Lib.hid fun h => .inr ⟨h, rfl⟩
        have hs2 : decide (72057594037927935 - sumR r < c) = false := by simp; omega
        have hlr : (r.length : Int) ≤ 67108864 := by omega
        have HFe := Lib.hid hFe
        have HH := Lib.hid hh
        generalize sumR r = n at hs2 s0 s1 HT
        obtain ⟨gt, hgt⟩ : ∃ gt, gt = getR r id := ⟨_, rfl⟩
        rw [← hgt] at HG HC1 HC2
        clear hh hP hv e1 hs hc v1 v2 v3 y1 y2 hpw hp48 hid hid1 hid2 hE hgt HPre hFe
        go_enter Try.func23, Try.ntmps23
        go_wp2_with fail
        refine (HL.out _ HP.out).mono ?_
        rintro e w1 ⟨rfl, hb1⟩
        have B1 : Below w.heap.size w w1 := Below.then_ (by repeat (first | with_reducible exact Below.refl _ _ | with_reducible assumption | ((with_reducible refine Below.setCell ?_ ?_ _); rotate_left; · (first | omega | exact Nat.le_refl _ | (simp <;> omega))) | (with_reducible refine Below.allocW ?_ _) | (with_reducible refine Below.drew ?_) | (with_reducible refine Below.extW ?_ _))) hb1
        have s1 : w.heap.size ≤ w1.heap.size := B1.size
        have z1_0 : g < w1.heap.size := by have := hb1.size; (try simp at this); omega
        have y1_0 : g ≤ w1.heap.size := Nat.le_of_lt z1_0
        have c1_0 := fun o => hb1.cell (p := ⟨g, o, none⟩) (by first | omega | (simp <;> omega))
        have f1_0 := fun o => hb1.frozen (p := ⟨g, o, none⟩) (by first | omega | (simp <;> omega))
        go_wp2_with fail
        refine (HLf.out _).mono ?_
        rintro e w2 ⟨rfl, hb2⟩
        have B2 : Below w.heap.size w w2 := Below.then_ (by repeat (first | with_reducible exact Below.refl _ _ | with_reducible assumption | ((with_reducible refine Below.setCell ?_ ?_ _); rotate_left; · (first | omega | exact Nat.le_refl _ | (simp <;> omega))) | (with_reducible refine Below.allocW ?_ _) | (with_reducible refine Below.drew ?_) | (with_reducible refine Below.extW ?_ _))) hb2
        have s2 : w.heap.size ≤ w2.heap.size := B2.size
        have z2_0 : g < w2.heap.size := by have := hb2.size; (try simp at this); omega
        have y2_0 : g ≤ w2.heap.size := Nat.le_of_lt z2_0
        have c2_0 := fun o => hb2.cell (p := ⟨g, o, none⟩) (by first | omega | (simp <;> omega))
        have f2_0 := fun o => hb2.frozen (p := ⟨g, o, none⟩) (by first | omega | (simp <;> omega))
        go_wp2_with fail
        have P2 := Lib.hid (HP.out.below B2)
        refine (HT.out _ P2.out).mono ?_
        rintro e w3 ⟨rfl, hb3⟩
        have B3 : Below w.heap.size w w3 := Below.then_ (by repeat (first | with_reducible exact Below.refl _ _ | with_reducible assumption | ((with_reducible refine Below.setCell ?_ ?_ _); rotate_left; · (first | omega | exact Nat.le_refl _ | (simp <;> omega))) | (with_reducible refine Below.allocW ?_ _) | (with_reducible refine Below.drew ?_) | (with_reducible refine Below.extW ?_ _))) hb3
        have s3 : w.heap.size ≤ w3.heap.size := B3.size
        have z3_0 : g < w3.heap.size := by have := hb3.size; (try simp at this); omega
        have y3_0 : g ≤ w3.heap.size := Nat.le_of_lt z3_0
        have c3_0 := fun o => hb3.cell (p := ⟨g, o, none⟩) (by first | omega | (simp <;> omega))
        have f3_0 := fun o => hb3.frozen (p := ⟨g, o, none⟩) (by first | omega | (simp <;> omega))
        have P3 := Lib.hid (HP.out.below B3)
        have D3 := Lib.hid (hD.out.below B3)
        have BB3 := Lib.hid B3
        clear hb1 hb2 hb3 B1 B2 B3 P2
        by_cases h0 : gt = 0
        · subst h0
          by_cases h8 : 8 * k ≤ r.length
          · have HC3 := Lib.hid (fun ps s h => HC1.out ps s rfl h8 h)
            clear HC1 HC2
            go_wp2_with fail
            refine wp_region_ext (by kernel_rfl) (by kernel_rfl) ?_
            repeat (go_big_quiet_step (first | (go_at_call 44; exact quiet_ext (HG.out _ (P3.out.below (ext_below _ _)))) | (go_at_call 45; exact quiet_ext (hLn.out _ (D3.out.below (ext_below _ _)))) | (go_at_call 46; exact quiet_ext (made_room _ k h1 h2))))
            refine wpQuiet_nil ?_
            intro w4 hb4
            replace hb4 := below_of_ext hb4
            have D4 := Lib.hid (D3.out.below hb4)
            have B4 := Lib.hid (BB3.out.trans (hb4.mono BB3.out.size))
            clear hb4 P3 D3 BB3
            go_wp2_with fail
            refine (hCo.out w4 D4.out).mono ?_
            rintro e w5 ⟨ps, s, rfl, hR, F5, hD5, hT5, hG5⟩
            have HPs := Lib.hid (HC3.out ps s hR)
            replace hT5 : Turn F w w5 := (Turn.of_below B4.out).trans hT5 Grow.refl
            replace hG5 : Grow w F F5 := fun b hb => (hG5 b hb).imp (fun h => h) fun h => Nat.le_trans B4.out.size h
            clear hR D4 B4
            obtain ⟨p5, F05, rfl, hh5, hP5, hgF5, _, _⟩ := hD5.parts
            have P5 := Lib.hid hP5
            have H5 := Lib.hid hh5
            have T5 := Lib.hid hT5
            have G5 := Lib.hid hG5
            have c5 := blk_cell hh5
            have z5 := lt_of_block hh5
            clear hD5 hP5 hh5 hT5 hG5 c0 z0
            go_wp2_with fail
            refine (HAdd.out w5 p5 s F05 HPs.out P5.out).mono ?_
            rintro e w6 ⟨F6, rfl, hP6, hT6, hG6⟩
            have HF : Hid (DigTo w g K l k (addR s id c) F w6) := Lib.hid ⟨footP g F6, ⟨h1, h2, p5, F6, rfl, hT6.keep H5.out hgF5, hP6⟩, T5.out.trans (hT6.mono fun b _ hb => .inr hb) G5.out, G5.out.trans hG6.foot T5.out.size⟩
            clear hP6 hT6 hG6 c5 z5
            go_wp2_with fail
            go_ret
            exact ⟨_, rfl, HE.out s HPs.out, HF.out⟩
          · have HPs0 := Lib.hid (HC2.out fun h => h8 h.2)
            have h8' : decide (8 * k ≤ (r.length : Int)) = false := by simpa using h8
            obtain ⟨s, hs⟩ : ∃ s, s = r := ⟨_, rfl⟩
            have HPs : Hid (PreTo l k r id s) := Lib.hid (by rw [hs]; exact HPs0.out)
            clear HPs0
            clear HC1 HC2 h8
            go_wp2_with fail
            refine wp_region_ext (by kernel_rfl) (by kernel_rfl) ?_
            repeat (go_big_quiet_step (first | (go_at_call 44; exact quiet_ext (HG.out _ (P3.out.below (ext_below _ _)))) | (go_at_call 45; exact quiet_ext (hLn.out _ (D3.out.below (ext_below _ _)))) | (go_at_call 46; exact quiet_ext (made_room _ k h1 h2))))
            refine wpQuiet_nil ?_
            intro w5 hb4
            replace hb4 := below_of_ext hb4
            have hT5 : Turn F w w5 := Turn.of_below (BB3.out.trans (hb4.mono BB3.out.size))
            obtain ⟨F5, hF5⟩ : ∃ F5, F5 = F := ⟨_, rfl⟩
            have hG5 : Grow w F F5 := by rw [hF5]; exact Grow.refl
            have hD5 := D3.out.below hb4
            rw [← hF5] at hD5
            clear hF5
            clear hb4 P3 D3 BB3
            rw [← hs] at hD5
            obtain ⟨p5, F05, rfl, hh5, hP5, hgF5, _, _⟩ := hD5.parts
            have P5 := Lib.hid hP5
            have H5 := Lib.hid hh5
            have T5 := Lib.hid hT5
            have G5 := Lib.hid hG5
            have c5 := blk_cell hh5
            have z5 := lt_of_block hh5
            clear hD5 hP5 hh5 hT5 hG5 c0 z0
            go_wp2_with fail
            refine (HAdd.out w5 p5 s F05 HPs.out P5.out).mono ?_
            rintro e w6 ⟨F6, rfl, hP6, hT6, hG6⟩
            have HF : Hid (DigTo w g K l k (addR s id c) F w6) := Lib.hid ⟨footP g F6, ⟨h1, h2, p5, F6, rfl, hT6.keep H5.out hgF5, hP6⟩, T5.out.trans (hT6.mono fun b _ hb => .inr hb) G5.out, G5.out.trans hG6.foot T5.out.size⟩
            clear hP6 hT6 hG6 c5 z5
            go_wp2_with fail
            go_ret
            exact ⟨_, rfl, HE.out s HPs.out, HF.out⟩
        · have HPs0 := Lib.hid (HC2.out fun h => h0 h.1)
          have h0' : (gt == 0) = false := by simpa using h0
          obtain ⟨s, hs⟩ : ∃ s, s = r := ⟨_, rfl⟩
          have HPs : Hid (PreTo l k r id s) := Lib.hid (by rw [hs]; exact HPs0.out)
          clear HPs0
          clear HC1 HC2 h0
          go_wp2_with fail
          refine wp_region_ext (by kernel_rfl) (by kernel_rfl) ?_
          repeat (go_big_quiet_step (first | (go_at_call 44; exact quiet_ext (HG.out _ (P3.out.below (ext_below _ _)))) | (go_at_call 45; exact quiet_ext (hLn.out _ (D3.out.below (ext_below _ _)))) | (go_at_call 46; exact quiet_ext (made_room _ k h1 h2))))
          refine wpQuiet_nil ?_
          intro w5 hb4
          replace hb4 := below_of_ext hb4
          have hT5 : Turn F w w5 := Turn.of_below (BB3.out.trans (hb4.mono BB3.out.size))
          obtain ⟨F5, hF5⟩ : ∃ F5, F5 = F := ⟨_, rfl⟩
          have hG5 : Grow w F F5 := by rw [hF5]; exact Grow.refl
          have hD5 := D3.out.below hb4
          rw [← hF5] at hD5
          clear hF5
          clear hb4 P3 D3 BB3
          rw [← hs] at hD5
          obtain ⟨p5, F05, rfl, hh5, hP5, hgF5, _, _⟩ := hD5.parts
          have P5 := Lib.hid hP5
          have H5 := Lib.hid hh5
          have T5 := Lib.hid hT5
          have G5 := Lib.hid hG5
          have c5 := blk_cell hh5
          have z5 := lt_of_block hh5
          clear hD5 hP5 hh5 hT5 hG5 c0 z0
          go_wp2_with fail
          refine (HAdd.out w5 p5 s F05 HPs.out P5.out).mono ?_
          rintro e w6 ⟨F6, rfl, hP6, hT6, hG6⟩
          have HF : Hid (DigTo w g K l k (addR s id c) F w6) := Lib.hid ⟨footP g F6, ⟨h1, h2, p5, F6, rfl, hT6.keep H5.out hgF5, hP6⟩, T5.out.trans (hT6.mono fun b _ hb => .inr hb) G5.out, G5.out.trans hG6.foot T5.out.size⟩
          clear hP6 hT6 hG6 c5 z5
          go_wp2_with fail
          go_ret
          exact ⟨_, rfl, HE.out s HPs.out, HF.out⟩
end Go.Proofs.Ytcjnchjmpkapmaa
/- Package digest: Reset. -/
namespace Go.Proofs.Ytcjnchjmpkapmaa
open Go.ChangeShapes Go.WideShapes Go.ChangeAt Go.RowKit
set_option linter.unusedVariables false
set_option linter.unusedSimpArgs false
set_option maxRecDepth 100000

theorem delR_drop {r : List Nd} (hr : Roll r) {q : Nat} (h : q < r.length) : delR (r.drop q) r[q].1 = r.drop (q + 1) := by
  rw [drop_cons h]
  simp [delR]
set_option maxHeartbeats 2000000 in
theorem digest_Reset (w : World) (g K l : Nat) (k : Int) (r : List Nd) (F : Nat → Prop) (h : DigAt w g K l k r F) (hn : r.length ≤ 67108864) :
    Calls Try.prog 22 #[.pointer (some ⟨g, 0, none⟩)] w fun e w' => e = .returned (.tuple #[]) ∧ DigTo w g K l k [] F w' := by
  have hroll := h.fits.roll
  obtain ⟨p, F0, rfl, hh, hP, hgF, h1, h2⟩ := h.parts
  have c0 := blk_cell hh
  have z0 := lt_of_block hh
  have HH := Lib.hid hh
  have HP := Lib.hid hP
  have HR := Lib.hid hroll
  have HS := Lib.hid (fun W h => pool_Snap W p K l r F0 h hn)
  have HFl := Lib.hid hP.lt
  clear h hh hP hroll
  go_enter Try.func22, Try.ntmps22
  go_wp2_with fail
  refine (HS.out _ HP.out).mono ?_
  rintro e w1 ⟨v, rfl, ho, hb1⟩
  have HO := Lib.hid ho
  obtain ⟨A, cap, rfl, _⟩ := ho.form
  have P1 := Lib.hid (HP.out.below hb1)
  have B1 := Lib.hid hb1
  have X1 := Lib.hid (blk_below HH.out hb1)
  clear ho hb1 HS HP c0
  go_wp2_with fail
  go_loopw [13] (fun i wr => ∃ q : Nat, q ≤ r.length ∧ i = .int .i64 q ∧ PoolAt wr p K l (r.drop q) F0 ∧ Turn F0 w1 wr) (fun i _ => r.length - (intOf i).toNat)
  case atStart => exact ⟨0, Nat.zero_le _, rfl, P1.out, .refl _ _⟩
  case round =>
    obtain ⟨q, hq, rfl, hP, hT⟩ := hrel
    have KP := Lib.hid hP
    have KT := Lib.hid hT
    have KX := Lib.hid (hT.keep X1.out hgF)
    have KO := Lib.hid (hT.own HO.out fun b hb hf => by
      have := (HO.out.lt b hb).1
      have := HFl.out b hf
      omega)
    clear hP hT
    have ck := blk_cell KX.out
    have zk := lt_of_block KX.out
    by_cases hlt : q < r.length
    · have hqi : (q : Int) < (r.length : Int) := by omega
      obtain ⟨b, off, rfl, hb, hc⟩ := KO.out.sl.at_ hlt
      have d0 := hc 0 (.int .i64 r[q].1) rfl
      have d1 := hc 1 (.int .i64 r[q].2) rfl
      simp only [Nat.add_zero] at d0
      have HT := Lib.hid (fun W h => pool_Take W p K l (r.drop q) F0 h r[q].1)
      rw [delR_drop HR.out hlt] at HT
      generalize getR (r.drop q) r[q].1 = n at HT
      obtain ⟨x, hx⟩ : ∃ x, x = r[q] := ⟨_, rfl⟩
      rw [← hx] at d0 d1 HT
      clear hc hx
      go_upto_region 4 with fail
      have al := (Below.refl wr.heap.size wr).alloc (Nat.le_refl _) (.cells #[.int .i64 x.1, .int .i64 x.2] 45)
      have X4 := Lib.hid (heap_alloc_new wr (.cells #[.int .i64 x.1, .int .i64 x.2] 45))
      have P4 := Lib.hid (KP.out.below al)
      have T4 := Lib.hid (KT.out.more al)
      have Y4 := Lib.hid (blk_below KX.out al)
      clear KP KT KX KO X1 ck zk d0 d1 al
      obtain ⟨pn, hpn⟩ : ∃ pn, pn = wr.heap.size := ⟨_, rfl⟩
      rw [← hpn] at X4 ⊢
      generalize wr.alloc (.cells #[.int .i64 x.1, .int .i64 x.2] 45) = w4 at X4 P4 T4 Y4 ⊢
      clear hpn
      have cg := blk_cell Y4.out
      have zg := lt_of_block Y4.out
      have cn := blk_cell X4.out
      have zn := lt_of_block X4.out
      refine wp_region_tail 7 (by kernel_rfl) (by kernel_rfl) ?_; simp only [List.take_succ_cons, List.take_zero, List.drop_succ_cons, List.drop_zero]
      repeat (go_big_quiet_step (fail))
      refine wpQuiet_nil ?_
      intro w5 hb5
      replace hb5 := below_of_ext hb5
      have P5 := Lib.hid (P4.out.below hb5)
      have T5 := Lib.hid (T4.out.more hb5)
      clear hb5 cg zg cn zn
      go_wp2_with fail
      refine (HT.out _ P5.out).mono ?_
      rintro e w6 ⟨rfl, hP6, hT6⟩
      have P6 := Lib.hid hP6
      have T6 := Lib.hid (T5.out.trans hT6 Grow.refl)
      clear hP6 hT6
      go_wp2_with fail
      go_roundw
      case rel => exact ⟨q + 1, by omega, by go_num, P6.out, T6.out⟩
      case measure => simp [intOf]; omega
    · obtain rfl : q = r.length := by omega
      have hqi : decide ((r.length : Int) < (r.length : Int)) = false := by simp
      rw [List.drop_length] at KP
      have HE : Hid (DigTo w g K l k [] (footP g F0) wr) := Lib.hid ⟨footP g F0, ⟨h1, h2, p, F0, rfl, KX.out, KP.out⟩, ((Turn.of_below B1.out).trans KT.out Grow.refl).mono (fun b _ hb => .inr hb), Grow.refl⟩
      go_wp2_with fail
      go_end0
      exact ⟨rfl, HE.out⟩
end Go.Proofs.Ytcjnchjmpkapmaa
/- What the laws are given: a digest's conf and calls. -/
namespace Go.Proofs.Ytcjnchjmpkapmaa
open Go.ChangeShapes Go.WideShapes Go.ChangeAt Go.RowKit
set_option linter.unusedVariables false
set_option maxRecDepth 100000

def encO : Enc Op3 3 := ⟨fun x => [.int .i64 x.1, .int .i64 x.2.1, .int .i64 x.2.2], fun _ => rfl, by intro x u hu; simp at hu; rcases hu with rfl | rfl | rfl <;> rfl⟩
def intsO (l : List Op3) : Prop := ∀ x ∈ l, i64 x.1 ∧ i64 x.2.1 ∧ i64 x.2.2
section
variable {H : Type} {enc : TypeId × Value → H} {w : World} {base : Nat} {spare : Nat → Bool} {held : Bool} {fuel : Nat} {cs : List Value} {x : DataW H × List MemPlace}
theorem op3_of_trod (h : DataW.trod enc Try.prog w base spare held fuel 49 cs = some x) : ∃ o : Op3, cs = encO.enc o ∧ i64 o.1 ∧ i64 o.2.1 ∧ i64 o.2.2 := by
  obtain ⟨xs, n, _, _, hlen, hxl, hf⟩ := DataW.trod_struct Try.underlying49 h
  have hC : (Try.prog).cellsOf 49 = 3 := by kernel_rfl
  have hCi : (Try.prog).cellsOf 3 = 1 := by kernel_rfl
  rw [hC] at hlen
  match cs, hlen with
  | [c0, c1, c2], _ =>
    match xs, hxl with
    | [y0, y1, y2], _ =>
      have g0 : DataW.trod enc Try.prog w base spare held n 3 (([c0, c1, c2].drop 0).take ((Try.prog).cellsOf 3)) = some y0 := hf 0 _ rfl
      have g1 : DataW.trod enc Try.prog w base spare held n 3 (([c0, c1, c2].drop 1).take ((Try.prog).cellsOf 3)) = some y1 := hf 1 _ rfl
      have g2 : DataW.trod enc Try.prog w base spare held n 3 (([c0, c1, c2].drop 2).take ((Try.prog).cellsOf 3)) = some y2 := hf 2 _ rfl
      simp only [hCi] at g0 g1 g2
      obtain ⟨k, e0, _, k0⟩ := DataW.trod_int Try.underlying3 g0
      obtain ⟨i, e1, _, k1⟩ := DataW.trod_int Try.underlying3 g1
      obtain ⟨j, e2, _, k2⟩ := DataW.trod_int Try.underlying3 g2
      simp at e0 e1 e2
      subst e0 e1 e2
      exact ⟨(k, i, j), rfl, i64_of_wf k0, i64_of_wf k1, i64_of_wf k2⟩
theorem ops_of_trod (h : DataW.trod enc Try.prog w base spare held fuel 24 cs = some x) : ∃ (l : List Op3) (A : Option Addr) (cap : Nat), cs = [.slice A l.length cap] ∧ Sl w w.heap.size encO A l ∧ intsO l ∧ l.length ≤ maxLen := by
  obtain ⟨l, A, cap, h1, h2, h3, h4⟩ := slice_of_trod encO (fun o => i64 o.1 ∧ i64 o.2.1 ∧ i64 o.2.2) Try.underlying24 (by kernel_rfl) (by decide) (fun _ _ _ h => op3_of_trod h) h
  exact ⟨l, A, cap, h1, h2, h3, h4⟩
theorem side_of_trod (h : DataW.trod enc Try.prog w base spare held fuel 26 cs = some x) :
    ∃ (l k K : Int) (r : List Op3) (A : Option Addr) (cap : Nat), cs = [.int .i64 l, .int .i64 k, .int .i64 K, .slice A r.length cap] ∧ Sl w w.heap.size encO A r ∧ intsO r ∧ i64 l ∧ i64 k ∧ i64 K ∧ r.length ≤ maxLen := by
  obtain ⟨xs, n, _, _, hlen, hxl, hf⟩ := DataW.trod_struct Try.underlying26 h
  have hC : (Try.prog).cellsOf 26 = 4 := by kernel_rfl
  have hCi : (Try.prog).cellsOf 23 = 3 := by kernel_rfl
  have hCs : (Try.prog).cellsOf 24 = 1 := by kernel_rfl
  rw [hC] at hlen
  match cs, hlen with
  | [c0, c1, c2, c3], _ =>
    match xs, hxl with
    | [y0, y1], _ =>
      have g0 : DataW.trod enc Try.prog w base spare held n 23 (([c0, c1, c2, c3].drop 0).take ((Try.prog).cellsOf 23)) = some y0 := hf 0 _ rfl
      have g1 : DataW.trod enc Try.prog w base spare held n 24 (([c0, c1, c2, c3].drop 3).take ((Try.prog).cellsOf 24)) = some y1 := hf 1 _ rfl
      rw [hCi] at g0
      rw [hCs] at g1
      obtain ⟨l, k, K, e0, w0, w1, w2⟩ := conf_of_trod g0
      obtain ⟨r, A, cap, e1, hS, hI, hm⟩ := ops_of_trod g1
      simp at e0 e1
      obtain ⟨rfl, rfl, rfl⟩ := e0
      subst e1
      exact ⟨l, k, K, r, A, cap, rfl, hS, hI, w0, w1, w2, hm⟩
end
def callsV (l k K : Int) (A : Option Addr) (n cap : Nat) : Value := .agg #[.int .i64 l, .int .i64 k, .int .i64 K, .slice A n cap]
theorem open_Side {H : Type} {enc : TypeId × Value → H} {w : World} {base : Nat} {spare : Nat → Bool} {held : Bool} {r : Reach} {b0 : Nat} {v : Value} {d : DataW H} {p : List MemPlace}
    (hv : Value.okWide Try.prog w r b0 26 v) (h : DataW.Trod enc Try.prog w base spare held 26 v d p) :
    ∃ (l k K : Int) (r : List Op3) (A : Option Addr) (cap : Nat), v = callsV l k K A r.length cap ∧ Sl w w.heap.size encO A r ∧ intsO r ∧ i64 l ∧ i64 k ∧ i64 K ∧ r.length ≤ maxLen := by
  obtain ⟨cs, rfl, hsz⟩ := okWide_struct Try.underlying26 hv
  obtain ⟨fuel, hf⟩ := h
  obtain ⟨l, k, K, r, A, cap, hc, rest⟩ := side_of_trod hf
  refine ⟨l, k, K, r, A, cap, ?_, rest⟩
  obtain ⟨c⟩ := cs
  have : c = [.int .i64 l, .int .i64 k, .int .i64 K, .slice A r.length cap] := by simpa [Value.cells] using hc
  subst this
  rfl
end Go.Proofs.Ytcjnchjmpkapmaa
/- A slice of the call's own, sorted by slices.SortFunc. -/
namespace Go.Proofs.Ytcjnchjmpkapmaa
open Go.ChangeShapes Go.WideShapes Go.ChangeAt Go.RowKit
set_option linter.unusedVariables false

section
variable {α : Type} [Inhabited α] {size : Nat}
def SortPost {w : World} (base e : Nat) (E : Enc α size) (v : Value) (lt : α → α → Bool) (l : List α) (w : World) (en : Ending) (w' : World) : Prop :=
  en = .returned (.tuple #[]) ∧ ∃ l' : List α, l'.Perm l ∧ l'.Pairwise (fun a b => lt b a = false) ∧ Own w' base e E v l' ∧ Turn (fun b => v.ownBlock = some b) w w'
end
end Go.Proofs.Ytcjnchjmpkapmaa
/- Sums of weights up to numbers: the plain law. -/
namespace Go.Proofs.Ytcjnchjmpkapmaa
open Go.ChangeShapes Go.WideShapes Go.ChangeAt Go.RowKit
set_option linter.unusedVariables false

def wUp : List Nd → Int → Int
  | [], _ => 0
  | y :: l, x => (if y.1 ≤ x then y.2 else 0) + wUp l x
structure Tab (l t : List Nd) : Prop where
  rise : t.Pairwise fun a b => a.1 < b.1
  up : ∀ z ∈ t, z.2 = wUp l z.1
  all : ∀ y ∈ l, ∃ z ∈ t, z.1 = y.1
  of : ∀ z ∈ t, ∃ y ∈ l, y.1 = z.1
def atMost (t : List Nd) (x : Int) : Nat := (List.range t.length).countP fun i => !decide (x < (t.getD i (0, 0)).1)
end Go.Proofs.Ytcjnchjmpkapmaa
/- Package rank: made: the sums of readings. -/
namespace Go.Proofs.Ytcjnchjmpkapmaa
open Go.ChangeShapes Go.WideShapes Go.ChangeAt Go.RowKit
set_option linter.unusedVariables false
set_option maxRecDepth 100000

abbrev Rdg := { x : Nd // 0 ≤ x.1 ∧ x.1 ≤ 281474976710655 }
instance : Inhabited Rdg := ⟨⟨(0, 0), by decide⟩⟩
def encQ : Enc Rdg 2 := ⟨fun x => [.int .i64 x.1.1, .int .i64 x.1.2], fun _ => rfl, by intro x u hu; simp at hu; rcases hu with rfl | rfl <;> rfl⟩
def Sep (u v : Value) : Prop := ∀ g, u.ownBlock = some g → v.ownBlock ≠ some g
def MadePost (v : Value) (l : List Nd) (w : World) (e : Ending) (w' : World) : Prop :=
  ∃ t A1 c1 A2 c2, e = .returned (.agg #[.slice A1 t.length c1, .slice A2 t.length c2]) ∧ Tab l t ∧ t.length ≤ l.length ∧ Own w' w.heap.size 3 encZ (.slice A1 t.length c1) (t.map (·.1)) ∧ Own w' w.heap.size 3 encZ (.slice A2 t.length c2) (t.map (·.2)) ∧ Turn (fun b => v.ownBlock = some b) w w'
section
variable {w : World} {base B b0 bs : Nat} {vl : Value} {ll : List Nd} {V1 V2 : Value} {W W' : World} {U1 U1' : Value} {L1 L1' : List Int} {U2 U2' : Value} {L2 L2' : List Int}
end
theorem sum_part {l : List Nd} (h : ∀ z ∈ l, 1 ≤ z.2) {q : Nat} (hq : q < l.length) : 0 ≤ sumR (l.take q) ∧ sumR (l.take q) + l[q].2 ≤ sumR l := by
  induction l generalizing q with
  | nil => exact absurd hq (Nat.not_lt_zero _)
  | cons x l ih =>
    have hx := h x (by simp)
    cases q with
    | zero =>
      have : ∀ l : List Nd, (∀ z ∈ l, 1 ≤ z.2) → 0 ≤ sumR l := fun l => by
        intro hl
        induction l with
        | nil => simp [sumR]
        | cons y l ih2 => have := hl y (by simp); have := ih2 fun z hz => hl z (by simp [hz]); simp only [sumR]; omega
      have := this l fun z hz => h z (by simp [hz])
      simp [sumR]; omega
    | succ q =>
      have := ih (fun z hz => h z (by simp [hz])) (q := q) (by simpa using hq)
      simp only [List.take_succ_cons, sumR, List.getElem_cons_succ]; omega
end Go.Proofs.Ytcjnchjmpkapmaa
/- A region that draws its order: loads are taken first under a condition S, which the operations in X, behind all of these loads, need not keep. -/
namespace Go.Proofs.Ytcjnchjmpkapmaa
open Go.RowKit

section
variable {P : Program} {md : Region.Mode} {ops : Array Oper} {Q : Exit → Act → World → Prop} {S : World → Prop} {X : List Nat}
def wpAnyN (P : Program) (md : Region.Mode) (ops : Array Oper) (Q : Exit → Act → World → Prop) (S : World → Prop) (X : List Nat) : Nat → Array Bool → Act → World → Prop
  | 0, listed, a, w => Region.ready md ops listed = [] ∧ Q .normal a w
  | fuel + 1, listed, a, w =>
    (Region.ready md ops listed = [] → Q .normal a w) ∧
    ∀ i ∈ Region.ready md ops listed, wpOp P ops Q i (fun a' w' => (i ∉ X → S w → S w') ∧ wpAnyN P md ops Q S X fuel (listed.setIfInBounds i true) a' w') a w
end
end Go.Proofs.Ytcjnchjmpkapmaa
/- Package rank: made: the walk. -/
namespace Go.Proofs.Ytcjnchjmpkapmaa
open Go.ChangeShapes Go.WideShapes Go.ChangeAt Go.RowKit
set_option linter.unusedVariables false
set_option maxRecDepth 100000

end Go.Proofs.Ytcjnchjmpkapmaa
/- Package reach: Between and Share. -/
namespace Go.Proofs.Ytcjnchjmpkapmaa
open Go.ChangeShapes Go.WideShapes Go.ChangeAt Go.RowKit
set_option linter.unusedVariables false
set_option maxRecDepth 100000

def betw (l : Int) (r : List Nd) (a b : Int) : Int × Int × Int := if b < a then (0, 0, 2) else (betwLow l r a b, betwHigh l r a b, 0)
def share (l : Int) (r : List Nd) (a b d : Int) : Int × Int × Int :=
  if sumR r = 0 then (0, 0, 7) else if d < 1 ∨ b < a then (0, 0, 2) else (((betwLow l r a b).toNat * d.toNat / (sumR r).toNat : Nat), (upV (betwHigh l r a b).toNat d.toNat (sumR r).toNat : Nat), 0)
def bothV (t : Int × Int × Int) : Value := .tuple #[.agg #[.int .i64 t.1, .int .i64 t.2.1], .int .i64 t.2.2]
theorem betw_no {l a b : Int} {r : List Nd} (h : b < a) : bothV (betw l r a b) = .tuple #[.agg #[.int .i64 0, .int .i64 0], .int .i64 2] := by unfold betw; rw [if_pos h]; rfl
theorem betw_yes {l a b : Int} {r : List Nd} (h : ¬ b < a) : bothV (betw l r a b) = .tuple #[.agg #[.int .i64 (betwLow l r a b), .int .i64 (betwHigh l r a b)], .int .i64 0] := by unfold betw; rw [if_neg h]; rfl

theorem reach_Between (w : World) (g K l : Nat) (k : Int) (r : List Nd) (F : Nat → Prop) (a b : Int) (h : DigAt w g K l k r F) (hn : r.length ≤ 67108864) :
    Calls Try.prog 6 #[.pointer (some ⟨g, 0, none⟩), .int .i64 a, .int .i64 b] w fun e w' => e = .returned (bothV (betw l r a b)) ∧ Below w.heap.size w w' := by
  have HD := Lib.hid h
  clear h
  by_cases hab : b < a
  · rw [betw_no hab]
    go_enter Try.func6, Try.ntmps6
    go_wp2_with fail
    exact bodyPost_ret (v := .tuple #[.agg #[.int .i64 0, .int .i64 0], .int .i64 2]) (by simp only [results, Try.results6]; go_simp) rfl ⟨rfl, (by repeat (first | with_reducible exact Below.refl _ _ | with_reducible assumption | ((with_reducible refine Below.setCell ?_ ?_ _); rotate_left; · (first | omega | exact Nat.le_refl _ | (simp <;> omega))) | (with_reducible refine Below.allocW ?_ _) | (with_reducible refine Below.drew ?_) | (with_reducible refine Below.extW ?_ _)))⟩
  · rw [betw_yes hab]
    have h1 : decide (b < a) = false := by simpa using hab
    have hba : a ≤ b := by omega
    clear hab
    go_enter Try.func6, Try.ntmps6
    go_wp2_with fail
    have B0 : Below w.heap.size w (((w.alloc (.cells #[.int .i64 a] 3)).alloc (.cells #[.int .i64 b] 3)).alloc (.cells #[.int .i64 0, .int .i64 0] 35)) := (by repeat (first | with_reducible exact Below.refl _ _ | with_reducible assumption | ((with_reducible refine Below.setCell ?_ ?_ _); rotate_left; · (first | omega | exact Nat.le_refl _ | (simp <;> omega))) | (with_reducible refine Below.allocW ?_ _) | (with_reducible refine Below.drew ?_) | (with_reducible refine Below.extW ?_ _)))
    have ca : (((w.alloc (.cells #[.int .i64 a] 3)).alloc (.cells #[.int .i64 b] 3)).alloc (.cells #[.int .i64 0, .int .i64 0] 35)).cell? ⟨w.heap.size, 0, none⟩ = some (.int .i64 a) := by go_simp
    have cb : (((w.alloc (.cells #[.int .i64 a] 3)).alloc (.cells #[.int .i64 b] 3)).alloc (.cells #[.int .i64 0, .int .i64 0] 35)).cell? ⟨w.heap.size + 1, 0, none⟩ = some (.int .i64 b) := by go_simp
    have HA := Lib.hid ca
    have HB := Lib.hid cb
    clear ca cb
    refine (digest_Conf _ g K l k r F (HD.out.below B0)).mono ?_
    rintro e w1 ⟨rfl, hb1⟩
    have B1 : Below w.heap.size w w1 := Below.then_ (by repeat (first | with_reducible exact Below.refl _ _ | with_reducible assumption | ((with_reducible refine Below.setCell ?_ ?_ _); rotate_left; · (first | omega | exact Nat.le_refl _ | (simp <;> omega))) | (with_reducible refine Below.allocW ?_ _) | (with_reducible refine Below.drew ?_) | (with_reducible refine Below.extW ?_ _))) hb1
    have s1 : w.heap.size ≤ w1.heap.size := B1.size
    have z1_0 : w.heap.size < w1.heap.size := by have := hb1.size; (try simp at this); omega
    have y1_0 : w.heap.size ≤ w1.heap.size := Nat.le_of_lt z1_0
    have c1_0 := fun o => hb1.cell (p := ⟨w.heap.size, o, none⟩) (by first | omega | (simp <;> omega))
    have f1_0 := fun o => hb1.frozen (p := ⟨w.heap.size, o, none⟩) (by first | omega | (simp <;> omega))
    have z1_1 : w.heap.size + 1 < w1.heap.size := by have := hb1.size; (try simp at this); omega
    have y1_1 : w.heap.size + 1 ≤ w1.heap.size := Nat.le_of_lt z1_1
    have c1_1 := fun o => hb1.cell (p := ⟨w.heap.size + 1, o, none⟩) (by first | omega | (simp <;> omega))
    have f1_1 := fun o => hb1.frozen (p := ⟨w.heap.size + 1, o, none⟩) (by first | omega | (simp <;> omega))
    have z1_2 : w.heap.size + 1 + 1 < w1.heap.size := by have := hb1.size; (try simp at this); omega
    have y1_2 : w.heap.size + 1 + 1 ≤ w1.heap.size := Nat.le_of_lt z1_2
    have c1_2 := fun o => hb1.cell (p := ⟨w.heap.size + 1 + 1, o, none⟩) (by first | omega | (simp <;> omega))
    have f1_2 := fun o => hb1.frozen (p := ⟨w.heap.size + 1 + 1, o, none⟩) (by first | omega | (simp <;> omega))
    have KD := Lib.hid ((HD.out.below B1).below ((Below.refl w1.heap.size w1).alloc (Nat.le_refl _) (.cells #[.int .i64 l] 3)))
    have WA := (Below.refl w1.heap.size w1).alloc (Nat.le_refl _) (.cells #[.int .i64 l] 3)
    have ca := (WA.cell (p := ⟨w.heap.size, 0, none⟩) z1_0).trans ((c1_0 0).trans HA.out)
    have cb := (WA.cell (p := ⟨w.heap.size + 1, 0, none⟩) z1_1).trans ((c1_1 0).trans HB.out)
    have HA1 := Lib.hid ca
    have HB1 := Lib.hid cb
    clear ca cb WA hb1
    go_wp2_with fail
    refine (sum_Between _ g K l k r F a b w1.heap.size w.heap.size (w.heap.size + 1) KD.out hn (by go_simp) HA1.out HB1.out).mono ?_
    rintro e w2 ⟨rfl, hb2⟩
    have B2 : Below w.heap.size w w2 := Below.then_ (by repeat (first | with_reducible exact Below.refl _ _ | with_reducible assumption | ((with_reducible refine Below.setCell ?_ ?_ _); rotate_left; · (first | omega | exact Nat.le_refl _ | (simp <;> omega))) | (with_reducible refine Below.allocW ?_ _) | (with_reducible refine Below.drew ?_) | (with_reducible refine Below.extW ?_ _))) hb2
    have s2 : w.heap.size ≤ w2.heap.size := B2.size
    have z2_0 : w.heap.size + 1 + 1 < w2.heap.size := by have := hb2.size; (try simp at this); omega
    have y2_0 : w.heap.size + 1 + 1 ≤ w2.heap.size := Nat.le_of_lt z2_0
    have c2_0 := fun o => hb2.cell (p := ⟨w.heap.size + 1 + 1, o, none⟩) (by first | omega | (simp <;> omega))
    have f2_0 := fun o => hb2.frozen (p := ⟨w.heap.size + 1 + 1, o, none⟩) (by first | omega | (simp <;> omega))
    go_wp2_with fail
    exact bodyPost_ret (v := .tuple #[.agg #[.int .i64 (betwLow l r a b), .int .i64 (betwHigh l r a b)], .int .i64 0]) (by simp only [results, Try.results6]; go_simp) rfl ⟨rfl, (by repeat (first | with_reducible exact Below.refl _ _ | with_reducible assumption | ((with_reducible refine Below.setCell ?_ ?_ _); rotate_left; · (first | omega | exact Nat.le_refl _ | (simp <;> omega))) | (with_reducible refine Below.allocW ?_ _) | (with_reducible refine Below.drew ?_) | (with_reducible refine Below.extW ?_ _)))⟩
end Go.Proofs.Ytcjnchjmpkapmaa
/- Package rank: tables. -/
namespace Go.Proofs.Ytcjnchjmpkapmaa
open Go.ChangeShapes Go.WideShapes Go.ChangeAt Go.RowKit
set_option linter.unusedVariables false
set_option maxRecDepth 100000

def upT (t : List Nd) (x : Int) : Int := if atMost t x = 0 then 0 else (t.getD (atMost t x - 1) (0, 0)).2
end Go.Proofs.Ytcjnchjmpkapmaa
/- Package bag: what is read of it. -/
namespace Go.Proofs.Ytcjnchjmpkapmaa
open Go.ChangeShapes Go.WideShapes Go.ChangeAt Go.RowKit
set_option linter.unusedVariables false
set_option linter.unusedSimpArgs false
set_option maxRecDepth 100000

end Go.Proofs.Ytcjnchjmpkapmaa
/- Package bag: what is put into it. -/
namespace Go.Proofs.Ytcjnchjmpkapmaa
open Go.ChangeShapes Go.WideShapes Go.ChangeAt Go.RowKit
set_option linter.unusedVariables false
set_option linter.unusedSimpArgs false
set_option maxRecDepth 100000

end Go.Proofs.Ytcjnchjmpkapmaa
/- Package bag: put, Add. -/
namespace Go.Proofs.Ytcjnchjmpkapmaa
open Go.ChangeShapes Go.WideShapes Go.ChangeAt Go.RowKit
set_option linter.unusedVariables false
set_option linter.unusedSimpArgs false
set_option maxRecDepth 100000

theorem tyRd : SliceTy Try.prog 29 59 2 16 (.agg #[.int .i64 0, .int .i64 0]) := ⟨Try.underlying29, by kernel_rfl, rfl, by decide⟩
end Go.Proofs.Ytcjnchjmpkapmaa
/- Package bag: Add. -/
namespace Go.Proofs.Ytcjnchjmpkapmaa
open Go.ChangeShapes Go.WideShapes Go.ChangeAt Go.RowKit
set_option linter.unusedVariables false
set_option linter.unusedSimpArgs false
set_option maxRecDepth 100000

end Go.Proofs.Ytcjnchjmpkapmaa
/- Reference 10: bags. -/
namespace Go.Proofs.Ytcjnchjmpkapmaa
open Go.ChangeShapes Go.WideShapes Go.ChangeAt Go.RowKit
set_option linter.unusedVariables false
set_option linter.unusedSimpArgs false
set_option maxRecDepth 100000

def bagV (l : Int) (A : Option Addr) (n cap : Nat) : Value := .agg #[.int .i64 l, .slice A n cap]
theorem sumV_take {m : List Nd} {q : Nat} (h : q < m.length) : sumR (m.take (q + 1)) = sumR (m.take q) + m[q].2 := by
  rw [List.take_succ_eq_append_getElem h, sumR_append]; simp [sumR]
theorem sumV_take_le {m : List Nd} (h : ∀ x ∈ m, 1 ≤ x.2) (q : Nat) : 0 ≤ sumR (m.take q) ∧ sumR (m.take q) ≤ sumR m := by
  have e1 : sumR m = sumR (m.take q) + sumR (m.drop q) := by rw [← sumR_append, List.take_append_drop]
  have e3 := (sumR_pos (m := m.drop q) fun y hy => h y (List.mem_of_mem_drop hy)).1
  have e4 := (sumR_pos (m := m.take q) fun y hy => h y (List.mem_of_mem_take hy)).1
  omega
theorem ref10_Total (w : World) (l : Int) (A : Option Addr) (cap : Nat) (m : List Nd) (hS : Sl w w.heap.size encN A m) (hv : ∀ x ∈ m, 1 ≤ x.2) (hs : sumR m ≤ 72057594037927935) :
    Calls Try.prog 8 #[bagV l A m.length cap] w fun e w' => e = .returned (.int .i64 (sumR m)) ∧ Below w.heap.size w w' := by
  have hml : (m.length : Int) ≤ 72057594037927935 := by have := (sumR_pos hv).2; omega
  have HS := Lib.hid hS
  have HV := Lib.hid hv
  clear hS hv
  unfold bagV
  have X0 : Hid ((w.alloc (.cells #[.int .i64 l, .slice A m.length cap] 31)).heap[w.heap.size]? = some (.cells #[.int .i64 l, .slice A m.length cap] 31 (0, 0))) := Lib.hid (heap_alloc_new w _)
  go_enter Try.func8, Try.ntmps8
  go_wp2_with fail
  go_loopw [3, 4] (fun n j wr => ∃ q : Nat, q ≤ m.length ∧ j = .int .i64 q ∧ n = .int .i64 (sumR (m.take q)) ∧ wr.heap[w.heap.size]? = some (.cells #[.int .i64 l, .slice A m.length cap] 31 (0, 0)) ∧ Below w.heap.size w wr) (fun _ j _ => m.length - (intOf j).toNat)
  case atStart => exact ⟨0, Nat.zero_le _, rfl, rfl, X0.out, (by repeat (first | with_reducible exact Below.refl _ _ | with_reducible assumption | ((with_reducible refine Below.setCell ?_ ?_ _); rotate_left; · (first | omega | exact Nat.le_refl _ | (simp <;> omega))) | (with_reducible refine Below.allocW ?_ _) | (with_reducible refine Below.drew ?_) | (with_reducible refine Below.extW ?_ _)))⟩
  case round =>
    obtain ⟨q, hq, rfl, rfl, hX, hB⟩ := hrel
    have c0 : wr.cell? ⟨w.heap.size, 1, none⟩ = some (.slice A m.length cap) := by rw [blk_cell hX]; rfl
    have z0 := lt_of_block hX
    have HX := Lib.hid hX
    clear hX
    by_cases hlt : q < m.length
    · have hE := Lib.hid (sumV_take hlt)
      obtain ⟨b, off, rfl, hb, hc⟩ := HS.out.at_ hlt
      have d0 := (hB.cell (p := ⟨b, off + q * 2 + 1, none⟩) hb).trans (hc 1 (.int .i64 m[q].2) rfl)
      have lb : b < wr.heap.size := Nat.lt_of_lt_of_le hb hB.size
      have v1 := HV.out _ (List.getElem_mem hlt)
      have s0 := (sumV_take_le HV.out q).1
      have s1 := (sumV_take_le HV.out (q + 1)).2
      rw [hE.out] at s1
      obtain ⟨c, hc1⟩ : ∃ c, c = m[q].2 := ⟨_, rfl⟩
      rw [← hc1] at d0 v1 s1 hE
      obtain ⟨n, hn⟩ : ∃ n, n = sumR (m.take q) := ⟨_, rfl⟩
      rw [← hn] at s0 s1 hE ⊢
      have hsum : n + c ≤ 72057594037927935 := by omega
      clear hc s1 hn
      go_wp2_with fail
      go_roundw
      case rel => exact ⟨q + 1, by omega, by go_num, by (rw [hE.out]; try go_num), HX.out, hB⟩
      case measure => simp [intOf]; omega
    · obtain rfl : q = m.length := by omega
      rw [List.take_length]
      go_wp2_with fail
      go_ret
      exact ⟨rfl, hB⟩
theorem betwB_take {m : List Nd} {q : Nat} (h : q < m.length) (x y : Int) : betwB (m.take (q + 1)) x y = betwB (m.take q) x y + if x ≤ m[q].1 ∧ m[q].1 ≤ y then m[q].2 else 0 := by
  rw [List.take_succ_eq_append_getElem h, betwB_append, betwB_one]
theorem ref10_Between (w : World) (l : Int) (A : Option Addr) (cap : Nat) (m : List Nd) (x y : Int) (hS : Sl w w.heap.size encN A m) (hv : ∀ x ∈ m, 1 ≤ x.2) (hs : sumR m ≤ 72057594037927935) :
    Calls Try.prog 7 #[bagV l A m.length cap, .int .i64 x, .int .i64 y] w fun e w' => e = .returned (.int .i64 (betwB m x y)) ∧ Below w.heap.size w w' := by
  have hml : (m.length : Int) ≤ 72057594037927935 := by have := (sumR_pos hv).2; omega
  have HS := Lib.hid hS
  have HV := Lib.hid hv
  clear hS hv
  unfold bagV
  have X0 : Hid ((w.alloc (.cells #[.int .i64 l, .slice A m.length cap] 31)).heap[w.heap.size]? = some (.cells #[.int .i64 l, .slice A m.length cap] 31 (0, 0))) := Lib.hid (heap_alloc_new w _)
  go_enter Try.func7, Try.ntmps7
  go_wp2_with fail
  go_loopw [7, 8] (fun n j wr => ∃ q : Nat, q ≤ m.length ∧ j = .int .i64 q ∧ n = .int .i64 (betwB (m.take q) x y) ∧ wr.heap[w.heap.size]? = some (.cells #[.int .i64 l, .slice A m.length cap] 31 (0, 0)) ∧ Below w.heap.size w wr) (fun _ j _ => m.length - (intOf j).toNat)
  case atStart => exact ⟨0, Nat.zero_le _, rfl, rfl, X0.out, (by repeat (first | with_reducible exact Below.refl _ _ | with_reducible assumption | ((with_reducible refine Below.setCell ?_ ?_ _); rotate_left; · (first | omega | exact Nat.le_refl _ | (simp <;> omega))) | (with_reducible refine Below.allocW ?_ _) | (with_reducible refine Below.drew ?_) | (with_reducible refine Below.extW ?_ _)))⟩
  case round =>
    obtain ⟨q, hq, rfl, rfl, hX, hB⟩ := hrel
    have c0 : wr.cell? ⟨w.heap.size, 1, none⟩ = some (.slice A m.length cap) := by rw [blk_cell hX]; rfl
    have z0 := lt_of_block hX
    have HX := Lib.hid hX
    clear hX
    by_cases hlt : q < m.length
    · have hE := Lib.hid (betwB_take hlt x y)
      obtain ⟨b, off, rfl, hb, hc⟩ := HS.out.at_ hlt
      have d0 := (hB.cell (p := ⟨b, off + q * 2 + 1, none⟩) hb).trans (hc 1 (.int .i64 m[q].2) rfl)
      have d1 := (hB.cell (p := ⟨b, off + q * 2, none⟩) hb).trans (by have := hc 0 (.int .i64 m[q].1) rfl; simpa using this)
      have lb : b < wr.heap.size := Nat.lt_of_lt_of_le hb hB.size
      have v1 := HV.out _ (List.getElem_mem hlt)
      have s0 := (betwB_le (m := m.take q) (fun u hu => HV.out u (List.mem_of_mem_take hu)) x y)
      have s1 := (sumV_take_le HV.out (q + 1)).2
      rw [sumV_take hlt] at s1
      obtain ⟨c, hc1⟩ : ∃ c, c = m[q].2 := ⟨_, rfl⟩
      obtain ⟨v, hv1⟩ : ∃ v, v = m[q].1 := ⟨_, rfl⟩
      rw [← hc1] at d0 v1 s1 hE
      rw [← hv1] at d1 hE
      obtain ⟨n, hn⟩ : ∃ n, n = betwB (m.take q) x y := ⟨_, rfl⟩
      rw [← hn] at s0 hE ⊢
      have n0 := s0.1
      have hsum : n + c ≤ 72057594037927935 := by have := s0.2; omega
      clear hc s0 s1 hn hc1 hv1
      by_cases k1 : x ≤ v
      · by_cases k2 : v ≤ y
        · rw [if_pos ⟨k1, k2⟩] at hE
          go_wp2_with fail
          go_roundw
          case rel => exact ⟨q + 1, by omega, by go_num, by (rw [hE.out]; try go_num), HX.out, hB⟩
          case measure => simp [intOf]; omega
        · rw [if_neg (by omega)] at hE
          have k2' : decide (v ≤ y) = false := by simpa using k2
          go_wp2_with fail
          go_roundw
          case rel => exact ⟨q + 1, by omega, by go_num, by rw [hE.out, Int.add_zero], HX.out, hB⟩
          case measure => simp [intOf]; omega
      · rw [if_neg (by omega)] at hE
        have k1' : decide (x ≤ v) = false := by simpa using k1
        go_wp2_with fail
        go_roundw
        case rel => exact ⟨q + 1, by omega, by go_num, by rw [hE.out, Int.add_zero], HX.out, hB⟩
        case measure => simp [intOf]; omega
    · obtain rfl : q = m.length := by omega
      rw [List.take_length]
      go_wp2_with fail
      go_ret
      exact ⟨rfl, hB⟩
end Go.Proofs.Ytcjnchjmpkapmaa
/- Reference 10: put. -/
namespace Go.Proofs.Ytcjnchjmpkapmaa
open Go.ChangeShapes Go.WideShapes Go.ChangeAt Go.RowKit
set_option linter.unusedVariables false
set_option linter.unusedSimpArgs false
set_option maxRecDepth 100000

def putL : List Nd → Int → Int → Bool → List Nd
  | [], x, c, d => if d = true then [] else [(x, c)]
  | z :: m, x, c, d => if z.1 = x then (z.1, z.2 + c) :: putL m x c true else if x < z.1 ∧ d = false then (x, c) :: z :: putL m x c true else z :: putL m x c d
theorem putL_done {m : List Nd} {x : Int} (h : ∀ z ∈ m, x < z.1) (c : Int) : putL m x c true = m := by
  induction m with
  | nil => rfl
  | cons z m ih =>
    have := h z (by simp)
    simp only [putL]
    rw [if_neg (by omega : ¬ z.1 = x), if_neg (by simp : ¬ (x < z.1 ∧ true = false)), ih fun y hy => h y (by simp [hy])]
theorem putL_addR {m : List Nd} (hup : m.Pairwise fun a b => a.1 < b.1) (x c : Int) : putL m x c false = addR m x c := by
  induction m with
  | nil => rfl
  | cons z m ih =>
    obtain ⟨u1, u2⟩ := List.pairwise_cons.1 hup
    simp only [putL, addR]
    by_cases h1 : z.1 = x
    · rw [if_pos h1, if_pos h1, putL_done (fun y hy => by have := u1 y hy; omega)]; rw [h1]
    · rw [if_neg h1, if_neg h1]
      by_cases h2 : x < z.1
      · rw [if_pos (show x < z.1 ∧ True from ⟨h2, trivial⟩), if_pos h2, putL_done fun y hy => by have := u1 y hy; omega]
      · rw [if_neg (by omega), if_neg h2, ih u2]
theorem putL_eq {z : Nd} {x c : Int} {d : Bool} {L m : List Nd} (h : z.1 = x) : L ++ putL (z :: m) x c d = (L ++ [(z.1, z.2 + c)]) ++ putL m x c true := by simp [putL, h]
theorem putL_new {z : Nd} {x c : Int} {L m : List Nd} (h : x < z.1) : L ++ putL (z :: m) x c false = ((L ++ [(x, c)]) ++ [z]) ++ putL m x c true := by
  simp only [putL]
  rw [if_neg (by omega : ¬ z.1 = x), if_pos (show x < z.1 ∧ True from ⟨h, trivial⟩)]; simp
theorem putL_old {z : Nd} {x c : Int} {d : Bool} {L m : List Nd} (h1 : z.1 ≠ x) (h2 : ¬ (x < z.1 ∧ d = false)) : L ++ putL (z :: m) x c d = (L ++ [z]) ++ putL m x c d := by
  simp only [putL]
  rw [if_neg h1, if_neg h2]; simp
set_option maxHeartbeats 8000000 in
theorem ref10_put (w : World) (l : Int) (A : Option Addr) (cap : Nat) (m : List Nd) (x c : Int) (hS : Sl w w.heap.size encN A m) (hup : m.Pairwise fun a b => a.1 < b.1) (hv : ∀ x ∈ m, 1 ≤ x.2) (hc : 1 ≤ c) (hs : sumR m + c ≤ 72057594037927935) (hlen : m.length ≤ 65536) :
    Calls Try.prog 25 #[bagV l A m.length cap, .int .i64 x, .int .i64 c] w fun e w' => ∃ A' cap', e = .returned (bagV l A' (addR m x c).length cap') ∧ SlT w' 59 encN A' (addR m x c) ∧ Below w.heap.size w w' := by
  have HS := Lib.hid hS
  have HV := Lib.hid hv
  have HA := Lib.hid (putL_addR hup x c)
  have HN := Lib.hid hs
  clear hS hv hup
  unfold bagV
  have X0 : Hid (((w.alloc (.cells #[.int .i64 l, .slice A m.length cap] 31)).alloc (.cells #[.int .i64 0, .slice none 0 0] 31)).heap[w.heap.size]? = some (.cells #[.int .i64 l, .slice A m.length cap] 31 (0, 0))) := Lib.hid ((heap_new_lt _ _ _ (by simp)).trans (heap_alloc_new w _))
  have X1 : Hid (((w.alloc (.cells #[.int .i64 l, .slice A m.length cap] 31)).alloc (.cells #[.int .i64 0, .slice none 0 0] 31)).heap[w.heap.size + 1]? = some (.cells #[.int .i64 0, .slice none 0 0] 31 (0, 0))) := Lib.hid (heap_new_at (w.alloc _) _ _ (by simp))
  have BW0 : Hid (Below w.heap.size w ((w.alloc (.cells #[.int .i64 l, .slice A m.length cap] 31)).alloc (.cells #[.int .i64 0, .slice none 0 0] 31))) := Lib.hid (by repeat (first | with_reducible exact Below.refl _ _ | with_reducible assumption | ((with_reducible refine Below.setCell ?_ ?_ _); rotate_left; · (first | omega | exact Nat.le_refl _ | (simp <;> omega))) | (with_reducible refine Below.allocW ?_ _) | (with_reducible refine Below.drew ?_) | (with_reducible refine Below.extW ?_ _)))
  have Z0 : Hid (((w.alloc (.cells #[.int .i64 l, .slice A m.length cap] 31)).alloc (.cells #[.int .i64 0, .slice none 0 0] 31)).heap.size = w.heap.size + 1 + 1) := Lib.hid (by simp)
  go_enter Try.func25, Try.ntmps25
  go_upto_region 1 with fail
  generalize (w.alloc (.cells #[.int .i64 l, .slice A m.length cap] 31)).alloc (.cells #[.int .i64 0, .slice none 0 0] 31) = W0 at X0 X1 BW0 Z0 ⊢
  have S0 := Lib.hid (HS.out.keep (B' := W0.heap.size) BW0.out.size fun p hp => BW0.out.cell hp)
  clear HS
  go_wp2_with fail
  go_loopw [7, 8, 9] (fun o d j wr => ∃ (q : Nat) (L : List Nd) (f : Bool), q ≤ m.length ∧ j = .int .i64 q ∧ d = .bool f ∧ Own wr W0.heap.size 59 encN o L ∧ L ++ putL (m.drop q) x c f = addR m x c ∧ L.length ≤ 2 * q ∧ Below W0.heap.size W0 wr) (fun _ _ j _ => m.length - (intOf j).toNat)
  case atStart => exact ⟨0, [], false, Nat.zero_le _, rfl, rfl, .nil _ _ _ _, HA.out, by simp, Below.refl _ _⟩
  case round =>
    obtain ⟨q, L, f, hq, rfl, rfl, ho, hL, hLl, hB⟩ := hrel
    obtain ⟨Ao, co, rfl, _⟩ := ho.form
    have hX := blk_below X0.out hB
    have c0 : wr.cell? ⟨w.heap.size, 1, none⟩ = some (.slice A m.length cap) := by rw [blk_cell hX]; rfl
    have c00 : wr.cell? ⟨w.heap.size, 0, none⟩ = some (.int .i64 l) := by rw [blk_cell hX]; rfl
    have z0 := lt_of_block hX
    have HO := Lib.hid ho
    have HL := Lib.hid hL
    have SZ := Lib.hid hB.size
    clear hX ho hL
    by_cases hlt : q < m.length
    · have hE := HL.out
      rw [List.drop_eq_getElem_cons hlt] at hE
      obtain ⟨b, off, rfl, hb, hc2⟩ := S0.out.at_ hlt
      have d0 := (hB.cell (p := ⟨b, off + q * 2 + 1, none⟩) hb).trans (hc2 1 (.int .i64 m[q].2) rfl)
      have d1 := (hB.cell (p := ⟨b, off + q * 2, none⟩) hb).trans (by have := hc2 0 (.int .i64 m[q].1) rfl; simpa using this)
      have lb : b < wr.heap.size := Nat.lt_of_lt_of_le hb hB.size
      have v1 := HV.out _ (List.getElem_mem hlt)
      have s1 : m[q].2 + c ≤ 72057594037927935 := by have := sum_part HV.out hlt; have := HN.out; omega
      obtain ⟨y, hy⟩ : ∃ y : Nd, y = m[q] := ⟨_, rfl⟩
      rw [← hy] at d0 d1 v1 s1 hE
      obtain ⟨u, v⟩ := y
      simp only at d0 d1 v1 s1
      clear hc2 hy
      by_cases k1 : u = x
      · subst k1
        rw [putL_eq rfl] at hE
        have HE := Lib.hid hE
        clear hE
        have sz := SZ.out
        have OA := Lib.hid (HO.out.alloc (.cells #[.int .i64 u, .int .i64 (v + c)] 59))
        have BM := Lib.hid (show Below W0.heap.size W0 (wr.alloc (.cells #[.int .i64 u, .int .i64 (v + c)] 59)) from (by repeat (first | with_reducible exact Below.refl _ _ | with_reducible assumption | ((with_reducible refine Below.setCell ?_ ?_ _); rotate_left; · (first | omega | exact Nat.le_refl _ | (simp <;> omega))) | (with_reducible refine Below.allocW ?_ _) | (with_reducible refine Below.drew ?_) | (with_reducible refine Below.extW ?_ _))))
        have wfu : (decide (u ≤ u)) = true := by simp
        go_wp2_with ((at_builtin; refine wpList_push tyRd rfl _ _ rfl encN (wr.alloc (.cells #[.int .i64 u, .int .i64 (v + c)] 59)) W0.heap.size (.slice Ao L.length co) L rfl OA.out (u, v + c) (by go_simp) rfl ?c1 ?c2 ?c3 ?c4))
        case c1 => (try simp only [List.length_append, List.length_cons, List.length_nil]); omega
        case c2 => (try simp only [maxLen, List.length_append, List.length_cons, List.length_nil]); omega
        case c3 => (try simp [World.setCell]); omega
        case c4 =>
          intro v5 w5 ho5 _ _ _ hb5 _
          have H5 := Lib.hid (And.intro ho5 hb5)
          clear ho5 hb5
          go_wp2_with fail
          go_roundw
          case rel => exact ⟨q + 1, L ++ [(u, v + c)], true, by omega, by go_num, rfl, H5.out.1, HE.out, by simp; omega, BM.out.trans H5.out.2⟩
          case measure => simp [intOf]; omega
      · have k1' : (u == x) = false := by simpa using k1
        have sz := SZ.out
        have OA := Lib.hid (HO.out.alloc (.cells #[.int .i64 u, .int .i64 v] 59))
        have BM := Lib.hid (show Below W0.heap.size W0 (wr.alloc (.cells #[.int .i64 u, .int .i64 v] 59)) from (by repeat (first | with_reducible exact Below.refl _ _ | with_reducible assumption | ((with_reducible refine Below.setCell ?_ ?_ _); rotate_left; · (first | omega | exact Nat.le_refl _ | (simp <;> omega))) | (with_reducible refine Below.allocW ?_ _) | (with_reducible refine Below.drew ?_) | (with_reducible refine Below.extW ?_ _))))
        by_cases k2 : x < u
        · cases f
          · rw [putL_new k2] at hE
            have HE := Lib.hid hE
            clear hE
            go_wp2_with ((at_builtin; refine wpList_push tyRd rfl _ _ rfl encN (wr.alloc (.cells #[.int .i64 u, .int .i64 v] 59)) W0.heap.size (.slice Ao L.length co) L rfl OA.out (x, c) (by go_simp) rfl ?c1 ?c2 ?c3 ?c4))
            case c1 => (try simp only [List.length_append, List.length_cons, List.length_nil]); omega
            case c2 => (try simp only [maxLen, List.length_append, List.length_cons, List.length_nil]); omega
            case c3 => (try simp [World.setCell]); omega
            case c4 =>
              intro v5 w5 ho5 hg5 hs5 _ hb5 _
              obtain ⟨A5, c5, rfl, _⟩ := ho5.form
              have hy5 := blk_grown_not (heap_alloc_new wr (.cells #[.int .i64 u, .int .i64 v] 59)) hg5 (HO.out.not_at _ (Nat.le_refl _))
              have cy5 := blk_cell hy5
              have zy5 := lt_of_block hy5
              have O5 := Lib.hid ho5
              have B5 := Lib.hid (BM.out.trans hb5)
              have s5 := B5.out.size
              clear ho5 hg5 hb5
              go_wp2_with ((at_builtin; refine wpList_push tyRd rfl _ _ rfl encN w5 W0.heap.size (.slice A5 (L ++ [(x, c)]).length c5) (L ++ [(x, c)]) rfl O5.out (u, v) (by go_simp) rfl ?c1 ?c2 ?c3 ?c4))
              case c1 => (try simp only [List.length_append, List.length_cons, List.length_nil]); omega
              case c2 => (try simp only [maxLen, List.length_append, List.length_cons, List.length_nil]); omega
              case c3 => (try simp [World.setCell]); omega
              case c4 =>
                intro v6 w6 ho6 _ _ _ hb6 _
                have H6 := Lib.hid (And.intro ho6 hb6)
                clear ho6 hb6
                go_wp2_with fail
                go_roundw
                case rel => exact ⟨q + 1, L ++ [(x, c), (u, v)], true, by omega, by go_num, rfl, H6.out.1, by have := HE.out; simpa using this, by simp; omega, B5.out.trans H6.out.2⟩
                case measure => simp [intOf]; omega
          · rw [putL_old k1 (by simp)] at hE
            have HE := Lib.hid hE
            clear hE
            go_wp2_with ((at_builtin; refine wpList_push tyRd rfl _ _ rfl encN (wr.alloc (.cells #[.int .i64 u, .int .i64 v] 59)) W0.heap.size (.slice Ao L.length co) L rfl OA.out (u, v) (by go_simp) rfl ?c1 ?c2 ?c3 ?c4))
            case c1 => (try simp only [List.length_append, List.length_cons, List.length_nil]); omega
            case c2 => (try simp only [maxLen, List.length_append, List.length_cons, List.length_nil]); omega
            case c3 => (try simp [World.setCell]); omega
            case c4 =>
              intro v5 w5 ho5 _ _ _ hb5 _
              have H5 := Lib.hid (And.intro ho5 hb5)
              clear ho5 hb5
              go_wp2_with fail
              go_roundw
              case rel => exact ⟨q + 1, L ++ [(u, v)], true, by omega, by go_num, rfl, H5.out.1, HE.out, by simp; omega, BM.out.trans H5.out.2⟩
              case measure => simp [intOf]; omega
        · rw [putL_old k1 (by omega)] at hE
          have k2' : decide (x < u) = false := by simpa using k2
          have HE := Lib.hid hE
          clear hE
          go_wp2_with ((at_builtin; refine wpList_push tyRd rfl _ _ rfl encN (wr.alloc (.cells #[.int .i64 u, .int .i64 v] 59)) W0.heap.size (.slice Ao L.length co) L rfl OA.out (u, v) (by go_simp) rfl ?c1 ?c2 ?c3 ?c4))
          case c1 => (try simp only [List.length_append, List.length_cons, List.length_nil]); omega
          case c2 => (try simp only [maxLen, List.length_append, List.length_cons, List.length_nil]); omega
          case c3 => (try simp [World.setCell]); omega
          case c4 =>
            intro v5 w5 ho5 _ _ _ hb5 _
            have H5 := Lib.hid (And.intro ho5 hb5)
            clear ho5 hb5
            go_wp2_with fail
            go_roundw
            case rel => exact ⟨q + 1, L ++ [(u, v)], f, by omega, by go_num, rfl, H5.out.1, HE.out, by simp; omega, BM.out.trans H5.out.2⟩
            case measure => simp [intOf]; omega
    · obtain rfl : q = m.length := by omega
      have hE := HL.out
      rw [List.drop_length] at hE
      have sz := SZ.out
      have hX1 := blk_below X1.out hB
      have c3 := blk_cell hX1
      have f3 := blk_frozen hX1
      have z3 := lt_of_block hX1
      have X1c := Lib.hid hX1
      have XC := Lib.hid (blk_below X0.out hB)
      have HB := Lib.hid (BW0.out.trans (hB.mono BW0.out.size))
      cases f
      · simp only [putL, Bool.false_eq_true, if_false] at hE
        have HE := Lib.hid hE
        clear hE hX1
        go_wp2_with ((at_builtin; refine wpList_push tyRd rfl _ _ rfl encN wr W0.heap.size (.slice Ao L.length co) L rfl HO.out (x, c) (by go_simp) rfl ?c1 ?c2 ?c3 ?c4))
        case c1 => (try simp only [List.length_append, List.length_cons, List.length_nil]); omega
        case c2 => (try simp only [maxLen, List.length_append, List.length_cons, List.length_nil]); omega
        case c3 => (try simp [World.setCell]); omega
        case c4 =>
          intro v5 w5 ho5 hg5 hs5 _ hb5 _
          obtain ⟨A5, cc5, rfl, _⟩ := ho5.form
          rw [HE.out] at ho5 ⊢
          have O5 := Lib.hid ho5
          have hX5 : w5.heap[w.heap.size + 1]? = _ := (hb5.block _ (by have := Z0.out; omega)).trans X1c.out
          have hX0 : w5.heap[w.heap.size]? = _ := (hb5.block _ (by have := Z0.out; omega)).trans XC.out
          have c5 := blk_cell hX5
          have f5 := blk_frozen hX5
          have z5 := lt_of_block hX5
          have c50 : w5.cell? ⟨w.heap.size, 0, none⟩ = some (.int .i64 l) := by rw [blk_cell hX0]; rfl
          have B5 := Lib.hid (HB.out.trans (hb5.mono (by have := Z0.out; omega)))
          clear c0 c00 c3 f3 z3 z0 ho5 hg5 hs5 hb5 hX5 hX0
          go_wp2_with fail
          exact bodyPost_ret (v := .agg #[.int .i64 l, .slice A5 (addR m x c).length cc5]) (by simp only [results, Try.results25]; go_simp) rfl ⟨_, _, rfl, (((O5.out.setCellB (p := ⟨w.heap.size + 1, 0, none⟩) (by have := Z0.out; simp only; omega)).setCellB (p := ⟨w.heap.size + 1, 1, none⟩) (by have := Z0.out; simp only; omega)).slT), Below.setCell (p := ⟨w.heap.size + 1, 1, none⟩) (Below.setCell (p := ⟨w.heap.size + 1, 0, none⟩) B5.out (by simp) _) (by simp) _⟩
      · simp only [putL, if_true, List.append_nil] at hE
        subst hE
        go_wp2_with fail
        exact bodyPost_ret (v := .agg #[.int .i64 l, .slice Ao (addR m x c).length co]) (by simp only [results, Try.results25]; go_simp) rfl ⟨_, _, rfl, (((HO.out.setCellB (p := ⟨w.heap.size + 1, 0, none⟩) (by have := Z0.out; simp only; omega)).setCellB (p := ⟨w.heap.size + 1, 1, none⟩) (by have := Z0.out; simp only; omega)).slT), Below.setCell (p := ⟨w.heap.size + 1, 1, none⟩) (Below.setCell (p := ⟨w.heap.size + 1, 0, none⟩) HB.out (by simp) _) (by simp) _⟩
end Go.Proofs.Ytcjnchjmpkapmaa
/- Reference 10: Add. -/
namespace Go.Proofs.Ytcjnchjmpkapmaa
open Go.ChangeShapes Go.WideShapes Go.ChangeAt Go.RowKit
set_option linter.unusedVariables false
set_option linter.unusedSimpArgs false
set_option maxRecDepth 100000

set_option maxHeartbeats 4000000 in
theorem ref10_Add (w : World) (l : Nat) (A : Option Addr) (cap : Nat) (m : List Nd) (x c : Int) (hl : 1 ≤ l ∧ l ≤ 48) (hS : SlT w 59 encN A m) (hm : BagL l m) (hlen : m.length ≤ 65536) (hc2 : c ≤ 9223372036854775807) :
    Calls Try.prog 12 #[bagV l A m.length cap, .int .i64 x, .int .i64 c] w fun e w' => ∃ A' cap', e = .returned (.tuple #[bagV l A' (addB l m x c).1.length cap', .int .i64 (addB l m x c).2]) ∧ SlT w' 59 encN A' (addB l m x c).1 ∧ Below w.heap.size w w' := by
  have HS := Lib.hid hS
  have HP := Lib.hid (fun W => ref2_Power W l (by omega))
  have hval : ∀ x ∈ m, 1 ≤ x.2 := fun y hy => (hm.val y hy).2.2
  have HT := Lib.hid (fun W h => ref10_Total W l A cap m h hval hm.sum)
  have hsum := hm.sum
  have hsum0 := hm.sum0
  have HU := Lib.hid hm.up
  have HVAL := Lib.hid hval
  unfold bagV at HT ⊢
  clear hS hval hm
  have X0 : Hid (((w.alloc (.cells #[.int .i64 l, .slice A m.length cap] 31)).alloc (.cells #[.int .i64 0, .slice none 0 0] 31)).heap[w.heap.size]? = some (.cells #[.int .i64 l, .slice A m.length cap] 31 (0, 0))) := Lib.hid ((heap_new_lt _ _ _ (by simp)).trans (heap_alloc_new w _))
  have X1 : Hid (((w.alloc (.cells #[.int .i64 l, .slice A m.length cap] 31)).alloc (.cells #[.int .i64 0, .slice none 0 0] 31)).heap[w.heap.size + 1]? = some (.cells #[.int .i64 0, .slice none 0 0] 31 (0, 0))) := Lib.hid (heap_new_at (w.alloc _) _ _ (by simp))
  have BW0 : Hid (Below w.heap.size w ((w.alloc (.cells #[.int .i64 l, .slice A m.length cap] 31)).alloc (.cells #[.int .i64 0, .slice none 0 0] 31))) := Lib.hid (by repeat (first | with_reducible exact Below.refl _ _ | with_reducible assumption | ((with_reducible refine Below.setCell ?_ ?_ _); rotate_left; · (first | omega | exact Nat.le_refl _ | (simp <;> omega))) | (with_reducible refine Below.allocW ?_ _) | (with_reducible refine Below.drew ?_) | (with_reducible refine Below.extW ?_ _)))
  have Z0 : Hid (((w.alloc (.cells #[.int .i64 l, .slice A m.length cap] 31)).alloc (.cells #[.int .i64 0, .slice none 0 0] 31)).heap.size = w.heap.size + 1 + 1) := Lib.hid (by simp)
  obtain ⟨p, hp⟩ : ∃ p : Int, p = 2 ^ l := ⟨_, rfl⟩
  have hv : isVal l x = (decide (0 ≤ x) && decide (x < p)) := by unfold isVal; rw [hp]
  rw [← hp] at HP
  have KS : Hid (∀ W', Below w.heap.size w W' → SlT W' 59 encN A m) := Lib.hid fun W' hb => HS.out.below hb
  have cd : c < 1 ∨ decide (c < 1) = false := by
    by_cases h : c < 1
    · exact .inl h
    · exact .inr (decide_eq_false h)
  by_cases h1 : x < 0
  · have e1 : addB l m x c = (m, 3) := by unfold addB; rw [if_pos (by rw [hv]; simp; omega)]
    rw [e1]
    clear e1 hv hp
    go_enter Try.func12, Try.ntmps12
    go_wp2_with fail
    exact bodyPost_ret (v := .tuple #[.agg #[.int .i64 l, .slice A m.length cap], .int .i64 3]) (by simp only [results, Try.results12]; go_simp) rfl ⟨A, cap, rfl, KS.out _ (by repeat (first | with_reducible exact Below.refl _ _ | with_reducible assumption | ((with_reducible refine Below.setCell ?_ ?_ _); rotate_left; · (first | omega | exact Nat.le_refl _ | (simp <;> omega))) | (with_reducible refine Below.allocW ?_ _) | (with_reducible refine Below.drew ?_) | (with_reducible refine Below.extW ?_ _))), (by repeat (first | with_reducible exact Below.refl _ _ | with_reducible assumption | ((with_reducible refine Below.setCell ?_ ?_ _); rotate_left; · (first | omega | exact Nat.le_refl _ | (simp <;> omega))) | (with_reducible refine Below.allocW ?_ _) | (with_reducible refine Below.drew ?_) | (with_reducible refine Below.extW ?_ _)))⟩
  · have h1' : decide (x < 0) = false := by simpa using h1
    by_cases h2 : p ≤ x
    · have e1 : addB l m x c = (m, 3) := by unfold addB; rw [if_pos (by rw [hv]; simp; omega)]
      rw [e1]
      clear e1 hv hp
      go_enter Try.func12, Try.ntmps12
      go_upto_region 1 with fail
      generalize (w.alloc (.cells #[.int .i64 l, .slice A m.length cap] 31)).alloc (.cells #[.int .i64 0, .slice none 0 0] 31) = W0 at X0 X1 BW0 Z0 ⊢
      have c0 := blk_cell X0.out
      have z0 := lt_of_block X0.out
      go_wp2_with fail
      refine (HP.out _).mono ?_
      rintro e w1 ⟨rfl, hb1⟩
      have Y0 := blk_below X0.out hb1
      have Y1 := blk_below X1.out hb1
      have B1 := Lib.hid (BW0.out.trans (hb1.mono BW0.out.size))
      have hz1 : w.heap.size + 1 + 1 ≤ w1.heap.size := by have := hb1.size; have := Z0.out; omega
      clear c0 z0 X0 X1 hb1
      have c1 : w1.cell? ⟨w.heap.size, 0, none⟩ = some (.int .i64 l) := by rw [blk_cell Y0]; rfl
      have c2 : w1.cell? ⟨w.heap.size, 1, none⟩ = some (.slice A m.length cap) := by rw [blk_cell Y0]; rfl
      have z1 := lt_of_block Y0
      have d1 := blk_cell Y1
      have f1 := blk_frozen Y1
      have z2 := lt_of_block Y1
      go_wp2_with fail
      exact bodyPost_ret (v := .tuple #[.agg #[.int .i64 l, .slice A m.length cap], .int .i64 3]) (by simp only [results, Try.results12]; go_simp) rfl ⟨A, cap, rfl, KS.out _ (Below.setCell (p := ⟨w.heap.size + 1, 1, none⟩) (Below.setCell (p := ⟨w.heap.size + 1, 0, none⟩) B1.out (by simp) _) (by simp) _), (Below.setCell (p := ⟨w.heap.size + 1, 1, none⟩) (Below.setCell (p := ⟨w.heap.size + 1, 0, none⟩) B1.out (by simp) _) (by simp) _)⟩
    · have h2' : decide (p ≤ x) = false := by simpa using h2
      have hv1 : isVal l x = true := by rw [hv]; simp; omega
      have HV1 := Lib.hid (show ¬ (isVal l x = false) by simp [hv1])
      clear hv hp hv1
      rcases cd with h3 | h3
      · have e1 : addB l m x c = (m, 4) := by unfold addB; rw [if_neg HV1.out, if_pos h3]
        rw [e1]
        clear e1
        go_enter Try.func12, Try.ntmps12
        go_upto_region 1 with fail
        generalize (w.alloc (.cells #[.int .i64 l, .slice A m.length cap] 31)).alloc (.cells #[.int .i64 0, .slice none 0 0] 31) = W0 at X0 X1 BW0 Z0 ⊢
        have c0 := blk_cell X0.out
        have z0 := lt_of_block X0.out
        go_wp2_with fail
        refine (HP.out _).mono ?_
        rintro e w1 ⟨rfl, hb1⟩
        have Y0 := blk_below X0.out hb1
        have Y1 := blk_below X1.out hb1
        have B1 := Lib.hid (BW0.out.trans (hb1.mono BW0.out.size))
        have hz1 : w.heap.size + 1 + 1 ≤ w1.heap.size := by have := hb1.size; have := Z0.out; omega
        clear c0 z0 X0 X1 hb1
        have c1 : w1.cell? ⟨w.heap.size, 0, none⟩ = some (.int .i64 l) := by rw [blk_cell Y0]; rfl
        have c2 : w1.cell? ⟨w.heap.size, 1, none⟩ = some (.slice A m.length cap) := by rw [blk_cell Y0]; rfl
        have z1 := lt_of_block Y0
        have d1 := blk_cell Y1
        have f1 := blk_frozen Y1
        have z2 := lt_of_block Y1
        go_wp2_with fail
        exact bodyPost_ret (v := .tuple #[.agg #[.int .i64 l, .slice A m.length cap], .int .i64 4]) (by simp only [results, Try.results12]; go_simp) rfl ⟨A, cap, rfl, KS.out _ (Below.setCell (p := ⟨w.heap.size + 1, 1, none⟩) (Below.setCell (p := ⟨w.heap.size + 1, 0, none⟩) B1.out (by simp) _) (by simp) _), (Below.setCell (p := ⟨w.heap.size + 1, 1, none⟩) (Below.setCell (p := ⟨w.heap.size + 1, 0, none⟩) B1.out (by simp) _) (by simp) _)⟩
      · have h3' : ¬ c < 1 := by simpa using h3
        by_cases h4 : 72057594037927935 < sumR m + c
        · have e1 : addB l m x c = (m, 5) := by unfold addB; rw [if_neg HV1.out, if_neg h3', if_pos h4]
          rw [e1]
          clear e1
          obtain ⟨n, hn⟩ : ∃ n, n = sumR m := ⟨_, rfl⟩
          rw [← hn] at HT hsum hsum0 h4
          have h4' : 72057594037927935 - n < c := by omega
          clear hn h4
          go_enter Try.func12, Try.ntmps12
          go_upto_region 1 with fail
          generalize (w.alloc (.cells #[.int .i64 l, .slice A m.length cap] 31)).alloc (.cells #[.int .i64 0, .slice none 0 0] 31) = W0 at X0 X1 BW0 Z0 ⊢
          have c0 := blk_cell X0.out
          have z0 := lt_of_block X0.out
          go_wp2_with fail
          refine (HP.out _).mono ?_
          rintro e w1 ⟨rfl, hb1⟩
          have Y0 := blk_below X0.out hb1
          have Y1 := blk_below X1.out hb1
          have B1 := Lib.hid (BW0.out.trans (hb1.mono BW0.out.size))
          have hz1 : w.heap.size + 1 + 1 ≤ w1.heap.size := by have := hb1.size; have := Z0.out; omega
          clear c0 z0 X0 X1 hb1
          have c1 : w1.cell? ⟨w.heap.size, 0, none⟩ = some (.int .i64 l) := by rw [blk_cell Y0]; rfl
          have c2 : w1.cell? ⟨w.heap.size, 1, none⟩ = some (.slice A m.length cap) := by rw [blk_cell Y0]; rfl
          have z1 := lt_of_block Y0
          have d1 := blk_cell Y1
          have f1 := blk_frozen Y1
          have z2 := lt_of_block Y1
          go_wp2_with fail
          refine (HT.out _ (KS.out _ B1.out).sl).mono ?_
          rintro e w2 ⟨rfl, hb2⟩
          have Y0' := blk_below Y0 hb2
          have Y1' := blk_below Y1 hb2
          have B2 := Lib.hid (B1.out.trans (hb2.mono B1.out.size))
          have hz2 : w.heap.size + 1 + 1 ≤ w2.heap.size := by have := hb2.size; omega
          clear c1 c2 z1 d1 f1 z2 Y0 Y1
          have c1 : w2.cell? ⟨w.heap.size, 0, none⟩ = some (.int .i64 l) := by rw [blk_cell Y0']; rfl
          have c2 : w2.cell? ⟨w.heap.size, 1, none⟩ = some (.slice A m.length cap) := by rw [blk_cell Y0']; rfl
          have z1 := lt_of_block Y0'
          have d1 := blk_cell Y1'
          have f1 := blk_frozen Y1'
          have z2 := lt_of_block Y1'
          go_wp2_with fail
          exact bodyPost_ret (v := .tuple #[.agg #[.int .i64 l, .slice A m.length cap], .int .i64 5]) (by simp only [results, Try.results12]; go_simp) rfl ⟨A, cap, rfl, KS.out _ (Below.setCell (p := ⟨w.heap.size + 1, 1, none⟩) (Below.setCell (p := ⟨w.heap.size + 1, 0, none⟩) B2.out (by simp) _) (by simp) _), (Below.setCell (p := ⟨w.heap.size + 1, 1, none⟩) (Below.setCell (p := ⟨w.heap.size + 1, 0, none⟩) B2.out (by simp) _) (by simp) _)⟩
        · have e1 : addB l m x c = (addR m x c, 0) := by unfold addB; rw [if_neg HV1.out, if_neg h3', if_neg h4]
          rw [e1]
          clear e1
          have HPut := Lib.hid (fun W h => ref10_put W l A cap m x c h HU.out HVAL.out (by omega) (by omega) hlen)
          unfold bagV at HPut
          obtain ⟨n, hn⟩ : ∃ n, n = sumR m := ⟨_, rfl⟩
          rw [← hn] at HT hsum hsum0 h4
          have h4' : decide (72057594037927935 - n < c) = false := by simp; omega
          clear hn h4
          go_enter Try.func12, Try.ntmps12
          go_upto_region 1 with fail
          generalize (w.alloc (.cells #[.int .i64 l, .slice A m.length cap] 31)).alloc (.cells #[.int .i64 0, .slice none 0 0] 31) = W0 at X0 X1 BW0 Z0 ⊢
          have c0 := blk_cell X0.out
          have z0 := lt_of_block X0.out
          go_wp2_with fail
          refine (HP.out _).mono ?_
          rintro e w1 ⟨rfl, hb1⟩
          have Y0 := blk_below X0.out hb1
          have Y1 := blk_below X1.out hb1
          have B1 := Lib.hid (BW0.out.trans (hb1.mono BW0.out.size))
          have hz1 : w.heap.size + 1 + 1 ≤ w1.heap.size := by have := hb1.size; have := Z0.out; omega
          clear c0 z0 X0 X1 hb1
          have c1 : w1.cell? ⟨w.heap.size, 0, none⟩ = some (.int .i64 l) := by rw [blk_cell Y0]; rfl
          have c2 : w1.cell? ⟨w.heap.size, 1, none⟩ = some (.slice A m.length cap) := by rw [blk_cell Y0]; rfl
          have z1 := lt_of_block Y0
          have d1 := blk_cell Y1
          have f1 := blk_frozen Y1
          have z2 := lt_of_block Y1
          go_wp2_with fail
          refine (HT.out _ (KS.out _ B1.out).sl).mono ?_
          rintro e w2 ⟨rfl, hb2⟩
          have Y0' := blk_below Y0 hb2
          have Y1' := blk_below Y1 hb2
          have B2 := Lib.hid (B1.out.trans (hb2.mono B1.out.size))
          have hz2 : w.heap.size + 1 + 1 ≤ w2.heap.size := by have := hb2.size; omega
          clear c1 c2 z1 d1 f1 z2 Y0 Y1
          have c1 : w2.cell? ⟨w.heap.size, 0, none⟩ = some (.int .i64 l) := by rw [blk_cell Y0']; rfl
          have c2 : w2.cell? ⟨w.heap.size, 1, none⟩ = some (.slice A m.length cap) := by rw [blk_cell Y0']; rfl
          have z1 := lt_of_block Y0'
          have d1 := blk_cell Y1'
          have f1 := blk_frozen Y1'
          have z2 := lt_of_block Y1'
          go_wp2_with fail
          refine (HPut.out _ (KS.out _ B2.out).sl).mono ?_
          rintro e w3 ⟨A3, cap3, rfl, hS3, hb3⟩
          have B3 := Lib.hid (B2.out.trans (hb3.mono B2.out.size))
          have Y3 := blk_below Y1' hb3
          have hz3 : w.heap.size + 1 + 1 ≤ w3.heap.size := by have := hb3.size; omega
          have d3 := blk_cell Y3
          have f3 := blk_frozen Y3
          have z3 := lt_of_block Y3
          have S3 := Lib.hid hS3
          clear c1 c2 z1 d1 f1 z2 Y0' Y1' hS3 hb3
          go_wp2_with fail
          have T3 : TypeAt w3 (w.heap.size + 1) 31 := TypeAt.of Y3
          exact bodyPost_ret (v := .tuple #[.agg #[.int .i64 l, .slice A3 (addR m x c).length cap3], .int .i64 0]) (by simp only [results, Try.results12]; go_simp) rfl ⟨A3, cap3, rfl, (S3.out.setCellT (p := ⟨w.heap.size + 1, 0, none⟩) (u := .int .i64 l) T3 (by decide)).setCellT (p := ⟨w.heap.size + 1, 1, none⟩) T3.setCell (by decide), Below.setCell (p := ⟨w.heap.size + 1, 1, none⟩) (Below.setCell (p := ⟨w.heap.size + 1, 0, none⟩) B3.out (by simp) _) (by simp) _⟩
end Go.Proofs.Ytcjnchjmpkapmaa
/- Chapter 10: bags that are made of readings. -/
namespace Go.Proofs.Ytcjnchjmpkapmaa
open Go.ChangeShapes Go.WideShapes Go.ChangeAt Go.RowKit
set_option linter.unusedVariables false
set_option linter.unusedSimpArgs false
set_option maxRecDepth 100000

def madeB (l : Nat) (r : List Nd) : List Nd := r.foldl (fun m z => (addB l m z.1 z.2).1) []
end Go.Proofs.Ytcjnchjmpkapmaa
/- How many nodes there are: once nothing can be folded, and ever. Plain laws. -/
namespace Go.Proofs.Ytcjnchjmpkapmaa
open Go.ChangeShapes Go.WideShapes Go.ChangeAt Go.RowKit
set_option linter.unusedVariables false

def sumP (P : List Int) (g : Int → Int) : Int := (P.map g).sum
theorem sumP_add (P : List Int) (g h : Int → Int) : sumP P (fun p => g p + h p) = sumP P g + sumP P h := by
  unfold sumP
  induction P with
  | nil => rfl
  | cons p P ih => simp only [List.map_cons, List.sum_cons, ih]; omega
theorem sumP_zero (P : List Int) (a c : Int) (h : a ∉ P) : sumP P (fun p => if a = p then c else 0) = 0 := by
  unfold sumP
  induction P with
  | nil => rfl
  | cons p P ih =>
    simp only [List.map_cons, List.sum_cons]
    rw [ih fun hm => h (List.mem_cons_of_mem _ hm), if_neg (by rintro rfl; exact h (by simp))]
    rfl
theorem sumP_one (P : List Int) (hP : P.Nodup) (a c : Int) (h : a ∈ P) : sumP P (fun p => if a = p then c else 0) = c := by
  induction P with
  | nil => simp at h
  | cons p P ih =>
    obtain ⟨h1, h2⟩ := List.nodup_cons.1 hP
    have e : sumP (p :: P) (fun p => if a = p then c else 0) = (if a = p then c else 0) + sumP P (fun p => if a = p then c else 0) := by simp [sumP]
    rw [e]
    by_cases hap : a = p
    · subst hap
      rw [if_pos rfl, sumP_zero P a c h1]; omega
    · rw [if_neg hap, ih h2 (by simpa [hap] using h)]; omega
theorem sumP_le {P : List Int} {g h : Int → Int} (hg : ∀ p ∈ P, g p ≤ h p) : sumP P g ≤ sumP P h := by
  unfold sumP
  induction P with
  | nil => simp
  | cons p P ih =>
    simp only [List.map_cons, List.sum_cons]
    have := hg p (by simp)
    have := ih fun q hq => hg q (by simp [hq])
    omega
theorem sumP_const (P : List Int) (c : Int) : sumP P (fun _ => c) = P.length * c := by
  unfold sumP
  induction P with
  | nil => simp
  | cons p P ih => simp only [List.map_cons, List.sum_cons, ih, List.length_cons]; push_cast; rw [Int.add_mul]; omega
theorem pairR_cons {x : Nd} {r : List Nd} (h : Roll (x :: r)) (p : Int) : pairR (x :: r) p = (if x.1 / 2 = p then x.2 else 0) + pairR r p := by
  have hn : getR r x.1 = 0 := getR_none fun y hy => by have := h.head y hy; omega
  unfold pairR
  simp only [getR]
  by_cases h1 : x.1 = 2 * p
  · rw [if_pos h1, if_neg (by omega), if_pos (by omega)]
    rw [h1] at hn
    omega
  · rw [if_neg h1]
    by_cases h2 : x.1 = 2 * p + 1
    · rw [if_pos h2, if_pos (by omega)]
      rw [h2] at hn
      omega
    · rw [if_neg h2, if_neg (by omega)]; omega
theorem getR_cons {x : Nd} {r : List Nd} (h : Roll (x :: r)) (p : Int) : getR (x :: r) p = (if x.1 = p then x.2 else 0) + getR r p := by
  have hn : getR r x.1 = 0 := getR_none fun y hy => by have := h.head y hy; omega
  simp only [getR]
  by_cases h1 : x.1 = p
  · rw [if_pos h1, if_pos h1]; rw [h1] at hn; omega
  · rw [if_neg h1, if_neg h1]; omega
theorem sum_pairs_le {P : List Int} (hP : P.Nodup) : ∀ {r : List Nd}, Roll r → sumP P (pairR r) ≤ sumR r := by
  intro r
  induction r with
  | nil => intro _; have : pairR [] = fun _ => 0 := by funext p; rfl
           rw [this, sumP_const]; simp [sumR]
  | cons x r ih =>
    intro h
    have e : pairR (x :: r) = fun p => (if x.1 / 2 = p then x.2 else 0) + pairR r p := by funext p; exact pairR_cons h p
    rw [e, sumP_add]
    have h1 := ih h.tail
    have h2 := (h.2 x (by simp)).2
    simp only [sumR]
    by_cases hm : x.1 / 2 ∈ P
    · rw [sumP_one P hP _ _ hm]; omega
    · rw [sumP_zero P _ _ hm]; omega
theorem sum_own_le {P : List Int} (hP : P.Nodup) : ∀ {r : List Nd}, Roll r → sumP P (getR r) ≤ sumR r := by
  intro r
  induction r with
  | nil => intro _; have : getR [] = fun _ => 0 := by funext p; rfl
           rw [this, sumP_const]; simp [sumR]
  | cons x r ih =>
    intro h
    have e : getR (x :: r) = fun p => (if x.1 = p then x.2 else 0) + getR r p := by funext p; exact getR_cons h p
    rw [e, sumP_add]
    have h1 := ih h.tail
    have h2 := (h.2 x (by simp)).2
    simp only [sumR]
    by_cases hm : x.1 ∈ P
    · rw [sumP_one P hP _ _ hm]; omega
    · rw [sumP_zero P _ _ hm]; omega
theorem sum_pairs_ge {P : List Int} (hP : P.Nodup) : ∀ {r : List Nd}, Roll r → (∀ x ∈ r, x.1 ≠ 1 → x.1 / 2 ∈ P) → sumR r ≤ sumP P (pairR r) + getR r 1 := by
  intro r
  induction r with
  | nil => intro _ _; have : pairR [] = fun _ => 0 := by funext p; rfl
           rw [this, sumP_const]; simp [sumR, getR]
  | cons x r ih =>
    intro h hc
    have e : pairR (x :: r) = fun p => (if x.1 / 2 = p then x.2 else 0) + pairR r p := by funext p; exact pairR_cons h p
    rw [e, sumP_add, getR_cons h]
    have h1 := ih h.tail fun y hy => hc y (by simp [hy])
    have h2 := (h.2 x (by simp)).2
    simp only [sumR]
    by_cases h1' : x.1 = 1
    · rw [if_pos h1']
      have : 0 ≤ sumP P (fun p => if x.1 / 2 = p then x.2 else 0) := by
        by_cases hm : x.1 / 2 ∈ P
        · rw [sumP_one P hP _ _ hm]; omega
        · rw [sumP_zero P _ _ hm]; omega
      omega
    · rw [if_neg h1', sumP_one P hP _ _ (hc x (by simp) h1')]; omega
def onesR (r : List Nd) : List Nd := r.map fun x => (x.1, 1)
theorem ones_roll {r : List Nd} (h : Roll r) : Roll (onesR r) := by
  refine ⟨?_, fun x hx => ?_⟩
  · unfold onesR; rw [List.pairwise_map]; exact h.1
  · obtain ⟨y, hy, rfl⟩ := List.mem_map.1 hx
    have := h.2 y hy
    exact ⟨this.1, Int.le_refl _⟩
theorem ones_sum (r : List Nd) : sumR (onesR r) = r.length := by
  induction r with
  | nil => rfl
  | cons x r ih => simp only [onesR, List.map_cons, sumR, List.length_cons] at ih ⊢; rw [ih]; push_cast; omega
theorem ones_get (r : List Nd) (id : Int) : getR (onesR r) id ≤ 1 := by
  induction r with
  | nil => simp [onesR, getR]
  | cons x r ih =>
    simp only [onesR, List.map_cons, getR] at ih ⊢
    split
    · omega
    · exact ih
theorem tight_len {l : Nat} {r : List Nd} (hf : Fits l r) (hl : 1 ≤ l ∧ l ≤ 48) {k : Int} (hk : 1 ≤ k) (ht : ∀ p, readyR l r p (sumR r / k) = false) : (r.length : Int) ≤ 4 * k - 1 := by
  have hP := (putAll_wait (halves r)).once
  have hPm := putAll_mem (halves r)
  generalize putAll (halves r) = P at hP hPm
  have hcov : ∀ x ∈ r, x.1 ≠ 1 → x.1 / 2 ∈ P := fun x hx h1 => by
    have := (hf.roll.2 x hx).1
    exact (hPm _).2 ⟨by omega, List.mem_map.2 ⟨x, hx, rfl⟩⟩
  have hbig : ∀ p ∈ P, sumR r / k + 1 ≤ pairR r p + getR r p := fun p hp => by
    obtain ⟨h1, h2⟩ := (hPm p).1 hp
    obtain ⟨x, hx, rfl⟩ := List.mem_map.1 h2
    have h3 := hf.lt x hx
    have h4 := (hf.roll.2 x hx).2
    have h5 := getR_mem hf.roll hx
    have h6 := hf.nodes hl x hx
    have hpos : 0 < pairR r (x.1 / 2) := by
      have g1 := getR_nonneg hf.roll (2 * (x.1 / 2))
      have g2 := getR_nonneg hf.roll (2 * (x.1 / 2) + 1)
      unfold pairR
      rcases (by omega : x.1 = 2 * (x.1 / 2) ∨ x.1 = 2 * (x.1 / 2) + 1) with e | e
      · have e' := congrArg (getR r) e
        omega
      · have e' := congrArg (getR r) e
        omega
    have hk1 : (kidsOf l (x.1 / 2)).2.2 = true := by
      rw [kids_iff]
      refine ⟨?_, by omega⟩
      have hp := pow_pos' l
      simp only [isNode, decide_eq_true_eq, Int.toNat_natCast] at h6 ⊢
      omega
    have hnot := ht (x.1 / 2)
    rw [← Bool.not_eq_true, ready_iff] at hnot
    apply Classical.byContradiction
    intro hc
    exact hnot ⟨hk1, hpos, by omega⟩
  have a1 := sum_pairs_le hP hf.roll
  have a2 := sum_own_le hP hf.roll
  have a3 := sumP_le hbig
  rw [sumP_const P (sumR r / k + 1), sumP_add P (pairR r) (getR r)] at a3
  have a4 := sum_pairs_ge hP (ones_roll hf.roll) (fun x hx h1 => by
    obtain ⟨y, hy, rfl⟩ := List.mem_map.1 hx
    exact hcov y hy h1)
  rw [ones_sum] at a4
  have a5 : sumP P (pairR (onesR r)) ≤ sumP P (fun _ => 2) := sumP_le fun p _ => by
    have := ones_get r (2 * p)
    have := ones_get r (2 * p + 1)
    unfold pairR; omega
  rw [sumP_const] at a5
  have a6 := ones_get r 1
  have hN := sumR_nonneg hf.roll
  have hm : sumR r < k * (sumR r / k + 1) := by
    have := Int.lt_ediv_add_one_mul_self (sumR r) (show 0 < k by omega)
    rw [Int.mul_comm]; exact this
  have hm0 : 0 ≤ sumR r / k := Int.ediv_nonneg hN (by omega)
  have hP2 : (P.length : Int) < 2 * k := by
    apply Classical.byContradiction
    intro hc
    have : 2 * k * (sumR r / k + 1) ≤ P.length * (sumR r / k + 1) := Int.mul_le_mul_of_nonneg_right (by omega) (by omega)
    rw [Int.mul_assoc] at this
    omega
  omega
theorem DoTo.room {l : Nat} {k : Int} {r r' : List Nd} {o : Op3} {n : Int} (h : DoTo l k r o r' n) (hf : Fits l r) (hl : 1 ≤ l ∧ l ≤ 48) (hk : 1 ≤ k) (hr : (r.length : Int) ≤ 8 * k) : (r'.length : Int) ≤ 8 * k := by
  rcases h with ⟨_, ps, h, _⟩ | ⟨_, rfl, _⟩ | ⟨_, _, h, _⟩
  · have := h.folded.len hf; omega
  · simp; omega
  · rcases h with ⟨_, rfl⟩ | ⟨_, s, h, rfl⟩
    · exact hr
    · have hs := h.same hf
      rw [len_add hs.1.roll]
      rcases h with ⟨_, h1, ps, h⟩ | ⟨h1, rfl⟩
      · have ht := tight_len hs.1 hl hk (fun p => by rw [hs.2.1]; exact h.tight p)
        split <;> omega
      · split
        · rename_i h0
          have : ¬ 8 * k ≤ s.length := fun h2 => h1 ⟨h0, h2⟩
          omega
        · omega
end Go.Proofs.Ytcjnchjmpkapmaa
