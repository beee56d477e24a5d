/- A region that draws its order, whose last operations come behind all others, one behind the other: the others may only read and call what only makes memory: one walk serves every order. -/
import Derived.Test.YtalnhdfgjjhhbaaBase
import Derived.StillTail
namespace Go.Proofs.Ytalnhdfgjjhhbaa
open Go.RowKit

/-- The post of the head: what stands behind it is the tail. -/
def headPost (P : Program) (ops : Array Oper) (Q : Exit → Act → World → Prop) (l : List Oper) : Exit → Act → World → Prop
  | .normal, a, w => wpList P ops Q l a w
  | .panic c, a, w => Q (.panic c) a w
  | .exit i, a, w => Q (.exit i) a w
  | .goto i, a, w => Q (.goto i) a w
  | .ret, a, w => Q .ret a w
  | .outgrown, a, w => Q .outgrown a w

/-- An operation of the head waits for earlier ones of the head alone; the tail's first waits for all of the head, each later one for the one ahead of it. -/
def tailB (l : List Oper) (n : Nat) : Bool :=
  decide (n < l.length) &&
  ((List.range n).all fun i => match l[i]? with
    | some o => o.after.all (fun e => !Region.binds .any e || decide (e.on < i)) && (match o.guard with | some (j, _) => decide (j < n) | none => true)
    | none => false) &&
  ((List.range n).all fun i => Region.waitsFor .any l.toArray n i) &&
  ((List.range l.length).all fun t => decide (t ≤ n) || Region.waitsFor .any l.toArray t (t - 1)) &&
  Region.seqB .any l.toArray (l.length - n) n (Array.replicate n true ++ Array.replicate (l.length - n) false) &&
  Region.lexB .any (l.take n).toArray

section
variable {P : Program} {Q : Exit → Act → World → Prop} {l : List Oper} {n : Nat}
theorem upon_head {o : Oper} {a : Act} {K : Act → World → Prop} {r : Result Next} {ops : Array Oper} {lt : List Oper} (h : o.upon P a K (headPost P ops Q lt) r) : o.upon P a K Q r := by
  cases r with
  | ok x w =>
    cases x with
    | enter f args =>
      refine Calls.mono h fun e w' he => ?_
      cases e with
      | returned v => exact he
      | panicked c => exact he
      | outgrown => obtain ⟨a', w'', h'⟩ := he; exact ⟨a', w'', h'⟩
    | _ => exact h
  | halt x w => cases x <;> exact h
theorem any_more {ops : Array Oper} : ∀ (g m : Nat) (listed : Array Bool) (a : Act) (w : World), wpAny P .any ops Q g listed a w → wpAny P .any ops Q (g + m) listed a w
  | 0, 0, _, _, _, h => h
  | 0, m + 1, listed, a, w, h => by
    rw [Nat.zero_add]
    exact ⟨fun _ => h.2, fun i hi => by rw [h.1] at hi; cases hi⟩
  | g + 1, m, listed, a, w, h => by
    rw [show g + 1 + m = (g + m) + 1 by omega]
    exact ⟨h.1, fun i hi => wpOp_mono (fun a' w' h' => any_more g m _ a' w' h') (h.2 i hi)⟩

/-- The head's list of what is done, and the whole region's. -/
structure HeadRel (l : List Oper) (n : Nat) (lh listed : Array Bool) : Prop where
  sh : lh.size = n
  sl : listed.size = l.length
  nl : n ≤ l.length
  same : ∀ i, i < n → ∀ d, listed.getD i d = lh.getD i d
  tail : ∀ t, n ≤ t → t < l.length → listed.getD t true = false
theorem HeadRel.set {lh listed : Array Bool} (h : HeadRel l n lh listed) {i : Nat} (hi : i < n) : HeadRel l n (lh.setIfInBounds i true) (listed.setIfInBounds i true) := by
  refine ⟨by simp [h.sh], by simp [h.sl], h.nl, fun j hj d => ?_, fun t ht ht' => by rw [getD_set_ne true (by omega)]; exact h.tail t ht ht'⟩
  by_cases hij : i = j
  · subst hij
    have h1 : i < lh.size := by rw [h.sh]; exact hi
    have h2 : i < listed.size := by rw [h.sl]; have := h.nl; omega
    simp [h1, h2]
  · rw [getD_set_ne d hij, getD_set_ne d hij]
    exact h.same j hj d
theorem wanted_head {o : Oper} {a : Act} (hg : (match o.guard with | some (j, _) => decide (j < n) | none => true) = true) :
    Region.wanted o (yielded (l.take n).toArray a.tmps) = Region.wanted o (yielded l.toArray a.tmps) := by
  unfold Region.wanted
  split
  · rfl
  · rename_i j b hj
    rw [hj] at hg
    have hlt : j < n := by simpa using hg
    simp [yielded, hlt]

theorem lift_head (hB : tailB l n = true) : ∀ (f : Nat) (lh listed : Array Bool) (a : Act) (w : World), HeadRel l n lh listed →
    wpAny P .any (l.take n).toArray (headPost P l.toArray Q (l.drop n)) f lh a w → wpAny P .any l.toArray Q (f + (l.length - n)) listed a w := by
  simp only [tailB, Bool.and_eq_true, decide_eq_true_eq] at hB
  obtain ⟨⟨⟨⟨⟨hn, hhead⟩, hsink⟩, hchain⟩, hseq⟩, _⟩ := hB
  have hop : ∀ i, i < n → ∃ o, l[i]? = some o ∧ (∀ e ∈ o.after, Region.binds .any e = true → e.on < i) ∧ (match o.guard with | some (j, _) => decide (j < n) | none => true) = true := by
    intro i hi
    have h1 := List.all_eq_true.1 hhead i (List.mem_range.2 hi)
    split at h1
    · rename_i o ho
      simp only [Bool.and_eq_true] at h1
      refine ⟨o, ho, fun e he hb => ?_, h1.2⟩
      have h2 := Array.all_eq_true'.1 h1.1 e he
      simp only [hb, Bool.not_true, Bool.false_or, decide_eq_true_eq] at h2
      exact h2
    · cases h1
  have hpre : ∀ i, i < n → (l.take n).toArray[i]? = l.toArray[i]? := by
    intro i hi
    simp [hi]
  -- behind the head: the tail
  have done : ∀ (f : Nat) (lh listed : Array Bool) (a : Act) (w : World), HeadRel l n lh listed → (∀ i, i < n → lh.getD i true = true) → headPost P l.toArray Q (l.drop n) .normal a w →
      wpAny P .any l.toArray Q (f + (l.length - n)) listed a w := by
    intro f lh listed a w hr hall h
    have he : listed = Array.replicate n true ++ Array.replicate (l.length - n) false := by
      apply Array.ext
      · simp [hr.sl]; omega
      · intro i h1 h2
        by_cases hi : i < n
        · have e1 := hr.same i hi true
          rw [hall i hi] at e1
          simp [h1] at e1
          simp [hi, e1]
        · have e1 := hr.tail i (by omega) (by rw [← hr.sl]; exact h1)
          simp [h1] at e1
          rw [Array.getElem_append_right (by simp; omega)]
          simp [e1]
    subst he
    rw [Nat.add_comm]
    refine any_more _ f _ a w ?_
    have := wpAny_of_seq (md := .any) (P := P) (Q' := Q) (ops := l.toArray) (l.drop n) n _ a w (fun j => by simp [List.getElem?_drop]) (by simpa using hseq) h
    simpa using this
  -- while the head isn't done its least operation may come up, and the tail's may not
  have least : ∀ (lh : Array Bool), lh.size = n → (¬ ∀ i, i < n → lh.getD i true = true) → Region.ready .any (l.take n).toArray lh ≠ [] := by
    intro lh hsz hnot hnil
    have hex : ∃ i, i < n ∧ lh.getD i true = false := by
      refine Classical.byContradiction fun hc => hnot fun i hi => ?_
      cases hv : lh.getD i true with
      | true => rfl
      | false => exact absurd ⟨i, hi, hv⟩ hc
    have key : ∀ m i, i ≤ m → i < n → lh.getD i true = false → False := by
      intro m
      induction m using Nat.strongRecOn with
      | _ m ih =>
        intro i him hi hv
        obtain ⟨o, ho, he, _⟩ := hop i hi
        have hin : i ∈ Region.ready .any (l.take n).toArray lh := by
          refine mem_ready.2 ⟨hv, o, by rw [hpre i hi]; simpa using ho, fun e hem hb => ?_⟩
          have hlt := he e hem hb
          cases hv2 : lh.getD e.on false with
          | true => rfl
          | false =>
            exfalso
            have : lh.getD e.on true = false := by
              have : e.on < lh.size := by omega
              simp [this] at hv2 ⊢
              exact hv2
            exact ih e.on (by omega) e.on (Nat.le_refl _) (by omega) this
        rw [hnil] at hin
        cases hin
    obtain ⟨i, hi, hv⟩ := hex
    exact key i i (Nat.le_refl _) hi hv
  have inHead : ∀ (lh listed : Array Bool), HeadRel l n lh listed → (¬ ∀ i, i < n → lh.getD i true = true) → ∀ i ∈ Region.ready .any l.toArray listed, i < n := by
    intro lh listed hr hnot i hi
    obtain ⟨hu, o, ho, hall⟩ := mem_ready.1 hi
    rcases Nat.lt_or_ge i n with hlt | hge
    · exact hlt
    · exfalso
      have hil : i < l.length := by
        have := (Array.getElem?_eq_some_iff.1 ho).1
        simpa using this
      by_cases hin : i = n
      · subst hin
        refine hnot fun j hj => ?_
        obtain ⟨o', ho', e, he, hb, hon⟩ := Region.waitsFor_spec (List.all_eq_true.1 hsink j (List.mem_range.2 hj))
        have : o' = o := Option.some.inj (ho'.symm.trans ho)
        subst this
        have h1 := hall e he hb
        rw [hon, hr.same j hj false] at h1
        have : j < lh.size := by rw [hr.sh]; exact hj
        simp [this] at h1 ⊢
        exact h1
      · have h1 := List.all_eq_true.1 hchain i (List.mem_range.2 hil)
        simp only [Bool.or_eq_true, decide_eq_true_eq] at h1
        rcases h1 with h1 | h1
        · omega
        · obtain ⟨o', ho', e, he, hb, hon⟩ := Region.waitsFor_spec h1
          have : o' = o := Option.some.inj (ho'.symm.trans ho)
          subst this
          have h2 := hall e he hb
          have h3 := hr.tail (i - 1) (by omega) (by omega)
          rw [hon] at h2
          have : i - 1 < listed.size := by rw [hr.sl]; omega
          simp [this] at h2 h3
          rw [h2] at h3
          cases h3
  intro f
  induction f with
  | zero =>
    intro lh listed a w hr h
    by_cases hall : ∀ i, i < n → lh.getD i true = true
    · exact done 0 lh listed a w hr hall h.2
    · exact absurd h.1 (least lh hr.sh hall)
  | succ f ih =>
    intro lh listed a w hr h
    by_cases hall : ∀ i, i < n → lh.getD i true = true
    · refine done (f + 1) lh listed a w hr hall (h.1 ?_)
      cases hc : Region.ready .any (l.take n).toArray lh with
      | nil => rfl
      | cons i r =>
        exfalso
        have hi : i ∈ Region.ready .any (l.take n).toArray lh := by rw [hc]; simp
        obtain ⟨hu, o, ho, _⟩ := mem_ready.1 hi
        have hin : i < n := by
          have := (Array.getElem?_eq_some_iff.1 ho).1
          simp at this
          omega
        rw [hall i hin] at hu
        cases hu
    · rw [show f + 1 + (l.length - n) = (f + (l.length - n)) + 1 by omega]
      refine ⟨fun h0 => ?_, fun i hi => ?_⟩
      · exfalso
        refine least lh hr.sh hall ?_
        cases hc : Region.ready .any (l.take n).toArray lh with
        | nil => rfl
        | cons i r =>
          exfalso
          have hi : i ∈ Region.ready .any (l.take n).toArray lh := by rw [hc]; simp
          obtain ⟨hu, o, ho, hedge⟩ := mem_ready.1 hi
          have hin : i < n := by
            have := (Array.getElem?_eq_some_iff.1 ho).1
            simp at this
            omega
          obtain ⟨o', ho', he', _⟩ := hop i hin
          have : i ∈ Region.ready .any l.toArray listed := by
            rw [hpre i hin] at ho
            have hoo : o = o' := Option.some.inj (ho.symm.trans (by simpa using ho'))
            subst hoo
            exact mem_ready.2 ⟨by rw [hr.same i hin]; exact hu, o, ho, fun e hem hb => by rw [hr.same e.on (by have := he' e hem hb; omega)]; exact hedge e hem hb⟩
          rw [h0] at this
          cases this
      · have hin := inHead lh listed hr hall i hi
        obtain ⟨hu, o, ho, hedge⟩ := mem_ready.1 hi
        obtain ⟨o', ho', he', hg'⟩ := hop i hin
        have hoo : o = o' := Option.some.inj (ho.symm.trans (by simpa using ho'))
        subst hoo
        have hi' : i ∈ Region.ready .any (l.take n).toArray lh :=
          mem_ready.2 ⟨by rw [← hr.same i hin]; exact hu, o, by rw [hpre i hin]; exact ho, fun e hem hb => by rw [← hr.same e.on (by have := he' e hem hb; omega)]; exact hedge e hem hb⟩
        have h1 := h.2 i hi'
        unfold wpOp at h1 ⊢
        rw [hpre i hin] at h1
        rw [ho] at h1 ⊢
        simp only [wanted_head hg'] at h1
        simp only
        split at h1
        · rename_i hw
          rw [if_pos hw]
          rcases h1 with h1 | ⟨h1, h2⟩
          · left
            exact upon_head (Oper.wp_mono (fun a' w' h' => ih _ _ a' w' (hr.set hin) h') h1)
          · right
            obtain ⟨a', w', h'⟩ := h2
            exact ⟨h1, a', w', h'⟩
        · rename_i hw
          rw [if_neg hw]
          exact ih _ _ _ _ (hr.set hin) h1

/-- The theorem. -/
theorem wp_region_tail {id : Nat} {a : Act} {w : World} {l : List Oper} (n : Nat) (hm : P.follows .mixedOrders = true) (hB : tailB l n = true)
    (h : wpQuiet P (l.take n).toArray (fun w' => ∃ x, w' = ext w x) (fun a' => ∀ w', (∃ x, w' = ext w x) → wpList P l.toArray Q (l.drop n) a' w') (l.take n) a) : (Code.region id l.toArray true).wp P Q a w := by
  have hB0 := hB
  simp only [tailB, Bool.and_eq_true, decide_eq_true_eq] at hB
  obtain ⟨⟨⟨⟨⟨hn, _⟩, _⟩, _⟩, _⟩, hlex⟩ := hB
  simp only [Region.lexB, Bool.and_eq_true] at hlex
  refine wp_region_any hm ?_
  have hlen : (l.take n).length = n := by simp; omega
  have h1 := wpAnyQ_lex (C := fun w' => ∃ x, w' = ext w x) (md := .any) hlex.1 (l.take n) 0 (Array.replicate (l.take n).toArray.size false) a (by simp) (by simpa using hlex.2) h
  rw [List.size_toArray, hlen] at h1
  have h2 := wpAny_of_quiet (Q' := headPost P l.toArray Q (l.drop n)) (fun a' w' hw' hq => hq w' hw') n _ a { w with drawn := w.drawn + 1 } ⟨⟨#[], w.drawn + 1⟩, by simp [ext]⟩ h1
  have h3 := lift_head hB0 n (Array.replicate n false) (Array.replicate l.length false) a _ ⟨by simp, by simp, Nat.le_of_lt hn, fun i hi d => by simp [hi, Nat.lt_trans hi hn], fun t _ ht => by simp [ht]⟩ h2
  rw [show n + (l.length - n) = l.toArray.size by simp; omega] at h3
  simpa using h3
end
end Go.Proofs.Ytalnhdfgjjhhbaa
