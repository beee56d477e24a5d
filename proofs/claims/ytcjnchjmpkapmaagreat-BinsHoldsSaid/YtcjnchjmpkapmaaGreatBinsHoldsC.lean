/-
  Chapter 19, BinsHolds: all bins weigh as much as the whole, and up to each edge as much as its rank is told; of all that was accepted each bin has at least, and at most, what is told of it.
-/
import Derived.Test.YtcjnchjmpkapmaaGreatRows
import Derived.WalkKit
import Derived.WalkLawsBesides
import Derived.ProofKit
import Derived.OpenShut
import Derived.ShutString
import Derived.ChangeOld
import Derived.Below
import Derived.Test.YtcjnchjmpkapmaaGreatR8
namespace Go.Proofs.YtcjnchjmpkapmaaGreat.binsHolds
open Go.ChangeShapes Go.WideShapes Go.ChangeAt Go.RowKit
open Go.ChangeMaps (open_string shut_string)
set_option linter.unusedVariables false

theorem own : ownKnob Tryz.prog.godebug = none := by kernel_rfl
theorem laidOut : laidOutB Tryz.prog = true := by kernel_rfl

set_option maxRecDepth 100000 in
theorem lifted (os : Os) (started : os.Started) (H : Type) (enc : TypeId × Value → H) :
    ReturnsInHanded {} Tryz.checked os 7 .any (Rows.binsHoldsSpec.pre6 enc Tryz.prog Tryz.f7 Rows.binsHoldsRow.domain false) (Rows.binsHoldsSpec.post enc Tryz.prog Tryz.f7 false true false false) := by
  refine returnsInHanded_of_change (C := Tryz.checked) own started (by kernel_rfl) Tryz.func7
    (ChangeSpec.witness6 (enc := enc) (C := Tryz.checked) false ⟨#[], #[.agg #[.int .i64 0, .int .i64 0, .int .i64 0, .slice none 0 0], .slice none 0 0], []⟩ 8 (by kernel_rfl) (by kernel_rfl) (by kernel_rfl) (by kernel_rfl)) ?_
  intro W base args ds gs before hval0 hW hcnd _
  have hval : ∀ (j : Nat) t v, Tryz.f7.params[j]? = some t → args[j]? = some v → Value.okWide Tryz.prog W .any base t v := hval0
  have hW' := hW
  obtain ⟨p, q, hA0, hV, rfl, hfz, hnd⟩ := hW
  have hA : DataW.TrodAll enc Tryz.prog W 0 (fun _ => true) true Tryz.f7.params.toList args.toList ds p := hA0
  rw [Tryz.params7] at hA hval
  obtain ⟨v0, vs0, d0, ds0, p0, q0, hargs, rfl, rfl, h0, r0⟩ := trodAll_cons hA
  obtain ⟨v1, vs1, d1, ds1, p1, q1, rfl, rfl, rfl, h1, r1⟩ := trodAll_cons r0
  obtain ⟨rfl, rfl, rfl⟩ := trodAll_nil r1
  obtain rfl : args = #[v0, v1] := by cases args; simp_all
  obtain ⟨rfl, rfl⟩ := trodVars_none hV
  have k0 := h0
  have lt0 : ∀ x ∈ p0, x.block < W.heap.size := by obtain ⟨m, hm⟩ := k0; exact DataW.trod_lt m _ _ _ hm
  have k1 := h1
  have lt1 : ∀ x ∈ p1, x.block < W.heap.size := by obtain ⟨m, hm⟩ := k1; exact DataW.trod_lt m _ _ _ hm
  obtain ⟨l, k, K, r, A, cap, rfl, hS, hI, wl, wk, wK, hm⟩ := open_Side (hval 0 26 v0 rfl rfl) h0
  obtain ⟨es, A2, cap2, rfl, hS2, hi2, hm2⟩ := open_Ints (hval 1 49 v1 rfl rfl) h1
  clear hA0 hval0
  refine (law_BinsHolds l k K r A cap es A2 cap2 W hS hI wl wk wK hm hS2 hm2).mono fun e W' ⟨he, bel⟩ => ?_
  subst he
  exact ⟨_, rfl, _, _, _, [], _, [], hW', trodAll_mk1 (shut_bool Tryz.underlying4 _), (trodAll_cons_mk (Below.trod laidOut (by kernel_rfl) (of_decide_eq_true (by kernel_rfl)) k0 bel lt0) (trodAll_cons_mk (Below.trod laidOut (by kernel_rfl) (of_decide_eq_true (by kernel_rfl)) k1 bel lt1) trodAll_mk0)), rfl, bel.frame _, fun h => by cases h⟩

theorem fact_named : Tryz.pinned.checked.prog.funcNamed Rows.binsHoldsRow.func = some 7 := by kernel_rfl
set_option maxHeartbeats 4000000 in
theorem fact_joined : joinedFacts Tryz.pinned.checked.prog 7 Tryz.f7 Rows.binsHoldsSpec Rows.binsHoldsRow = true := by
  unfold joinedFacts
  repeat' with_reducible refine Bool.and_eq_true_iff.2 ⟨?_, ?_⟩
  all_goals decide +kernel
theorem fact_inst : Tryz.f7.isInstance Tryz.pinned.checked.prog Rows.binsHoldsRow.origin Rows.binsHoldsRow.targs := of_decide_eq_true (by kernel_rfl)
theorem fact_wrap : Tryz.f7.isWrapper Tryz.pinned.checked.prog Rows.binsHoldsRow.wrapper Rows.binsHoldsRow.mainSum := by
  unfold Func.isWrapper; first | (rw [if_pos (by decide +kernel)]; kernel_rfl) | (rw [if_neg (by decide +kernel)]; exact ⟨rfl, rfl⟩)
theorem over : Rows.binsHoldsRow.holds Tryz.pinned (OpenSpec.ofChange Rows.binsHoldsSpec) :=
  OpenClaim.holds_of_wide 7 Tryz.f7 rfl rfl rfl rfl rfl rfl rfl ⟨rfl, rfl, rfl, rfl, rfl⟩ rfl rfl rfl rfl rfl fact_named Tryz.func7 fact_joined
    fact_inst fact_wrap
    (fun os started H enc _ => lifted os started H enc)

/-- The statement. -/
theorem proved : Rows.BinsHoldsSaid := over
#print axioms proved
end Go.Proofs.YtcjnchjmpkapmaaGreat.binsHolds
