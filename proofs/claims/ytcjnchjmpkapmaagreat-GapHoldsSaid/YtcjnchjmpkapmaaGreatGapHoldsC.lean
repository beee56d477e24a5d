/-
  Chapter 21, GapHolds: of all that two digests accepted, where one surely has the greater share it has; at each value the shares differ by no more than is told, and at some value by no less.
-/
import Derived.Test.YtcjnchjmpkapmaaGreatRows
import Derived.WalkKit
import Derived.WalkLawsBesides
import Derived.ProofKit
import Derived.OpenShut
import Derived.ShutString
import Derived.ChangeOld
import Derived.Below
import Derived.Test.YtcjnchjmpkapmaaGreatR14
namespace Go.Proofs.YtcjnchjmpkapmaaGreat.gapHolds
open Go.ChangeShapes Go.WideShapes Go.ChangeAt Go.RowKit
open Go.ChangeMaps (open_string shut_string)
set_option linter.unusedVariables false

theorem own : ownKnob Tryz.prog.godebug = none := by kernel_rfl
theorem laidOut : laidOutB Tryz.prog = true := by kernel_rfl

set_option maxRecDepth 100000 in
theorem lifted (os : Os) (started : os.Started) (H : Type) (enc : TypeId × Value → H) :
    ReturnsInHanded {} Tryz.checked os 11 .any (Rows.gapHoldsSpec.pre6 enc Tryz.prog Tryz.f11 Rows.gapHoldsRow.domain false) (Rows.gapHoldsSpec.post enc Tryz.prog Tryz.f11 false true false false) := by
  refine returnsInHanded_of_change (C := Tryz.checked) own started (by kernel_rfl) Tryz.func11
    (ChangeSpec.witness6 (enc := enc) (C := Tryz.checked) false ⟨#[], #[.agg #[.int .i64 0, .int .i64 0, .int .i64 0, .slice none 0 0], .agg #[.int .i64 0, .int .i64 0, .int .i64 0, .slice none 0 0], .agg #[.int .i64 0, .int .i64 0]], []⟩ 8 (by kernel_rfl) (by kernel_rfl) (by kernel_rfl) (by kernel_rfl)) ?_
  intro W base args ds gs before hval0 hW hcnd _
  have hval : ∀ (j : Nat) t v, Tryz.f11.params[j]? = some t → args[j]? = some v → Value.okWide Tryz.prog W .any base t v := hval0
  have hW' := hW
  obtain ⟨p, q, hA0, hV, rfl, hfz, hnd⟩ := hW
  have hA : DataW.TrodAll enc Tryz.prog W 0 (fun _ => true) true Tryz.f11.params.toList args.toList ds p := hA0
  rw [Tryz.params11] at hA hval
  obtain ⟨v0, vs0, d0, ds0, p0, q0, hargs, rfl, rfl, h0, r0⟩ := trodAll_cons hA
  obtain ⟨v1, vs1, d1, ds1, p1, q1, rfl, rfl, rfl, h1, r1⟩ := trodAll_cons r0
  obtain ⟨v2, vs2, d2, ds2, p2, q2, rfl, rfl, rfl, h2, r2⟩ := trodAll_cons r1
  obtain ⟨rfl, rfl, rfl⟩ := trodAll_nil r2
  obtain rfl : args = #[v0, v1, v2] := by cases args; simp_all
  obtain ⟨rfl, rfl⟩ := trodVars_none hV
  have k0 := h0
  have lt0 : ∀ x ∈ p0, x.block < W.heap.size := by obtain ⟨m, hm⟩ := k0; exact DataW.trod_lt m _ _ _ hm
  have k1 := h1
  have lt1 : ∀ x ∈ p1, x.block < W.heap.size := by obtain ⟨m, hm⟩ := k1; exact DataW.trod_lt m _ _ _ hm
  have k2 := h2
  have lt2 : ∀ x ∈ p2, x.block < W.heap.size := by obtain ⟨m, hm⟩ := k2; exact DataW.trod_lt m _ _ _ hm
  obtain ⟨la, ka, Ka, ra, A, cap, rfl, hS, hI, wl, wk, wK, hm⟩ := open_Side (hval 0 26 v0 rfl rfl) h0
  obtain ⟨lb, kb, Kb, rb, B, capb, rfl, hS2, hI2, wl2, wk2, wK2, hm2⟩ := open_Side (hval 1 26 v1 rfl rfl) h1
  obtain ⟨at_, d, rfl, w_at, w_d⟩ := open_Ask2 (hval 2 121 v2 rfl rfl) h2
  clear hA0 hval0
  refine (law_GapHolds la ka Ka ra A cap lb kb Kb rb B capb at_ d W hS hI wl wk wK hm hS2 hI2 wl2 wk2 wK2 hm2 w_at w_d).mono fun e W' ⟨he, bel⟩ => ?_
  subst he
  exact ⟨_, rfl, _, _, _, [], _, [], hW', trodAll_mk1 (shut_bool Tryz.underlying4 _), (trodAll_cons_mk (Below.trod laidOut (by kernel_rfl) (of_decide_eq_true (by kernel_rfl)) k0 bel lt0) (trodAll_cons_mk (Below.trod laidOut (by kernel_rfl) (of_decide_eq_true (by kernel_rfl)) k1 bel lt1) (trodAll_cons_mk (Below.trod laidOut (by kernel_rfl) (of_decide_eq_true (by kernel_rfl)) k2 bel lt2) trodAll_mk0))), rfl, bel.frame _, fun h => by cases h⟩

theorem fact_named : Tryz.pinned.checked.prog.funcNamed Rows.gapHoldsRow.func = some 11 := by kernel_rfl
set_option maxHeartbeats 4000000 in
theorem fact_joined : joinedFacts Tryz.pinned.checked.prog 11 Tryz.f11 Rows.gapHoldsSpec Rows.gapHoldsRow = true := by
  unfold joinedFacts
  repeat' with_reducible refine Bool.and_eq_true_iff.2 ⟨?_, ?_⟩
  all_goals decide +kernel
theorem fact_inst : Tryz.f11.isInstance Tryz.pinned.checked.prog Rows.gapHoldsRow.origin Rows.gapHoldsRow.targs := of_decide_eq_true (by kernel_rfl)
theorem fact_wrap : Tryz.f11.isWrapper Tryz.pinned.checked.prog Rows.gapHoldsRow.wrapper Rows.gapHoldsRow.mainSum := by
  unfold Func.isWrapper; first | (rw [if_pos (by decide +kernel)]; kernel_rfl) | (rw [if_neg (by decide +kernel)]; exact ⟨rfl, rfl⟩)
theorem over : Rows.gapHoldsRow.holds Tryz.pinned (OpenSpec.ofChange Rows.gapHoldsSpec) :=
  OpenClaim.holds_of_wide 11 Tryz.f11 rfl rfl rfl rfl rfl rfl rfl ⟨rfl, rfl, rfl, rfl, rfl⟩ rfl rfl rfl rfl rfl fact_named Tryz.func11 fact_joined
    fact_inst fact_wrap
    (fun os started H enc _ => lifted os started H enc)

/-- The statement. -/
theorem proved : Rows.GapHoldsSaid := over
#print axioms proved
end Go.Proofs.YtcjnchjmpkapmaaGreat.gapHolds
