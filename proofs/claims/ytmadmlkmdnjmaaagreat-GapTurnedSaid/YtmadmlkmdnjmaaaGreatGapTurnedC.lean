/-
  Chapter 21, GapTurned: turned about, two digests are apart at the same value, the other way round, and as far; one and its clone are nowhere apart; for any two digests of at most 60 nodes (of an array at most 10 bits) and any two numbers.
-/
import Derived.Test.YtmadmlkmdnjmaaaGreatRows
import Derived.WalkKit
import Derived.WalkLawsBesides
import Derived.ProofKit
import Derived.OpenShut
import Derived.ShutString
import Derived.ChangeOld
import Derived.Below
import Derived.Test.YtmadmlkmdnjmaaaGreatP5
namespace Go.Proofs.YtmadmlkmdnjmaaaGreat.gapTurned
open Go.ChangeShapes Go.WideShapes Go.ChangeAt Go.RowKit
open Go.ChangeMaps (open_string shut_string)
set_option linter.unusedVariables false

theorem own : ownKnob Tryz.prog.godebug = none := by kernel_rfl
theorem laidOut : laidOutB Tryz.prog = true := by kernel_rfl

set_option maxRecDepth 100000 in
theorem lifted (os : Os) (started : os.Started) (H : Type) (enc : TypeId × Value → H) :
    ReturnsInHanded {} Tryz.checked os 11 .any (Rows.gapTurnedSpec.pre6 enc Tryz.prog Tryz.f11 Rows.gapTurnedRow.domain false) (Rows.gapTurnedSpec.post enc Tryz.prog Tryz.f11 false true false false) := by
  refine returnsInHanded_of_change (C := Tryz.checked) own started (by kernel_rfl) Tryz.func11
    (ChangeSpec.witness6 (enc := enc) (C := Tryz.checked) false ⟨#[], #[.agg #[.int .i64 0, .int .i64 0, .int .i64 0, .slice none 0 0], .agg #[.int .i64 0, .int .i64 0, .int .i64 0, .slice none 0 0], .agg #[.int .i64 0, .int .i64 0]], []⟩ 8 (by kernel_rfl) (by kernel_rfl) (by kernel_rfl) (by kernel_rfl)) ?_
  intro W base args ds gs before hval0 hW hcnd _
  have hval : ∀ (j : Nat) t v, Tryz.f11.params[j]? = some t → args[j]? = some v → Value.okWide Tryz.prog W .any base t v := hval0
  have hW' := hW
  obtain ⟨p, q, hA0, hV, rfl, hfz, hnd⟩ := hW
  have hA : DataW.TrodAll enc Tryz.prog W 0 (fun _ => true) true Tryz.f11.params.toList args.toList ds p := hA0
  rw [Tryz.params11] at hA hval
  obtain ⟨v0, vs0, d0, ds0, p0, q0, hargs, rfl, rfl, h0, r0⟩ := trodAll_cons hA
  obtain ⟨v1, vs1, d1, ds1, p1, q1, rfl, rfl, rfl, h1, r1⟩ := trodAll_cons r0
  obtain ⟨v2, vs2, d2, ds2, p2, q2, rfl, rfl, rfl, h2, r2⟩ := trodAll_cons r1
  obtain ⟨rfl, rfl, rfl⟩ := trodAll_nil r2
  obtain rfl : args = #[v0, v1, v2] := by cases args; simp_all
  obtain ⟨rfl, rfl⟩ := trodVars_none hV
  have k0 := h0
  have lt0 : ∀ x ∈ p0, x.block < W.heap.size := by obtain ⟨m, hm⟩ := k0; exact DataW.trod_lt m _ _ _ hm
  have k1 := h1
  have lt1 : ∀ x ∈ p1, x.block < W.heap.size := by obtain ⟨m, hm⟩ := k1; exact DataW.trod_lt m _ _ _ hm
  have k2 := h2
  have lt2 : ∀ x ∈ p2, x.block < W.heap.size := by obtain ⟨m, hm⟩ := k2; exact DataW.trod_lt m _ _ _ hm
  obtain ⟨la, ka, Ka, ra, Aa, capa, rfl, hS1, hI1, wl1, wk1, wK1, hm1⟩ := open_Loaded (hval 0 48 v0 rfl rfl) h0
  obtain ⟨lb, kb, Kb, rb, Ab, capb, rfl, hS2, hI2, wl2, wk2, wK2, hm2⟩ := open_Loaded (hval 1 48 v1 rfl rfl) h1
  obtain ⟨x, y, rfl, wx, wy⟩ := open_Ask2 (hval 2 74 v2 rfl rfl) h2
  clear hA0 hval0
  refine (law_GapTurned la ka Ka ra Aa capa lb kb Kb rb Ab capb x y W hS1 hI1 wl1 wk1 wK1 hm1 hS2 hI2 wl2 wk2 wK2 hm2 wx wy).mono fun e W' ⟨he, bel⟩ => ?_
  subst he
  exact ⟨_, rfl, _, _, _, [], _, [], hW', trodAll_mk1 (shut_bool Tryz.underlying4 _), (trodAll_cons_mk (Below.trod laidOut (by kernel_rfl) (of_decide_eq_true (by kernel_rfl)) k0 bel lt0) (trodAll_cons_mk (Below.trod laidOut (by kernel_rfl) (of_decide_eq_true (by kernel_rfl)) k1 bel lt1) (trodAll_cons_mk (Below.trod laidOut (by kernel_rfl) (of_decide_eq_true (by kernel_rfl)) k2 bel lt2) trodAll_mk0))), rfl, bel.frame _, fun h => by cases h⟩

theorem fact_named : Tryz.pinned.checked.prog.funcNamed Rows.gapTurnedRow.func = some 11 := by kernel_rfl
theorem fact_joined : joinedFacts Tryz.pinned.checked.prog 11 Tryz.f11 Rows.gapTurnedSpec Rows.gapTurnedRow = true := by kernel_rfl
theorem fact_inst : Tryz.f11.isInstance Tryz.pinned.checked.prog Rows.gapTurnedRow.origin Rows.gapTurnedRow.targs := of_decide_eq_true (by kernel_rfl)
theorem fact_wrap : Tryz.f11.isWrapper Tryz.pinned.checked.prog Rows.gapTurnedRow.wrapper Rows.gapTurnedRow.mainSum := by
  unfold Func.isWrapper; first | (rw [if_pos (by decide +kernel)]; kernel_rfl) | (rw [if_neg (by decide +kernel)]; exact ⟨rfl, rfl⟩)
theorem over : Rows.gapTurnedRow.holds Tryz.pinned (OpenSpec.ofChange Rows.gapTurnedSpec) :=
  OpenClaim.holds_of_wide 11 Tryz.f11 rfl rfl rfl rfl rfl rfl rfl ⟨rfl, rfl, rfl, rfl, rfl⟩ rfl rfl rfl rfl rfl fact_named Tryz.func11 fact_joined
    fact_inst fact_wrap
    (fun os started H enc _ => lifted os started H enc)

/-- The statement. -/
theorem proved : Rows.GapTurnedSaid := over
#print axioms proved
end Go.Proofs.YtmadmlkmdnjmaaaGreat.gapTurned
