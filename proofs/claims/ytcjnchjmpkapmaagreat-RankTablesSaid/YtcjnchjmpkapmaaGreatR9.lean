/-
  Texts of this proof, one behind the other: Ref16S, TabSteps, TableN, RankTablesW.
-/
import Derived.Deep.DeepCutAuto
import Derived.Test.YtcjnchjmpkapmaaGreatP2
import Derived.Test.YtcjnchjmpkapmaaGreatP3
import Derived.Test.YtcjnchjmpkapmaaGreatP5
import Derived.Test.YtcjnchjmpkapmaaGreatR6
import Derived.Test.YtcjnchjmpkapmaaGreatR7
import Derived.Test.YtcjnchjmpkapmaaGreatR8
/- Reference 16: Steps. -/
set_option linter.unusedSimpArgs false namespace Go.Proofs.YtcjnchjmpkapmaaGreat
open Go.ChangeShapes Go.WideShapes Go.ChangeAt Go.RowKit
set_option linter.unusedVariables false
set_option linter.unusedSimpArgs false
set_option maxRecDepth 100000

structure StepsIs (l : Int) (r : List Nd) (S : List Int) : Prop where
  up : S.Pairwise (· < ·)
  mem : ∀ z, z ∈ S ↔ ∃ x ∈ r, (endsOf l x.1).2.1 = z
theorem up_ext {S T : List Int} (hS : S.Pairwise (· < ·)) (hT : T.Pairwise (· < ·)) (h : ∀ z, z ∈ S ↔ z ∈ T) : S = T := by
  induction S generalizing T with
  | nil =>
    cases T with
    | nil => rfl
    | cons y T => have := (h y).2 (by simp); simp at this
  | cons x S ih =>
    cases T with
    | nil => have := (h x).1 (by simp); simp at this
    | cons y T =>
      obtain ⟨s1, s2⟩ := List.pairwise_cons.1 hS
      obtain ⟨t1, t2⟩ := List.pairwise_cons.1 hT
      have e : x = y := by
        rcases List.mem_cons.1 ((h x).1 (by simp)) with e | hx
        · exact e
        · rcases List.mem_cons.1 ((h y).2 (by simp)) with e | hy
          · exact e.symm
          · have := s1 y hy; have := t1 x hx; omega
      subst e
      congr 1
      refine ih s2 t2 fun z => ?_
      constructor
      · intro hz
        have := s1 z hz
        rcases List.mem_cons.1 ((h z).1 (List.mem_cons_of_mem _ hz)) with e | hz'
        · omega
        · exact hz'
      · intro hz
        have := t1 z hz
        rcases List.mem_cons.1 ((h z).2 (List.mem_cons_of_mem _ hz)) with e | hz'
        · omega
        · exact hz'
theorem StepsIs.unique {l : Int} {r : List Nd} {S T : List Int} (h : StepsIs l r S) (k : StepsIs l r T) : S = T := up_ext h.up k.up fun z => (h.mem z).trans (k.mem z).symm
theorem StepsIs.nil (l : Int) : StepsIs l [] [] := ⟨.nil, by simp⟩
theorem steps_take {l : Int} {r : List Nd} {q : Nat} (hq : q < r.length) (z : Int) : (∃ x ∈ r.take (q + 1), (endsOf l x.1).2.1 = z) ↔ (∃ x ∈ r.take q, (endsOf l x.1).2.1 = z) ∨ (endsOf l r[q].1).2.1 = z := by
  rw [List.take_succ_eq_append_getElem hq]
  constructor
  · rintro ⟨x, hx, e⟩
    rcases List.mem_append.1 hx with hx | hx
    · exact .inl ⟨x, hx, e⟩
    · rw [List.mem_singleton.1 hx] at e; exact .inr e
  · rintro (⟨x, hx, e⟩ | e)
    · exact ⟨x, List.mem_append_left _ hx, e⟩
    · exact ⟨r[q], List.mem_append_right _ (by simp), e⟩
theorem StepsIs.same {l : Int} {r : List Nd} {q : Nat} {S : List Int} (h : StepsIs l (r.take q) S) (hq : q < r.length) {a : Nat} (ha : a < S.length) (he : S[a] = (endsOf l r[q].1).2.1) : StepsIs l (r.take (q + 1)) S := by
  refine ⟨h.up, fun z => ?_⟩
  rw [steps_take hq, ← h.mem]
  constructor
  · exact .inl
  · rintro (h1 | h1)
    · exact h1
    · rw [← h1, ← he]; exact List.getElem_mem ha
theorem StepsIs.more {l : Int} {r : List Nd} {q : Nat} {S : List Int} (h : StepsIs l (r.take q) S) (hq : q < r.length) {a : Nat} (hx : ∀ z ∈ S.take a, z < (endsOf l r[q].1).2.1) (hy : ∀ (ha : a < S.length), (endsOf l r[q].1).2.1 < S[a]) : StepsIs l (r.take (q + 1)) (S.take a ++ [(endsOf l r[q].1).2.1] ++ S.drop a) := by
  obtain ⟨x, hxe⟩ : ∃ x, x = (endsOf l r[q].1).2.1 := ⟨_, rfl⟩
  rw [← hxe] at hx hy ⊢
  have hy2 : ∀ z ∈ S.drop a, x < z := by
    intro z hz
    by_cases ha : a < S.length
    · rw [List.drop_eq_getElem_cons ha] at hz
      have hp : (S.drop a).Pairwise (· < ·) := h.up.drop
      rw [List.drop_eq_getElem_cons ha] at hp
      rcases List.mem_cons.1 hz with rfl | hz
      · exact hy ha
      · have := (List.pairwise_cons.1 hp).1 z hz
        have := hy ha
        omega
    · rw [List.drop_eq_nil_of_le (by omega)] at hz; simp at hz
  refine ⟨?_, fun z => ?_⟩
  · rw [List.append_assoc, List.pairwise_append]
    refine ⟨h.up.take, ?_, ?_⟩
    · rw [List.singleton_append, List.pairwise_cons]
      exact ⟨hy2, h.up.drop⟩
    · intro u hu v hv
      have h1 := hx u hu
      rw [List.singleton_append] at hv
      rcases List.mem_cons.1 hv with rfl | hv
      · exact h1
      · have := hy2 v hv; omega
  · rw [steps_take hq, ← h.mem]
    have : z ∈ S ↔ z ∈ S.take a ∨ z ∈ S.drop a := by
      conv => lhs; rw [← List.take_append_drop a S]
      exact List.mem_append
    rw [this, ← hxe]
    simp only [List.mem_append, List.mem_singleton]
    constructor
    · rintro ((h | h) | h)
      · exact .inl (.inl h)
      · exact .inr h.symm
      · exact .inl (.inr h)
    · rintro ((h | h) | h)
      · exact .inl (.inl h)
      · exact .inr h
      · exact .inl (.inr h.symm)
def pickB (c : Prop) [Decidable c] (x y : Option Addr) : Option Addr := if c then x else y
theorem slice_pickB (c : Prop) [Decidable c] (x y : Option Addr) (n m : Nat) : Value.slice (if c then x else y) n m = Value.slice (pickB c x y) n m := rfl
theorem sl_pickB {w : World} {B : Nat} {c : Prop} [Decidable c] {x y : Option Addr} {l : List Int} (h : c → l = []) (h2 : Sl w B encZ y l) : Sl w B encZ (pickB c x y) l := by
  unfold pickB
  by_cases hc : c
  · rw [if_pos hc]; exact .inl (h hc)
  · rw [if_neg hc]; exact h2
section
attribute [local go_sem] slice_pickB
set_option maxHeartbeats 8000000 in
theorem ref16_Steps (w : World) (l : Int) (A : Option Addr) (cap : Nat) (r : List Nd) (hS : Sl w w.heap.size encN A r) (hI : ints r) (hlen : r.length ≤ 65536) :
    Calls Tryz.prog 29 #[.int .i64 l, .slice A r.length cap] w fun e w' => ∃ (A' : Option Addr) (cap' : Nat) (S : List Int), e = .returned (.slice A' S.length cap') ∧ Own w' w.heap.size 3 encZ (.slice A' S.length cap') S ∧ StepsIs l r S ∧ S.length ≤ r.length ∧ Below w.heap.size w w' := by
  have HS := Lib.hid hS
  have HI := Lib.hid hI
  clear hS hI
  go_enter Tryz.func29, Tryz.ntmps29
  go_wp2_with fail
  go_loopw [5, 6] (fun o j wr => ∃ (q : Nat) (S : List Int), q ≤ r.length ∧ j = .int .i64 q ∧ Own wr w.heap.size 3 encZ o S ∧ (S = [] → o = .slice none 0 0) ∧ StepsIs l (r.take q) S ∧ S.length ≤ q ∧ Below w.heap.size w wr) (fun _ j _ => r.length - (intOf j).toNat)
  case atStart => exact ⟨0, [], Nat.zero_le _, rfl, .nil _ _ _ _, fun _ => rfl, .nil l, by simp, Below.refl _ _⟩
  case round =>
    obtain ⟨q, S, hq, rfl, ho, hn, hSt, hSl, hB⟩ := hrel
    have HO := Lib.hid ho
    have HN := Lib.hid hn
    have HSt := Lib.hid hSt
    have HB := Lib.hid hB
    by_cases hlt : q < r.length
    · obtain ⟨b, off, rfl, hb, hc⟩ := HS.out.at_ hlt
      have d0 := (hB.cell (p := ⟨b, off + q * 2, none⟩) hb).trans (by have := hc 0 (.int .i64 r[q].1) rfl; simpa using this)
      have lb : b < wr.heap.size := Nat.lt_of_lt_of_le hb hB.size
      have HE := Lib.hid (fun W => ref2_Ends W l r[q].1 ((HI.out _ (List.getElem_mem hlt)).1.2))
      have hqi : (q : Int) < (r.length : Int) := by omega
      have HSame := Lib.hid (fun (a : Nat) (ha : a < S.length) he => HSt.out.same hlt ha he)
      have HMore := Lib.hid (fun (a : Nat) hx hy => HSt.out.more (a := a) hlt hx hy)
      obtain ⟨e1, e2, e3, he⟩ : ∃ a b c, endsOf l r[q].1 = (a, b, c) := ⟨_, _, _, rfl⟩
      rw [he] at HE HSame HMore
      unfold endsV at HE
      simp only at HE HSame HMore
      obtain ⟨x, hx⟩ : ∃ x, x = r[q].1 := ⟨_, rfl⟩
      rw [← hx] at d0 HE
      clear hc hx he ho hn hSt hB
      obtain ⟨Ao, co, rfl, _⟩ := HO.out.form
      go_wp2_with fail
      refine (HE.out _).mono ?_
      rintro e w2 ⟨rfl, hb2⟩
      have HB2 := Lib.hid (Below.then_ HB.out hb2)
      have HO2 := Lib.hid (HO.out.below hb2)
      clear hb2 d0 lb hb HO HB
      go_wp2_with fail
      go_loopw [10] (fun at_ W => ∃ a : Nat, at_ = .int .i64 a ∧ a ≤ S.length ∧ (∀ z ∈ S.take a, z < e2) ∧ w2 = W) (fun at_ _ => S.length - (intOf at_).toNat)
      case atStart => exact ⟨0, rfl, Nat.zero_le _, by simp, rfl⟩
      case round =>
        obtain ⟨a, rfl, ha, hX, rfl⟩ := hrel
        have HX2 := Lib.hid hX
        clear hX
        rcases Nat.eq_or_lt_of_le ha with hae | hal
        · have HY2 : Hid (∀ (h : a < S.length), e2 < S[a]) := Lib.hid (fun h => by omega)
          by_cases hS0 : S = []
          · subst hS0
            have hv := HN.out rfl
            injection hv with hv1 hv2 hv3
            subst hv1 hv3
            simp only [List.length_nil] at hae
            subst hae
            have HTl : Hid (([] : List Int).length = 0) := Lib.hid rfl
            have TP : Hid (Sl w2 w2.heap.size encZ none ([] : List Int)) := Lib.hid .nil
            have s2 := HB2.out.size
            (
              have O3 : Hid (Own w2 w2.heap.size 3 encZ (.slice none 0 0) ([] : List Int)) := Lib.hid (.nil _ _ _ _)
              have B3 := Lib.hid (Below.refl w2.heap.size w2)
              have s3 := Nat.le_refl w2.heap.size
              go_wp2_with ((at_builtin; refine wpList_push tyZ rfl _ _ rfl encZ w2 w2.heap.size (.slice none 0 0) ([] : List Int) rfl O3.out e2 rfl rfl ?dx1 ?dx2 ?dx3 ?dx4))
              try case dx1 => have := HTl.out; omega
              try case dx2 => have := HTl.out; simp only [maxLen]; omega
              try case dx3 => exact s3
              case dx4 =>
                intro v4 w4 ho4 hg4 _ _ hb4 _
                have O4 := Lib.hid ho4
                have B4 := Lib.hid (B3.out.trans hb4)
                have s4 := B4.out.size
                clear ho4 hg4 hb4
                have TDx : Hid (Sl w4 w4.heap.size encZ none ([] : List Int)) := Lib.hid .nil
                have H4l : Hid ((([] : List Int) ++ [e2]).length = 0 + 1) := Lib.hid rfl
                have HDl : Hid (([] : List Int).length = 0 - 0) := Lib.hid rfl
                go_wp2_with ((at_builtin; refine wpList_app tyZ rfl _ _ rfl encZ w2.heap.size v4 _ rfl O4.out none 0 [] w4.heap.size rfl TDx.out ?ex1 ?ex2 ?ex3 ?ex4))
                case ex1 => simp
                case ex2 => simp [maxLen]
                try case ex3 => exact s4
                case ex4 =>
                  intro v5 w5 ho5 hg5 _ hb5
                  have O5 := Lib.hid ho5
                  have B5 := Lib.hid (HB2.out.trans ((B4.out.trans hb5).mono HB2.out.size))
                  clear ho5 hg5 hb5
                  go_wp2_with fail
                  go_roundw
                  case rel => exact ⟨q + 1, ([] : List Int) ++ [e2] ++ ([] : List Int), by omega, by go_num, by have h := O5.out.base_le s2; simpa using h, fun h => by simp at h, by have := HMore.out 0 (by simp) (by simp); simpa using this, by simp, B5.out⟩
                  case measure => simp [intOf]; omega
            )
          · obtain ⟨bo, oo, co', hv, hcap'⟩ := own_at0 HO2.out (List.length_pos_iff.2 hS0)
            injection hv with hv1 hv2 hv3
            subst hv1 hv3
            have hd1 : decide (a < S.length) = false := by simp; omega
            have hd2 : decide ((a : Int) < (S.length : Int)) = false := by simp; omega
            clear hae
            have HTl : Hid ((S.take a).length = a) := Lib.hid (by rw [List.length_take]; omega)
            have HDl : Hid ((S.drop a).length = S.length - a) := Lib.hid (by rw [List.length_drop])
            have TP := Lib.hid ((HO2.out.sl).take a)
            have hac : a ≤ co := by have := HO2.out.len_le.2.1; omega
            have hco := HO2.out.len_le.2.1
            have s2 := HB2.out.size
            go_upto_region 11 with fail
            go_wp2_with ((at_builtin; refine wpList_app tyZ rfl _ _ rfl encZ w2.heap.size (.slice none 0 0) [] rfl (Own.nil _ _ _ _) (some ⟨bo, oo, none⟩) co (S.take a) w2.heap.size (by rw [HTl.out]; rfl) TP.out ?cy1 ?cy2 ?cy3 ?cy4))
            case cy1 => have := HTl.out; (try simp only [List.length_nil]); omega
            case cy2 => have := HTl.out; simp only [maxLen]; (try simp only [List.length_nil]); omega
            try case cy3 => exact Nat.le_refl _
            case cy4 =>
              intro v3 w3 ho3 hg3 _ hb3 _
              try rw [List.nil_append] at ho3
              have O3 := Lib.hid ho3
              have B3 := Lib.hid hb3
              have s3 := hb3.size
              clear ho3 hg3 hb3
              go_wp2_with ((at_builtin; refine wpList_push tyZ rfl _ _ rfl encZ w3 w2.heap.size v3 (S.take a) rfl O3.out e2 rfl rfl ?dy1 ?dy2 ?dy3 ?dy4))
              try case dy1 => have := HTl.out; omega
              try case dy2 => have := HTl.out; simp only [maxLen]; omega
              try case dy3 => exact s3
              case dy4 =>
                intro v4 w4 ho4 hg4 _ _ hb4 _
                have O4 := Lib.hid ho4
                have B4 := Lib.hid (B3.out.trans hb4)
                have s4 := B4.out.size
                clear ho4 hg4 hb4
                have TD := Lib.hid ((HO2.out.below B4.out).sl.drop a)
                simp only [Nat.mul_one] at TD
                have TDx := Lib.hid (sl_pickB (c := co = a) (x := some ⟨bo, oo, none⟩) (fun h => List.drop_eq_nil_of_le (by omega)) TD.out)
                have h4l : (S.take a ++ [e2]).length = a + 1 := by rw [List.length_append, HTl.out]; rfl
                have H4l := Lib.hid h4l
                clear h4l
                go_wp2_with ((at_builtin; refine wpList_app tyZ rfl _ _ rfl encZ w2.heap.size v4 _ rfl O4.out (pickB (co = a) (some ⟨bo, oo, none⟩) (some ⟨bo, oo + a, none⟩)) (co - a) (S.drop a) w4.heap.size (by rw [HDl.out]; rfl) TDx.out ?ey1 ?ey2 ?ey3 ?ey4))
                try case ey1 => have := H4l.out; have := HDl.out; omega
                try case ey2 => have := H4l.out; have := HDl.out; simp only [maxLen]; omega
                try case ey3 => exact s4
                case ey4 =>
                  intro v5 w5 ho5 hg5 _ hb5 _
                  have O5 := Lib.hid ho5
                  have B5 := Lib.hid (HB2.out.trans ((B4.out.trans hb5).mono HB2.out.size))
                  clear ho5 hg5 hb5
                  go_wp2_with fail
                  go_roundw
                  case rel => exact ⟨q + 1, (S.take a) ++ [e2] ++ (S.drop a), by omega, by go_num, by have h := O5.out.base_le s2; simpa using h, fun h => by simp at h, HMore.out a HX2.out HY2.out, by rw [List.length_append, H4l.out, HDl.out]; omega, B5.out⟩
                  case measure => simp [intOf]; omega
        · obtain ⟨bo, oo, co', hv, hcap'⟩ := own_at0 HO2.out (by omega)
          injection hv with hv1 hv2 hv3
          subst hv1 hv3
          have d1 := HO2.out.slT.cell_at hal 0 (.int .i64 S[a]) rfl
          simp only [Nat.mul_one, Nat.add_zero] at d1
          have zb1 := (HO2.out.lt bo rfl).2
          have hai : (a : Int) < (S.length : Int) := by omega
          obtain ⟨y, hy⟩ : ∃ y, y = S[a] := ⟨_, rfl⟩
          rw [← hy] at d1
          have HYs := Lib.hid hy
          clear hy
          by_cases hlt2 : y < e2
          · go_wp2_with fail
            go_roundw
            case rel => exact ⟨a + 1, by go_num, by omega, fun z hz => by
              rw [List.take_succ_eq_append_getElem hal] at hz
              rcases List.mem_append.1 hz with hz | hz
              · exact HX2.out z hz
              · rw [List.mem_singleton.1 hz, ← HYs.out]; exact hlt2, by first | rfl | trivial⟩
            case measure => simp [intOf]; omega
          · have hd3 : decide (y < e2) = false := by simpa using hlt2
            by_cases he : y = e2
            · have hye : (y == e2) = true := by simpa using he
              clear hlt2
              go_wp2_with fail
              go_roundw
              case rel => exact ⟨q + 1, S, by omega, by go_num, HO2.out, HN.out, HSame.out a hal (by rw [← HYs.out]; exact he), by omega, HB2.out⟩
              case measure => simp [intOf]; omega
            · have hye : (y == e2) = false := by simpa using he
              have HY2 : Hid (∀ (h : a < S.length), e2 < S[a]) := Lib.hid (fun h => by rw [← HYs.out]; omega)
              clear hlt2
              have HTl : Hid ((S.take a).length = a) := Lib.hid (by rw [List.length_take]; omega)
              have HDl : Hid ((S.drop a).length = S.length - a) := Lib.hid (by rw [List.length_drop])
              have TP := Lib.hid ((HO2.out.sl).take a)
              have hac : a ≤ co := by have := HO2.out.len_le.2.1; omega
              have hco := HO2.out.len_le.2.1
              have s2 := HB2.out.size
              go_upto_region 11 with fail
              go_wp2_with ((at_builtin; refine wpList_app tyZ rfl _ _ rfl encZ w2.heap.size (.slice none 0 0) [] rfl (Own.nil _ _ _ _) (some ⟨bo, oo, none⟩) co (S.take a) w2.heap.size (by rw [HTl.out]; rfl) TP.out ?cz1 ?cz2 ?cz3 ?cz4))
              case cz1 => have := HTl.out; (try simp only [List.length_nil]); omega
              case cz2 => have := HTl.out; simp only [maxLen]; (try simp only [List.length_nil]); omega
              try case cz3 => exact Nat.le_refl _
              case cz4 =>
                intro v3 w3 ho3 hg3 _ hb3 _
                try rw [List.nil_append] at ho3
                have O3 := Lib.hid ho3
                have B3 := Lib.hid hb3
                have s3 := hb3.size
                clear ho3 hg3 hb3
                go_wp2_with ((at_builtin; refine wpList_push tyZ rfl _ _ rfl encZ w3 w2.heap.size v3 (S.take a) rfl O3.out e2 rfl rfl ?dz1 ?dz2 ?dz3 ?dz4))
                try case dz1 => have := HTl.out; omega
                try case dz2 => have := HTl.out; simp only [maxLen]; omega
                try case dz3 => exact s3
                case dz4 =>
                  intro v4 w4 ho4 hg4 _ _ hb4 _
                  have O4 := Lib.hid ho4
                  have B4 := Lib.hid (B3.out.trans hb4)
                  have s4 := B4.out.size
                  clear ho4 hg4 hb4
                  have TD := Lib.hid ((HO2.out.below B4.out).sl.drop a)
                  simp only [Nat.mul_one] at TD
                  have TDx := Lib.hid (sl_pickB (c := co = a) (x := some ⟨bo, oo, none⟩) (fun h => List.drop_eq_nil_of_le (by omega)) TD.out)
                  have h4l : (S.take a ++ [e2]).length = a + 1 := by rw [List.length_append, HTl.out]; rfl
                  have H4l := Lib.hid h4l
                  clear h4l
                  go_wp2_with ((at_builtin; refine wpList_app tyZ rfl _ _ rfl encZ w2.heap.size v4 _ rfl O4.out (some ⟨bo, oo + a, none⟩) (co - a) (S.drop a) w4.heap.size (by rw [HDl.out]; rfl) TD.out ?ez1 ?ez2 ?ez3 ?ez4))
                  try case ez1 => have := H4l.out; have := HDl.out; omega
                  try case ez2 => have := H4l.out; have := HDl.out; simp only [maxLen]; omega
                  try case ez3 => exact s4
                  case ez4 =>
                    intro v5 w5 ho5 hg5 _ hb5 _
                    have O5 := Lib.hid ho5
                    have B5 := Lib.hid (HB2.out.trans ((B4.out.trans hb5).mono HB2.out.size))
                    clear ho5 hg5 hb5
                    go_wp2_with fail
                    go_roundw
                    case rel => exact ⟨q + 1, (S.take a) ++ [e2] ++ (S.drop a), by omega, by go_num, by have h := O5.out.base_le s2; simpa using h, fun h => by simp at h, HMore.out a HX2.out HY2.out, by rw [List.length_append, H4l.out, HDl.out]; omega, B5.out⟩
                    case measure => simp [intOf]; omega
    · obtain rfl : q = r.length := by omega
      have hqi : decide ((r.length : Int) < (r.length : Int)) = false := by simp
      rw [List.take_length] at HSt
      obtain ⟨Ao, co, rfl, _⟩ := HO.out.form
      go_wp2_with fail
      go_ret
      exact ⟨Ao, co, S, rfl, HO.out, HSt.out, hSl, HB.out⟩
end
end Go.Proofs.YtcjnchjmpkapmaaGreat
/- Where a table's sums grow. -/
namespace Go.Proofs.YtcjnchjmpkapmaaGreat
open Go.ChangeShapes Go.WideShapes Go.ChangeAt Go.RowKit
set_option linter.unusedVariables false

theorem tab_steps {l : Int} {r lt : List Nd} (h : Tab (lastL l r) lt) : StepsIs l r (lt.map (·.1)) := by
  refine ⟨?_, fun z => ?_⟩
  · rw [List.pairwise_map]; exact h.rise
  · rw [List.mem_map]
    constructor
    · rintro ⟨y, hy, rfl⟩
      obtain ⟨u, hu, e⟩ := h.of y hy
      unfold lastL at hu
      obtain ⟨x, hx, rfl⟩ := List.mem_map.1 hu
      exact ⟨x, hx, e⟩
    · rintro ⟨x, hx, rfl⟩
      obtain ⟨y, hy, e⟩ := h.all ((endsOf l x.1).2.1, x.2) (List.mem_map.2 ⟨x, hx, rfl⟩)
      exact ⟨y, hy, e⟩
end Go.Proofs.YtcjnchjmpkapmaaGreat
/- Package rank: a table's N; what a table that is nil tells. -/
namespace Go.Proofs.YtcjnchjmpkapmaaGreat
open Go.ChangeShapes Go.WideShapes Go.ChangeAt Go.RowKit
set_option linter.unusedVariables false
set_option maxRecDepth 100000

theorem table_N {w : World} {L B g : Nat} {n : Int} {lt ft : List Nd} (h : TabAt w L B g n lt ft) :
    Calls Tryz.prog 20 #[.pointer (some ⟨g, 0, none⟩)] w fun e w' => e = .returned (.int .i64 n) ∧ Below w.heap.size w w' := by
  obtain ⟨h0, h0', A1, c1, A2, c2, A3, c3, A4, c4, h1, _, _⟩ := h
  have c := blk_cell h1
  have z := lt_of_block h1
  clear h1
  go_enter Tryz.func20, Tryz.ntmps20
  go_wp2_with fail
  go_ret
  exact ⟨rfl, (by repeat (first | with_reducible exact Below.refl _ _ | with_reducible assumption | ((with_reducible refine Below.setCell ?_ ?_ _); rotate_left; · (first | omega | exact Nat.le_refl _ | (simp <;> omega))) | (with_reducible refine Below.allocW ?_ _) | (with_reducible refine Below.drew ?_) | (with_reducible refine Below.extW ?_ _)))⟩
theorem table_Steps_nil (w : World) : Calls Tryz.prog 24 #[.pointer none] w fun e w' => e = .returned (.slice none 0 0) ∧ Below w.heap.size w w' := by
  go_enter Tryz.func24, Tryz.ntmps24
  go_wp2_with fail
  go_ret
  exact ⟨rfl, (by repeat (first | with_reducible exact Below.refl _ _ | with_reducible assumption | ((with_reducible refine Below.setCell ?_ ?_ _); rotate_left; · (first | omega | exact Nat.le_refl _ | (simp <;> omega))) | (with_reducible refine Below.allocW ?_ _) | (with_reducible refine Below.drew ?_) | (with_reducible refine Below.extW ?_ _)))⟩
theorem table_N_nil (w : World) : Calls Tryz.prog 20 #[.pointer none] w fun e w' => e = .returned (.int .i64 0) ∧ Below w.heap.size w w' := by
  go_enter Tryz.func20, Tryz.ntmps20
  go_wp2_with fail
  go_ret
  exact ⟨rfl, (by repeat (first | with_reducible exact Below.refl _ _ | with_reducible assumption | ((with_reducible refine Below.setCell ?_ ?_ _); rotate_left; · (first | omega | exact Nat.le_refl _ | (simp <;> omega))) | (with_reducible refine Below.allocW ?_ _) | (with_reducible refine Below.drew ?_) | (with_reducible refine Below.extW ?_ _)))⟩
theorem table_Low_nil (w : World) (x : Int) : Calls Tryz.prog 21 #[.pointer none, .int .i64 x] w fun e w' => e = .returned (.int .i64 0) ∧ Below w.heap.size w w' := by
  go_enter Tryz.func21, Tryz.ntmps21
  go_wp2_with fail
  go_ret
  exact ⟨rfl, (by repeat (first | with_reducible exact Below.refl _ _ | with_reducible assumption | ((with_reducible refine Below.setCell ?_ ?_ _); rotate_left; · (first | omega | exact Nat.le_refl _ | (simp <;> omega))) | (with_reducible refine Below.allocW ?_ _) | (with_reducible refine Below.drew ?_) | (with_reducible refine Below.extW ?_ _)))⟩
theorem table_High_nil (w : World) (x : Int) : Calls Tryz.prog 22 #[.pointer none, .int .i64 x] w fun e w' => e = .returned (.int .i64 0) ∧ Below w.heap.size w w' := by
  go_enter Tryz.func22, Tryz.ntmps22
  go_wp2_with fail
  go_ret
  exact ⟨rfl, (by repeat (first | with_reducible exact Below.refl _ _ | with_reducible assumption | ((with_reducible refine Below.setCell ?_ ?_ _); rotate_left; · (first | omega | exact Nat.le_refl _ | (simp <;> omega))) | (with_reducible refine Below.allocW ?_ _) | (with_reducible refine Below.drew ?_) | (with_reducible refine Below.extW ?_ _)))⟩
theorem table_Both_nil (w : World) (x : Int) : Calls Tryz.prog 23 #[.pointer none, .int .i64 x] w fun e w' => e = .returned (.agg #[.int .i64 0, .int .i64 0]) ∧ Below w.heap.size w w' := by
  have K0 := Lib.hid (bothAt.new w 0 0)
  go_enter Tryz.func23, Tryz.ntmps23
  go_wp2_with fail
  refine (table_Low_nil _ x).mono ?_
  rintro e w1 ⟨rfl, hb1⟩
  have B1 : Below w.heap.size w w1 := Below.then_ (by repeat (first | with_reducible exact Below.refl _ _ | with_reducible assumption | ((with_reducible refine Below.setCell ?_ ?_ _); rotate_left; · (first | omega | exact Nat.le_refl _ | (simp <;> omega))) | (with_reducible refine Below.allocW ?_ _) | (with_reducible refine Below.drew ?_) | (with_reducible refine Below.extW ?_ _))) hb1
  have s1 : w.heap.size ≤ w1.heap.size := B1.size
  have z1_0 : w.heap.size < w1.heap.size := by have := hb1.size; (try simp at this); omega
  have y1_0 : w.heap.size ≤ w1.heap.size := Nat.le_of_lt z1_0
  have c1_0 := fun o => hb1.cell (p := ⟨w.heap.size, o, none⟩) (by first | omega | (simp <;> omega))
  have f1_0 := fun o => hb1.frozen (p := ⟨w.heap.size, o, none⟩) (by first | omega | (simp <;> omega))
  have K := Lib.hid (K0.out.below hb1)
  go_wp2_with fail
  refine (table_High_nil _ x).mono ?_
  rintro e w2 ⟨rfl, hb2⟩
  have B2 : Below w.heap.size w w2 := Below.then_ (by repeat (first | with_reducible exact Below.refl _ _ | with_reducible assumption | ((with_reducible refine Below.setCell ?_ ?_ _); rotate_left; · (first | omega | exact Nat.le_refl _ | (simp <;> omega))) | (with_reducible refine Below.allocW ?_ _) | (with_reducible refine Below.drew ?_) | (with_reducible refine Below.extW ?_ _))) hb2
  have s2 : w.heap.size ≤ w2.heap.size := B2.size
  have k := K.out.below hb2
  have cc := blk_cell k
  have cf := blk_frozen k
  have zz := lt_of_block k
  clear k
  go_wp2_with fail
  exact bodyPost_ret (v := .agg #[.int .i64 0, .int .i64 0]) (by simp only [results, Tryz.results23]; go_simp) rfl ⟨rfl, (by repeat (first | with_reducible exact Below.refl _ _ | with_reducible assumption | ((with_reducible refine Below.setCell ?_ ?_ _); rotate_left; · (first | omega | exact Nat.le_refl _ | (simp <;> omega))) | (with_reducible refine Below.allocW ?_ _) | (with_reducible refine Below.drew ?_) | (with_reducible refine Below.extW ?_ _)))⟩
end Go.Proofs.YtcjnchjmpkapmaaGreat
/- Chapter 16: tables: the law. -/
namespace Go.Proofs.YtcjnchjmpkapmaaGreat
open Go.ChangeShapes Go.WideShapes Go.ChangeAt Go.RowKit
set_option linter.unusedVariables false
set_option linter.unusedSimpArgs false
set_option maxRecDepth 100000

theorem TabAt.turn {w w' : World} {L B g : Nat} {n : Int} {lt ft : List Nd} {F : Nat → Prop} (h : TabAt w L B g n lt ft) (ht : Turn F w w') (hB : B ≤ w.heap.size) (hF : ∀ b, F b → b < L) : TabAt w' L B g n lt ft :=
  h.keep fun b h1 h2 => ht.block b (by omega) fun hf => by have := hF b hf; omega
structure TabW (w : World) (l k K : Int) (r : List Nd) (A : Option Addr) (cap : Nat) (ys : List Int) (B : Option Addr) (cb : Nat) (Lw Bw gt : Nat) (lt ft : List Nd) (W : World) : Prop where
  t : TabAt W Lw Bw gt (sumR r) lt ft
  hB : Bw ≤ W.heap.size
  x : W.heap[w.heap.size]? = some (.cells #[.int .i64 l, .int .i64 k, .int .i64 K, .slice A r.length cap] 48 (0, 0))
  s0 : Sl w w.heap.size encN A r
  y0 : Sl w w.heap.size encZ B ys
  blw : Below w.heap.size w W
section
variable {w : World} {l k K : Int} {r : List Nd} {A : Option Addr} {cap : Nat} {ys : List Int} {B : Option Addr} {cb : Nat} {Lw Bw gt : Nat} {lt ft : List Nd} {W W' : World}
theorem TabW.below (h : TabW w l k K r A cap ys B cb Lw Bw gt lt ft W) (hb : Below W.heap.size W W') : TabW w l k K r A cap ys B cb Lw Bw gt lt ft W' :=
  ⟨h.t.below (hb.mono h.hB), Nat.le_trans h.hB hb.size, blk_below h.x hb, h.s0, h.y0, h.blw.trans (hb.mono h.blw.size)⟩
theorem TabW.drew (h : TabW w l k K r A cap ys B cb Lw Bw gt lt ft W) : TabW w l k K r A cap ys B cb Lw Bw gt lt ft W.drew :=
  ⟨h.t.keep fun _ _ _ => rfl, h.hB, h.x, h.s0, h.y0, h.blw.drew⟩
theorem TabW.s (h : TabW w l k K r A cap ys B cb Lw Bw gt lt ft W) : Sl W W.heap.size encN A r := h.s0.keep h.blw.size fun p hp => h.blw.cell hp
theorem TabW.ys' (h : TabW w l k K r A cap ys B cb Lw Bw gt lt ft W) : Sl W W.heap.size encZ B ys := h.y0.keep h.blw.size fun p hp => h.blw.cell hp
end
set_option maxHeartbeats 8000000 in
theorem law_RankTables_no (l k K : Int) (r : List Nd) (A : Option Addr) (cap : Nat) (ys : List Int) (B : Option Addr) (cb : Nat) (o : Op3) (w : World) (h : ¬ (goodL l k K r ∧ ys.length ≤ 50)) (hS : Sl w w.heap.size encN A r) (hI : ints r) (hm : r.length ≤ maxLen) (hmy : ys.length ≤ maxLen) :
    Calls Tryz.prog 5 #[loadedV l k K A r.length cap, .slice B ys.length cb, .agg #[.int .i64 o.1, .int .i64 o.2.1, .int .i64 o.2.2]] w fun e w' => e = .returned (.bool true) ∧ Below w.heap.size w w' := by
  obtain ⟨o1, o2, o3⟩ := o
  have BA : Below w.heap.size w ((w.alloc (.cells #[.int .i64 l, .int .i64 k, .int .i64 K, .slice A r.length cap] 48)).alloc (.cells #[.int .i64 o1, .int .i64 o2, .int .i64 o3] 51)) := (by repeat (first | with_reducible exact Below.refl _ _ | with_reducible assumption | ((with_reducible refine Below.setCell ?_ ?_ _); rotate_left; · (first | omega | exact Nat.le_refl _ | (simp <;> omega))) | (with_reducible refine Below.allocW ?_ _) | (with_reducible refine Below.drew ?_) | (with_reducible refine Below.extW ?_ _)))
  have X0 := Lib.hid ((heap_new_lt (w.alloc (.cells #[.int .i64 l, .int .i64 k, .int .i64 K, .slice A r.length cap] 48)) (.cells #[.int .i64 o1, .int .i64 o2, .int .i64 o3] 51) w.heap.size (by simp)).trans (heap_alloc_new w _))
  have S0 := Lib.hid (hS.keep (B' := ((w.alloc (.cells #[.int .i64 l, .int .i64 k, .int .i64 K, .slice A r.length cap] 48)).alloc (.cells #[.int .i64 o1, .int .i64 o2, .int .i64 o3] 51)).heap.size) BA.size fun p hp => BA.cell hp)
  have BW := Lib.hid BA
  unfold maxLen at hmy
  simp only
  by_cases hg : goodL l k K r
  · have hy : 50 < ys.length := by apply Classical.byContradiction; intro hc; exact h ⟨hg, by omega⟩
    have hy' : (50 : Int) < (ys.length : Int) := by omega
    obtain ⟨n, m, rfl, rfl⟩ := goodL_nat hg.2.2
    have HL := Lib.hid (fun W h => law16_Load W n m k A cap r hg h hI)
    unfold loadedV refDig at HL
    unfold loadedV
    clear hS BA h hg
    go_enter Tryz.func5, Tryz.ntmps5
    go_upto_region 1 with fail
    generalize (w.alloc (.cells #[.int .i64 (n : Int), .int .i64 k, .int .i64 (m : Int), .slice A r.length cap] 48)).alloc (.cells #[.int .i64 o1, .int .i64 o2, .int .i64 o3] 51) = W0 at X0 S0 BW ⊢
    have x0 := blk_cell X0.out
    have xz := lt_of_block X0.out
    go_wp2_with fail
    refine (rank_Of_nil _).mono ?_
    rintro e w1 ⟨rfl, hb1⟩
    have S1 := Lib.hid (S0.out.keep (B' := w1.heap.size) hb1.size fun p hp => hb1.cell hp)
    have B1 := Lib.hid (Below.then_ BW.out hb1)
    have X1 := Lib.hid (blk_below X0.out hb1)
    clear hb1 S0 BW X0
    go_wp2_with fail
    refine (table_N_nil _).mono ?_
    rintro e w2 ⟨rfl, hb2⟩
    have S2 := Lib.hid (S1.out.keep (B' := w2.heap.size) hb2.size fun p hp => hb2.cell hp)
    have B2 := Lib.hid (Below.then_ B1.out hb2)
    have X2 := Lib.hid (blk_below X1.out hb2)
    clear hb2 S1 B1 X1
    go_wp2_with fail
    refine (table_Low_nil _ 1).mono ?_
    rintro e w3 ⟨rfl, hb3⟩
    have S3 := Lib.hid (S2.out.keep (B' := w3.heap.size) hb3.size fun p hp => hb3.cell hp)
    have B3 := Lib.hid (Below.then_ B2.out hb3)
    have X3 := Lib.hid (blk_below X2.out hb3)
    clear hb3 S2 B2 X2
    go_wp2_with fail
    refine (table_High_nil _ 1).mono ?_
    rintro e w4 ⟨rfl, hb4⟩
    have S4 := Lib.hid (S3.out.keep (B' := w4.heap.size) hb4.size fun p hp => hb4.cell hp)
    have B4 := Lib.hid (Below.then_ B3.out hb4)
    have X4 := Lib.hid (blk_below X3.out hb4)
    clear hb4 S3 B3 X3
    go_wp2_with fail
    refine (table_Both_nil _ 1).mono ?_
    rintro e w5 ⟨rfl, hb5⟩
    have S5 := Lib.hid (S4.out.keep (B' := w5.heap.size) hb5.size fun p hp => hb5.cell hp)
    have B5 := Lib.hid (Below.then_ B4.out hb5)
    have X5 := Lib.hid (blk_below X4.out hb5)
    clear hb5 S4 B4 X4
    go_wp2_with fail
    refine (table_Steps_nil _).mono ?_
    rintro e w6 ⟨rfl, hb6⟩
    have S6 := Lib.hid (S5.out.keep (B' := w6.heap.size) hb6.size fun p hp => hb6.cell hp)
    have B6 := Lib.hid (Below.then_ B5.out hb6)
    have X6 := Lib.hid (blk_below X5.out hb6)
    clear hb6 S5 B5 X5
    clear x0 xz
    have x6 := blk_cell X6.out
    have xz6 := lt_of_block X6.out
    go_wp2_with fail
    refine (HL.out w6 S6.out).mono ?_
    rintro e w7 ⟨g, F, rfl, _, _, hb7⟩
    have B7 := Lib.hid (Below.then_ B6.out (hb7.trans (((Below.refl w7.heap.size w7).alloc (Nat.le_refl _) (.cells #[.int .i64 k, .int .i64 n, .slice A r.length cap] 63)).mono hb7.size)))
    clear hb7
    go_wp2_with fail
    refine (alive16 _).mono ?_
    rintro e w8 ⟨rfl, hb8⟩
    have B8 := Lib.hid (Below.then_ B7.out hb8)
    go_wp2_with fail
    go_ret
    exact ⟨rfl, B8.out⟩
  · have HL := Lib.hid (fun W h => law16_Load_no W l k K A cap r hg h hI hm)
    unfold loadedV refDig at HL
    unfold loadedV
    clear hS BA h hg
    go_enter Tryz.func5, Tryz.ntmps5
    go_upto_region 1 with fail
    generalize (w.alloc (.cells #[.int .i64 l, .int .i64 k, .int .i64 K, .slice A r.length cap] 48)).alloc (.cells #[.int .i64 o1, .int .i64 o2, .int .i64 o3] 51) = W0 at X0 S0 BW ⊢
    have x0 := blk_cell X0.out
    have xz := lt_of_block X0.out
    go_wp2_with fail
    refine (rank_Of_nil _).mono ?_
    rintro e w1 ⟨rfl, hb1⟩
    have S1 := Lib.hid (S0.out.keep (B' := w1.heap.size) hb1.size fun p hp => hb1.cell hp)
    have B1 := Lib.hid (Below.then_ BW.out hb1)
    have X1 := Lib.hid (blk_below X0.out hb1)
    clear hb1 S0 BW X0
    go_wp2_with fail
    refine (table_N_nil _).mono ?_
    rintro e w2 ⟨rfl, hb2⟩
    have S2 := Lib.hid (S1.out.keep (B' := w2.heap.size) hb2.size fun p hp => hb2.cell hp)
    have B2 := Lib.hid (Below.then_ B1.out hb2)
    have X2 := Lib.hid (blk_below X1.out hb2)
    clear hb2 S1 B1 X1
    go_wp2_with fail
    refine (table_Low_nil _ 1).mono ?_
    rintro e w3 ⟨rfl, hb3⟩
    have S3 := Lib.hid (S2.out.keep (B' := w3.heap.size) hb3.size fun p hp => hb3.cell hp)
    have B3 := Lib.hid (Below.then_ B2.out hb3)
    have X3 := Lib.hid (blk_below X2.out hb3)
    clear hb3 S2 B2 X2
    go_wp2_with fail
    refine (table_High_nil _ 1).mono ?_
    rintro e w4 ⟨rfl, hb4⟩
    have S4 := Lib.hid (S3.out.keep (B' := w4.heap.size) hb4.size fun p hp => hb4.cell hp)
    have B4 := Lib.hid (Below.then_ B3.out hb4)
    have X4 := Lib.hid (blk_below X3.out hb4)
    clear hb4 S3 B3 X3
    go_wp2_with fail
    refine (table_Both_nil _ 1).mono ?_
    rintro e w5 ⟨rfl, hb5⟩
    have S5 := Lib.hid (S4.out.keep (B' := w5.heap.size) hb5.size fun p hp => hb5.cell hp)
    have B5 := Lib.hid (Below.then_ B4.out hb5)
    have X5 := Lib.hid (blk_below X4.out hb5)
    clear hb5 S4 B4 X4
    go_wp2_with fail
    refine (table_Steps_nil _).mono ?_
    rintro e w6 ⟨rfl, hb6⟩
    have S6 := Lib.hid (S5.out.keep (B' := w6.heap.size) hb6.size fun p hp => hb6.cell hp)
    have B6 := Lib.hid (Below.then_ B5.out hb6)
    have X6 := Lib.hid (blk_below X5.out hb6)
    clear hb6 S5 B5 X5
    clear x0 xz
    have x6 := blk_cell X6.out
    have xz6 := lt_of_block X6.out
    go_wp2_with fail
    refine (HL.out w6 S6.out).mono ?_
    rintro e w7 ⟨rfl, hb7⟩
    have B7 := Lib.hid (Below.then_ B6.out (hb7.trans (((Below.refl w7.heap.size w7).alloc (Nat.le_refl _) (.cells #[.int .i64 0, .int .i64 0, .slice none 0 0] 63)).mono hb7.size)))
    clear hb7
    go_wp2_with fail
    refine (alive16 _).mono ?_
    rintro e w8 ⟨rfl, hb8⟩
    have B8 := Lib.hid (Below.then_ B7.out hb8)
    go_wp2_with fail
    go_ret
    exact ⟨rfl, B8.out⟩
set_option maxHeartbeats 8000000 in
theorem law_RankTables_yes (l K : Nat) (k : Int) (r : List Nd) (A : Option Addr) (cap : Nat) (ys : List Int) (B : Option Addr) (cb : Nat) (o : Op3) (w : World) (hg : goodL l k K r) (hy : ys.length ≤ 50) (hS : Sl w w.heap.size encN A r) (hI : ints r) (hSy : Sl w w.heap.size encZ B ys) :
    Calls Tryz.prog 5 #[loadedV l k K A r.length cap, .slice B ys.length cb, .agg #[.int .i64 o.1, .int .i64 o.2.1, .int .i64 o.2.2]] w fun e w' => e = .returned (.bool true) ∧ Below w.heap.size w w' := by
  have hR := (goodL_parts hg.2.2).1
  have hf := right_fits hR
  have hrn : r.length ≤ 150 := hg.1
  have hlow := fun y => low_up (l : Int) r y
  have hhigh := fun y => high_up (l : Int) r y
  have HDo := Lib.hid (fun W g F h => law13_Do W g K l k r F h (by omega) o)
  have HSt := Lib.hid (fun W A cap h => ref16_Steps W l A cap r h hI (by omega))
  have HRL := Lib.hid (fun W A cap y h => ref16_Low W l A cap r y h hI (by omega) hf.1.roll hf.1.sum)
  have HRH := Lib.hid (fun W A cap y h => ref16_High W l A cap r y h hI (by omega) hf.1.roll hf.1.sum)
  have HOf := Lib.hid (fun W g F (h : DigAt W g K l k r F) => rank_Of W g K l k r F h (by omega))
  have HN := Lib.hid (fun W g F (h : DigAt W g K l k r F) => digest_N W g K l k r F h)
  obtain ⟨o1, o2, o3⟩ := o
  have BA : Below w.heap.size w ((w.alloc (.cells #[.int .i64 l, .int .i64 k, .int .i64 K, .slice A r.length cap] 48)).alloc (.cells #[.int .i64 o1, .int .i64 o2, .int .i64 o3] 51)) := (by repeat (first | with_reducible exact Below.refl _ _ | with_reducible assumption | ((with_reducible refine Below.setCell ?_ ?_ _); rotate_left; · (first | omega | exact Nat.le_refl _ | (simp <;> omega))) | (with_reducible refine Below.allocW ?_ _) | (with_reducible refine Below.drew ?_) | (with_reducible refine Below.extW ?_ _)))
  have X0 := Lib.hid ((heap_new_lt (w.alloc (.cells #[.int .i64 l, .int .i64 k, .int .i64 K, .slice A r.length cap] 48)) (.cells #[.int .i64 o1, .int .i64 o2, .int .i64 o3] 51) w.heap.size (by simp)).trans (heap_alloc_new w _))
  have Y0 := Lib.hid (heap_new_at (w.alloc (.cells #[.int .i64 l, .int .i64 k, .int .i64 K, .slice A r.length cap] 48)) (.cells #[.int .i64 o1, .int .i64 o2, .int .i64 o3] 51) (w.heap.size + 1) (by simp))
  have S0 := Lib.hid (hS.keep (B' := ((w.alloc (.cells #[.int .i64 l, .int .i64 k, .int .i64 K, .slice A r.length cap] 48)).alloc (.cells #[.int .i64 o1, .int .i64 o2, .int .i64 o3] 51)).heap.size) BA.size fun p hp => BA.cell hp)
  have HSo := Lib.hid hS
  have HSy := Lib.hid hSy
  have BW := Lib.hid BA
  have HL := Lib.hid (fun W h => law16_Load W l K k A cap r hg h hI)
  unfold loadedV refDig at HL
  unfold loadedV
  simp only at HDo ⊢
  have hyl : (ys.length : Int) ≤ 50 := by omega
  clear hS hSy BA hg hR hf hI hlow hhigh
  go_enter Tryz.func5, Tryz.ntmps5
  go_upto_region 1 with fail
  generalize (w.alloc (.cells #[.int .i64 (l : Int), .int .i64 k, .int .i64 (K : Int), .slice A r.length cap] 48)).alloc (.cells #[.int .i64 o1, .int .i64 o2, .int .i64 o3] 51) = W0 at X0 Y0 S0 BW ⊢
  have Z0 := Lib.hid (lt_of_block Y0.out)
  have x0 := blk_cell X0.out
  have xz := lt_of_block X0.out
  go_wp2_with fail
  refine (rank_Of_nil _).mono ?_
  rintro e w1 ⟨rfl, hb1⟩
  have S1 := Lib.hid (S0.out.keep (B' := w1.heap.size) hb1.size fun p hp => hb1.cell hp)
  have B1 := Lib.hid (Below.then_ BW.out hb1)
  have X1 := Lib.hid (blk_below X0.out hb1)
  have Y1 := Lib.hid (blk_below Y0.out hb1)
  clear hb1 S0 BW X0 Y0
  go_wp2_with fail
  refine (table_N_nil _).mono ?_
  rintro e w2 ⟨rfl, hb2⟩
  have S2 := Lib.hid (S1.out.keep (B' := w2.heap.size) hb2.size fun p hp => hb2.cell hp)
  have B2 := Lib.hid (Below.then_ B1.out hb2)
  have X2 := Lib.hid (blk_below X1.out hb2)
  have Y2 := Lib.hid (blk_below Y1.out hb2)
  clear hb2 S1 B1 X1 Y1
  go_wp2_with fail
  refine (table_Low_nil _ 1).mono ?_
  rintro e w3 ⟨rfl, hb3⟩
  have S3 := Lib.hid (S2.out.keep (B' := w3.heap.size) hb3.size fun p hp => hb3.cell hp)
  have B3 := Lib.hid (Below.then_ B2.out hb3)
  have X3 := Lib.hid (blk_below X2.out hb3)
  have Y3 := Lib.hid (blk_below Y2.out hb3)
  clear hb3 S2 B2 X2 Y2
  go_wp2_with fail
  refine (table_High_nil _ 1).mono ?_
  rintro e w4 ⟨rfl, hb4⟩
  have S4 := Lib.hid (S3.out.keep (B' := w4.heap.size) hb4.size fun p hp => hb4.cell hp)
  have B4 := Lib.hid (Below.then_ B3.out hb4)
  have X4 := Lib.hid (blk_below X3.out hb4)
  have Y4 := Lib.hid (blk_below Y3.out hb4)
  clear hb4 S3 B3 X3 Y3
  go_wp2_with fail
  refine (table_Both_nil _ 1).mono ?_
  rintro e w5 ⟨rfl, hb5⟩
  have S5 := Lib.hid (S4.out.keep (B' := w5.heap.size) hb5.size fun p hp => hb5.cell hp)
  have B5 := Lib.hid (Below.then_ B4.out hb5)
  have X5 := Lib.hid (blk_below X4.out hb5)
  have Y5 := Lib.hid (blk_below Y4.out hb5)
  clear hb5 S4 B4 X4 Y4
  go_wp2_with fail
  refine (table_Steps_nil _).mono ?_
  rintro e w6 ⟨rfl, hb6⟩
  have S6 := Lib.hid (S5.out.keep (B' := w6.heap.size) hb6.size fun p hp => hb6.cell hp)
  have B6 := Lib.hid (Below.then_ B5.out hb6)
  have X6 := Lib.hid (blk_below X5.out hb6)
  have Y6 := Lib.hid (blk_below Y5.out hb6)
  clear hb6 S5 B5 X5 Y5
  clear x0 xz
  have x6 := blk_cell X6.out
  have xz6 := lt_of_block X6.out
  go_wp2_with fail
  refine (HL.out w6 S6.out).mono ?_
  rintro e w7 ⟨g, F, rfl, hD, hF, hb7⟩
  have hwz : w.heap.size + 2 ≤ w6.heap.size := by have := lt_of_block Y6.out; omega
  have hwz2 : w.heap.size < w6.heap.size := by omega
  have hFw : ∀ b, F b → w.heap.size + 1 ≤ b := fun b hb => by have := hF b hb; omega
  have al := (Below.refl w7.heap.size w7).alloc (Nat.le_refl _) (.cells #[.int .i64 k, .int .i64 l, .slice A r.length cap] 63)
  have D7 := Lib.hid (hD.below al)
  have B7 := Lib.hid (Below.then_ (Below.then_ B6.out hb7) al)
  have X7 := Lib.hid (blk_below (blk_below X6.out hb7) al)
  have Y7 := Lib.hid (blk_below (blk_below Y6.out hb7) al)
  have HFl := Lib.hid hFw
  clear hD hF hFw hb7 al S6 B6 X6 Y6 HL x6 xz6 hwz hwz2
  go_upto_region 7 with fail
  generalize w7.alloc (.cells #[.int .i64 k, .int .i64 l, .slice A r.length cap] 63) = w8 at D7 B7 X7 Y7 ⊢
  go_wp2_with fail
  refine (HOf.out w8 g F D7.out).mono ?_
  rintro e w9 ⟨gt, lt, ft, rfl, hT, ht1, ht2, hl1, hl2, hb9⟩
  have hB9 : w9.heap.size ≤ w9.heap.size := Nat.le_refl _
  have T9 := Lib.hid hT
  have D9 := Lib.hid (D7.out.below hb9)
  have L9 := Lib.hid D7.out.lt
  have B9 := Lib.hid (Below.then_ B7.out hb9)
  have X9 := Lib.hid (blk_below X7.out hb9)
  have Y9 := Lib.hid (blk_below Y7.out hb9)
  have HT1 := Lib.hid ht1
  have HT2 := Lib.hid ht2
  have hlt : lt.length ≤ 67108864 := by omega
  have hft : ft.length ≤ 67108864 := by omega
  obtain ⟨Lw, hLw⟩ : ∃ Lw, Lw = w8.heap.size := ⟨_, rfl⟩
  obtain ⟨Bw, hBw⟩ : ∃ Bw, Bw = w9.heap.size := ⟨_, rfl⟩
  rw [← hLw, ← hBw] at T9
  rw [← hLw] at L9
  have HBw := Lib.hid (Nat.le_of_eq hBw)
  clear hT ht1 ht2 hl1 hl2 hb9 D7 B7 X7 Y7 hB9 hLw hBw
  go_wp2_with fail
  refine (HN.out w9 g F D9.out).mono ?_
  rintro e wn ⟨rfl, hbn⟩
  have Tn := Lib.hid (T9.out.below (hbn.mono HBw.out))
  have Dn := Lib.hid (D9.out.below hbn)
  have Bn := Lib.hid (Below.then_ B9.out hbn)
  have Xn := Lib.hid (blk_below X9.out hbn)
  have Yn := Lib.hid (blk_below Y9.out hbn)
  have HBn := Lib.hid (Nat.le_trans HBw.out hbn.size)
  clear hbn T9 D9 B9 X9 Y9
  have y0 := blk_cell Yn.out
  have yz := lt_of_block Yn.out
  go_wp2_with fail
  refine (HDo.out wn g F Dn.out).mono ?_
  rintro e wo ⟨r', n', rfl, _, F', _, hTo, _⟩
  have TB : Hid (TabW w l k K r A cap ys B cb Lw Bw gt lt ft wo) := Lib.hid
    ⟨Tn.out.turn hTo HBn.out L9.out, Nat.le_trans HBn.out hTo.size, hTo.keep Xn.out (fun hf => by have := HFl.out _ hf; omega), HSo.out, HSy.out, Bn.out.trans (hTo.below (fun b hb => by have := HFl.out b hb; omega) Bn.out.size)⟩
  have XB := Lib.hid TB.out.x
  clear hTo Tn Dn Bn Xn Yn y0 yz HDo HOf HN HFl L9
  have HStp := Lib.hid (fun W (h : TabW w l k K r A cap ys B cb Lw Bw gt lt ft W) => table_Steps h.t hlt)
  have hTs := tab_steps HT1.out
  obtain ⟨T, hT⟩ : ∃ T, T = lt.map (·.1) := ⟨_, rfl⟩
  have hTl : T.length ≤ 67108864 := by rw [hT]; simpa using hlt
  rw [← hT] at HStp hTs
  have HTs := Lib.hid hTs
  clear hT hTs
  go_upto_region 10 with fail
  refine wp_region_noPanic ?_
  refine wp_region_N (fun w' => w'.heap[w.heap.size]? = some (.cells #[.int .i64 l, .int .i64 k, .int .i64 K, .slice A r.length cap] 48 (0, 0))) [] (by kernel_rfl) (XB.out) (fun hHeld => ?_)
  refine wpAnyN_pure (i := 0) (v := Value.pointer (some ⟨gt, 0, none⟩)) rfl (by kernel_rfl) (by kernel_rfl) (by kernel_rfl) (fun _ _ _ h => h) (Or.inl ⟨by rfl, fun W _ => by go_simp⟩) ?_
  try simp only [List.getElem_toArray, List.getElem_cons_zero, List.getElem_cons_succ, Act.put, List.setIfInBounds_toArray, List.set_cons_zero, List.set_cons_succ]
  refine wpAnyN_pure (i := 1) (v := Value.bool false) rfl (by kernel_rfl) (by kernel_rfl) (by kernel_rfl) (fun _ _ _ h => h) (Or.inl ⟨by rfl, fun W _ => by go_simp⟩) ?_
  try simp only [List.getElem_toArray, List.getElem_cons_zero, List.getElem_cons_succ, Act.put, List.setIfInBounds_toArray, List.set_cons_zero, List.set_cons_succ]
  refine wpAnyN_pure (i := 2) (v := Value.bool false) rfl (by kernel_rfl) (by kernel_rfl) (by kernel_rfl) (fun _ _ _ h => h) (Or.inl ⟨by rfl, fun W _ => by go_simp⟩) ?_
  try simp only [List.getElem_toArray, List.getElem_cons_zero, List.getElem_cons_succ, Act.put, List.setIfInBounds_toArray, List.set_cons_zero, List.set_cons_succ]
  refine wpAnyN_pure (i := 3) (v := Value.pointer (some ⟨gt, 0, none⟩)) rfl (by kernel_rfl) (by kernel_rfl) (by kernel_rfl) (fun _ _ _ h => h) (Or.inl ⟨by rfl, fun W _ => by go_simp⟩) ?_
  try simp only [List.getElem_toArray, List.getElem_cons_zero, List.getElem_cons_succ, Act.put, List.setIfInBounds_toArray, List.set_cons_zero, List.set_cons_succ]
  refine wpAnyN_pure (i := 5) (v := Value.int .i64 (sumR r)) rfl (by kernel_rfl) (by kernel_rfl) (by kernel_rfl) (fun _ _ _ h => h) (Or.inl ⟨by rfl, fun W _ => by go_simp⟩) ?_
  try simp only [List.getElem_toArray, List.getElem_cons_zero, List.getElem_cons_succ, Act.put, List.setIfInBounds_toArray, List.set_cons_zero, List.set_cons_succ]
  refine wpAnyN_one (i := 4) (by kernel_rfl) rfl (fun K hK => ?_)
  go_simp
  refine (table_N (TB.out.drew).t).mono ?_
  rintro e wa ⟨rfl, hba⟩
  have TBa := Lib.hid (TabW.below (W := World.drew _) TB.out.drew hba)
  clear hba
  refine hK.out _ _ (fun _ _ => TBa.out.x) ?_
  clear hK K
  try simp only [List.getElem_toArray, List.getElem_cons_zero, List.getElem_cons_succ, Act.put, List.setIfInBounds_toArray, List.set_cons_zero, List.set_cons_succ]
  refine wpAnyN_pure (i := 6) (v := Value.bool false) rfl (by kernel_rfl) (by kernel_rfl) (by kernel_rfl) (fun _ _ _ h => h) (Or.inl ⟨by rfl, fun W _ => by go_simp⟩) ?_
  try simp only [List.getElem_toArray, List.getElem_cons_zero, List.getElem_cons_succ, Act.put, List.setIfInBounds_toArray, List.set_cons_zero, List.set_cons_succ]
  refine wpAnyN_pure (i := 7) (v := Value.bool false) rfl (by kernel_rfl) (by kernel_rfl) (by kernel_rfl) (fun _ _ _ h => h) (Or.inl ⟨by rfl, fun W _ => by go_simp⟩) ?_
  try simp only [List.getElem_toArray, List.getElem_cons_zero, List.getElem_cons_succ, Act.put, List.setIfInBounds_toArray, List.set_cons_zero, List.set_cons_succ]
  refine wpAnyN_pure (i := 8) (v := Value.bool false) rfl (by kernel_rfl) (by kernel_rfl) (by kernel_rfl) (fun _ _ _ h => h) (Or.inl ⟨by rfl, fun W _ => by go_simp⟩) ?_
  try simp only [List.getElem_toArray, List.getElem_cons_zero, List.getElem_cons_succ, Act.put, List.setIfInBounds_toArray, List.set_cons_zero, List.set_cons_succ]
  refine wpAnyN_pure (i := 9) (v := Value.pointer (some ⟨gt, 0, none⟩)) rfl (by kernel_rfl) (by kernel_rfl) (by kernel_rfl) (fun _ _ _ h => h) (Or.inl ⟨by rfl, fun W _ => by go_simp⟩) ?_
  try simp only [List.getElem_toArray, List.getElem_cons_zero, List.getElem_cons_succ, Act.put, List.setIfInBounds_toArray, List.set_cons_zero, List.set_cons_succ]
  refine wpAnyN_pure (i := 11) (v := Value.pointer (some ⟨w.heap.size, 0, none⟩)) rfl (by kernel_rfl) (by kernel_rfl) (by kernel_rfl) (fun _ _ _ h => h) (Or.inl ⟨by rfl, fun W _ => by go_simp⟩) ?_
  try simp only [List.getElem_toArray, List.getElem_cons_zero, List.getElem_cons_succ, Act.put, List.setIfInBounds_toArray, List.set_cons_zero, List.set_cons_succ]
  refine wpAnyN_pure (i := 12) (v := Value.pointer (some ⟨w.heap.size, 0, none⟩)) rfl (by kernel_rfl) (by kernel_rfl) (by kernel_rfl) (fun _ _ _ h => h) (Or.inl ⟨by rfl, fun W _ => by go_simp⟩) ?_
  try simp only [List.getElem_toArray, List.getElem_cons_zero, List.getElem_cons_succ, Act.put, List.setIfInBounds_toArray, List.set_cons_zero, List.set_cons_succ]
  refine wpAnyN_take (i := 13) (v := Value.int .i64 l) rfl (by kernel_rfl) (by kernel_rfl) (by kernel_rfl) (by kernel_rfl) (fun _ _ _ h => h) (Or.inl ⟨by rfl, fun W hW => by have q1 := blk_cell hW; have q2 := lt_of_block hW; go_simp⟩) TBa.out.x ?_
  try simp only [List.getElem_toArray, List.getElem_cons_zero, List.getElem_cons_succ, Act.put, List.setIfInBounds_toArray, List.set_cons_zero, List.set_cons_succ]
  refine wpAnyN_pure (i := 14) (v := Value.pointer (some ⟨w.heap.size, 3, none⟩)) rfl (by kernel_rfl) (by kernel_rfl) (by kernel_rfl) (fun _ _ _ h => h) (Or.inl ⟨by rfl, fun W _ => by go_simp⟩) ?_
  try simp only [List.getElem_toArray, List.getElem_cons_zero, List.getElem_cons_succ, Act.put, List.setIfInBounds_toArray, List.set_cons_zero, List.set_cons_succ]
  refine wpAnyN_take (i := 15) (v := Value.slice A r.length cap) rfl (by kernel_rfl) (by kernel_rfl) (by kernel_rfl) (by kernel_rfl) (fun _ _ _ h => h) (Or.inl ⟨by rfl, fun W hW => by have q1 := blk_cell hW; have q2 := lt_of_block hW; go_simp⟩) TBa.out.x ?_
  try simp only [List.getElem_toArray, List.getElem_cons_zero, List.getElem_cons_succ, Act.put, List.setIfInBounds_toArray, List.set_cons_zero, List.set_cons_succ]
  refine wpAnyN_one (i := 10) (by kernel_rfl) rfl (fun K hK => ?_)
  go_simp
  refine (HStp.out wa TBa.out).mono ?_
  rintro e wb ⟨vS, rfl, hoS, hbb⟩
  obtain ⟨AS, cS, rfl, _⟩ := hoS.form
  have OS := Lib.hid hoS
  have TBb := Lib.hid (TBa.out.below hbb)
  clear hbb hoS
  refine hK.out _ _ (fun _ _ => TBb.out.x) ?_
  clear hK K
  try simp only [List.getElem_toArray, List.getElem_cons_zero, List.getElem_cons_succ, Act.put, List.setIfInBounds_toArray, List.set_cons_zero, List.set_cons_succ]
  refine wpAnyN_one (i := 16) (by kernel_rfl) rfl (fun K hK => ?_)
  go_simp
  refine (HSt.out wb A cap TBb.out.s).mono ?_
  rintro e wc ⟨A2, c2, S2, rfl, hoR, hSR, _, hbc⟩
  have hSe := hSR.unique HTs.out
  subst hSe
  have OR := Lib.hid (And.intro hoR.sl (OS.out.below hbc).sl)
  have TBc := Lib.hid (TBb.out.below hbc)
  clear hbc hoR hSR
  refine hK.out _ _ (fun _ _ => TBc.out.x) ?_
  clear hK K
  try simp only [List.getElem_toArray, List.getElem_cons_zero, List.getElem_cons_succ, Act.put, List.setIfInBounds_toArray, List.set_cons_zero, List.set_cons_succ]
  refine wpAnyN_one (i := 17) (by kernel_rfl) rfl (fun K hK => ?_)
  go_simp
  refine (ref5_Same wc AS A2 cS c2 S2 OR.out.2 OR.out.1 hTl).mono ?_
  rintro e wd ⟨rfl, hbd⟩
  have TBd := Lib.hid (TBc.out.below hbd)
  clear hbd
  refine hK.out _ _ (fun _ _ => TBd.out.x) ?_
  clear hK K
  try simp only [List.getElem_toArray, List.getElem_cons_zero, List.getElem_cons_succ, Act.put, List.setIfInBounds_toArray, List.set_cons_zero, List.set_cons_succ]
  refine wpAnyN_pure (i := 18) (v := Value.bool false) rfl (by kernel_rfl) (by kernel_rfl) (by kernel_rfl) (fun _ _ _ h => h) (Or.inl ⟨by rfl, fun W _ => by go_simp⟩) ?_
  try simp only [List.getElem_toArray, List.getElem_cons_zero, List.getElem_cons_succ, Act.put, List.setIfInBounds_toArray, List.set_cons_zero, List.set_cons_succ]
  refine wpAnyN_one (i := 19) (by kernel_rfl) rfl (fun K hK => ?_)
  go_simp
  refine hK.out _ _ (fun _ _ => TBd.out.x) ?_
  clear hK K
  try simp only [List.getElem_toArray, List.getElem_cons_zero, List.getElem_cons_succ, Act.put, List.setIfInBounds_toArray, List.set_cons_zero, List.set_cons_succ]
  refine wpAnyN_done (by kernel_rfl) ?_ _
  refine NoPanic.normal ?_
  have RW := Lib.hid TBd.out
  clear TB TBa TBb TBc TBd XB OS OR hHeld HSt
  have hlr1 := Lib.hid (fun y => (HT1.out.upT y).trans (low_up (l : Int) r y))
  have hlr2 := Lib.hid (fun y => (HT2.out.upT y).trans (high_up (l : Int) r y))
  have rise1 := Lib.hid HT1.out.rise
  have rise2 := Lib.hid HT2.out.rise
  go_wp2_with fail
  go_loopw [87] (fun i wr => ∃ q : Nat, q ≤ ys.length ∧ i = .int .i64 q ∧ TabW w l k K r A cap ys B cb Lw Bw gt lt ft wr) (fun i _ => ys.length - (intOf i).toNat)
  case atStart => exact ⟨0, Nat.zero_le _, rfl, RW.out⟩
  case round =>
    obtain ⟨q, hq, rfl, hR⟩ := hrel
    have R := Lib.hid hR
    clear hR
    by_cases hlt2 : q < ys.length
    · have hqi : (q : Int) < (ys.length : Int) := by omega
      obtain ⟨b, off, rfl, hb, hc⟩ := R.out.ys'.at_ hlt2
      have d0 := hc 0 (.int .i64 ys[q]) rfl
      simp only [Nat.mul_one, Nat.add_zero] at d0
      have e1 := hlr1.out ys[q]
      have e2 := hlr2.out ys[q]
      obtain ⟨y, hy⟩ : ∃ y, y = ys[q] := ⟨_, rfl⟩
      rw [← hy] at d0 e1 e2
      have HLo := Lib.hid (fun W h => HRL.out W A cap y h)
      have HHi := Lib.hid (fun W h => HRH.out W A cap y h)
      have x0 := blk_cell R.out.x
      have xz := lt_of_block R.out.x
      have HTL := Lib.hid (fun W (h : TabW w l k K r A cap ys (some ⟨b, off, none⟩) cb Lw Bw gt lt ft W) => table_Low y h.t hlt rise1.out)
      have HTH := Lib.hid (fun W (h : TabW w l k K r A cap ys (some ⟨b, off, none⟩) cb Lw Bw gt lt ft W) => table_High y h.t hft rise2.out)
      have HTB := Lib.hid (fun W (h : TabW w l k K r A cap ys (some ⟨b, off, none⟩) cb Lw Bw gt lt ft W) => table_Both y h.t h.hB hlt rise1.out hft rise2.out)
      rw [e1] at HTL
      rw [e2] at HTH
      rw [e1, e2] at HTB
      generalize lowOf l r y = lo at HLo HTL HTB
      generalize highOf l r y = hi at HHi HTH HTB
      clear hc hy e1 e2
      go_wp2_with fail
      refine wp_region_ext (by kernel_rfl) (by kernel_rfl) ?_
      repeat (go_big_quiet_step (first | (go_at_call 30; exact quiet_ext (HLo.out _ (R.out.s.keep (ext_below _ _).size fun p hp => (ext_below _ _).cell hp))) | (go_at_call 31; exact quiet_ext (HHi.out _ (R.out.s.keep (ext_below _ _).size fun p hp => (ext_below _ _).cell hp)))))
      refine wpQuiet_nil ?_
      intro w2 hb2
      replace hb2 := below_of_ext hb2
      have R2 := Lib.hid (R.out.below hb2)
      clear hb2 R x0 xz d0 hb
      go_wp2_with fail
      refine (HTL.out w2 R2.out).mono ?_
      rintro e w3 ⟨rfl, hb3⟩
      have R3 := Lib.hid (R2.out.below hb3)
      clear hb3 R2
      go_wp2_with fail
      refine (HTH.out w3 R3.out).mono ?_
      rintro e w4 ⟨rfl, hb4⟩
      have R4 := Lib.hid (R3.out.below hb4)
      clear hb4 R3
      go_wp2_with fail
      refine (HTB.out w4 R4.out).mono ?_
      rintro e w5 ⟨rfl, hb5⟩
      have R5 := Lib.hid (R4.out.below hb5)
      clear hb5 R4
      go_wp2_with fail
      go_roundw
      case rel => exact ⟨q + 1, by omega, by go_num, R5.out⟩
      case measure => simp [intOf]; omega
    · obtain rfl : q = ys.length := by omega
      have hqi : decide ((ys.length : Int) < (ys.length : Int)) = false := by simp
      go_wp2_with fail
      refine (alive16 _).mono ?_
      rintro e w2 ⟨rfl, hb2⟩
      have R2 := Lib.hid (R.out.below hb2)
      go_wp2_with fail
      go_ret
      exact ⟨rfl, R2.out.blw⟩
theorem law_RankTables (l k K : Int) (r : List Nd) (A : Option Addr) (cap : Nat) (ys : List Int) (B : Option Addr) (cb : Nat) (o : Op3) (W : World) (hS : Sl W W.heap.size encN A r) (hI : ints r) (_ : i64 l) (_ : i64 k) (_ : i64 K) (hm : r.length ≤ maxLen) (hSy : Sl W W.heap.size encZ B ys) (_ : ∀ x ∈ ys, i64 x) (hmy : ys.length ≤ maxLen) (_ : i64 o.1) (_ : i64 o.2.1) (_ : i64 o.2.2) :
    Calls Tryz.prog 5 #[loadedV l k K A r.length cap, .slice B ys.length cb, .agg #[.int .i64 o.1, .int .i64 o.2.1, .int .i64 o.2.2]] W fun e W' => e = .returned (.bool true) ∧ Below W.heap.size W W' := by
  by_cases h : goodL l k K r ∧ ys.length ≤ 50
  · obtain ⟨hg, hy⟩ := h
    obtain ⟨n, m, rfl, rfl⟩ := goodL_nat hg.2.2
    exact law_RankTables_yes n m k r A cap ys B cb o W hg hy hS hI hSy
  · exact law_RankTables_no l k K r A cap ys B cb o W h hS hI hm hmy
end Go.Proofs.YtcjnchjmpkapmaaGreat
