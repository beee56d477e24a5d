/-
  Texts of this proof, one behind the other: Ref16S, TabSteps.
-/
import Derived.Deep.DeepCutAuto
import Derived.Test.YtcjnchjmpkapmaaGreatP2
import Derived.Test.YtcjnchjmpkapmaaGreatR5
import Derived.Test.YtcjnchjmpkapmaaGreatR7
/- Reference 16: Steps. -/
set_option linter.unusedSimpArgs false namespace Go.Proofs.YtcjnchjmpkapmaaGreat
open Go.ChangeShapes Go.WideShapes Go.ChangeAt Go.RowKit
set_option linter.unusedVariables false
set_option linter.unusedSimpArgs false
set_option maxRecDepth 100000

structure StepsIs (l : Int) (r : List Nd) (S : List Int) : Prop where
  up : S.Pairwise (· < ·)
  mem : ∀ z, z ∈ S ↔ ∃ x ∈ r, (endsOf l x.1).2.1 = z
theorem up_ext {S T : List Int} (hS : S.Pairwise (· < ·)) (hT : T.Pairwise (· < ·)) (h : ∀ z, z ∈ S ↔ z ∈ T) : S = T := by
  induction S generalizing T with
  | nil =>
    cases T with
    | nil => rfl
    | cons y T => have := (h y).2 (by simp); simp at this
  | cons x S ih =>
    cases T with
    | nil => have := (h x).1 (by simp); simp at this
    | cons y T =>
      obtain ⟨s1, s2⟩ := List.pairwise_cons.1 hS
      obtain ⟨t1, t2⟩ := List.pairwise_cons.1 hT
      have e : x = y := by
        rcases List.mem_cons.1 ((h x).1 (by simp)) with e | hx
        · exact e
        · rcases List.mem_cons.1 ((h y).2 (by simp)) with e | hy
          · exact e.symm
          · have := s1 y hy; have := t1 x hx; omega
      subst e
      congr 1
      refine ih s2 t2 fun z => ?_
      constructor
      · intro hz
        have := s1 z hz
        rcases List.mem_cons.1 ((h z).1 (List.mem_cons_of_mem _ hz)) with e | hz'
        · omega
        · exact hz'
      · intro hz
        have := t1 z hz
        rcases List.mem_cons.1 ((h z).2 (List.mem_cons_of_mem _ hz)) with e | hz'
        · omega
        · exact hz'
theorem StepsIs.unique {l : Int} {r : List Nd} {S T : List Int} (h : StepsIs l r S) (k : StepsIs l r T) : S = T := up_ext h.up k.up fun z => (h.mem z).trans (k.mem z).symm
theorem StepsIs.nil (l : Int) : StepsIs l [] [] := ⟨.nil, by simp⟩
theorem steps_take {l : Int} {r : List Nd} {q : Nat} (hq : q < r.length) (z : Int) : (∃ x ∈ r.take (q + 1), (endsOf l x.1).2.1 = z) ↔ (∃ x ∈ r.take q, (endsOf l x.1).2.1 = z) ∨ (endsOf l r[q].1).2.1 = z := by
  rw [List.take_succ_eq_append_getElem hq]
  constructor
  · rintro ⟨x, hx, e⟩
    rcases List.mem_append.1 hx with hx | hx
    · exact .inl ⟨x, hx, e⟩
    · rw [List.mem_singleton.1 hx] at e; exact .inr e
  · rintro (⟨x, hx, e⟩ | e)
    · exact ⟨x, List.mem_append_left _ hx, e⟩
    · exact ⟨r[q], List.mem_append_right _ (by simp), e⟩
theorem StepsIs.same {l : Int} {r : List Nd} {q : Nat} {S : List Int} (h : StepsIs l (r.take q) S) (hq : q < r.length) {a : Nat} (ha : a < S.length) (he : S[a] = (endsOf l r[q].1).2.1) : StepsIs l (r.take (q + 1)) S := by
  refine ⟨h.up, fun z => ?_⟩
  rw [steps_take hq, ← h.mem]
  constructor
  · exact .inl
  · rintro (h1 | h1)
    · exact h1
    · rw [← h1, ← he]; exact List.getElem_mem ha
theorem StepsIs.more {l : Int} {r : List Nd} {q : Nat} {S : List Int} (h : StepsIs l (r.take q) S) (hq : q < r.length) {a : Nat} (hx : ∀ z ∈ S.take a, z < (endsOf l r[q].1).2.1) (hy : ∀ (ha : a < S.length), (endsOf l r[q].1).2.1 < S[a]) : StepsIs l (r.take (q + 1)) (S.take a ++ [(endsOf l r[q].1).2.1] ++ S.drop a) := by
  obtain ⟨x, hxe⟩ : ∃ x, x = (endsOf l r[q].1).2.1 := ⟨_, rfl⟩
  rw [← hxe] at hx hy ⊢
  have hy2 : ∀ z ∈ S.drop a, x < z := by
    intro z hz
    by_cases ha : a < S.length
    · rw [List.drop_eq_getElem_cons ha] at hz
      have hp : (S.drop a).Pairwise (· < ·) := h.up.drop
      rw [List.drop_eq_getElem_cons ha] at hp
      rcases List.mem_cons.1 hz with rfl | hz
      · exact hy ha
      · have := (List.pairwise_cons.1 hp).1 z hz
        have := hy ha
        omega
    · rw [List.drop_eq_nil_of_le (by omega)] at hz; simp at hz
  refine ⟨?_, fun z => ?_⟩
  · rw [List.append_assoc, List.pairwise_append]
    refine ⟨h.up.take, ?_, ?_⟩
    · rw [List.singleton_append, List.pairwise_cons]
      exact ⟨hy2, h.up.drop⟩
    · intro u hu v hv
      have h1 := hx u hu
      rw [List.singleton_append] at hv
      rcases List.mem_cons.1 hv with rfl | hv
      · exact h1
      · have := hy2 v hv; omega
  · rw [steps_take hq, ← h.mem]
    have : z ∈ S ↔ z ∈ S.take a ∨ z ∈ S.drop a := by
      conv => lhs; rw [← List.take_append_drop a S]
      exact List.mem_append
    rw [this, ← hxe]
    simp only [List.mem_append, List.mem_singleton]
    constructor
    · rintro ((h | h) | h)
      · exact .inl (.inl h)
      · exact .inr h.symm
      · exact .inl (.inr h)
    · rintro ((h | h) | h)
      · exact .inl (.inl h)
      · exact .inr h
      · exact .inl (.inr h.symm)
def pickB (c : Prop) [Decidable c] (x y : Option Addr) : Option Addr := if c then x else y
theorem slice_pickB (c : Prop) [Decidable c] (x y : Option Addr) (n m : Nat) : Value.slice (if c then x else y) n m = Value.slice (pickB c x y) n m := rfl
theorem sl_pickB {w : World} {B : Nat} {c : Prop} [Decidable c] {x y : Option Addr} {l : List Int} (h : c → l = []) (h2 : Sl w B encZ y l) : Sl w B encZ (pickB c x y) l := by
  unfold pickB
  by_cases hc : c
  · rw [if_pos hc]; exact .inl (h hc)
  · rw [if_neg hc]; exact h2
section
attribute [local go_sem] slice_pickB
set_option maxHeartbeats 8000000 in
theorem ref16_Steps (w : World) (l : Int) (A : Option Addr) (cap : Nat) (r : List Nd) (hS : Sl w w.heap.size encN A r) (hI : ints r) (hlen : r.length ≤ 65536) :
    Calls Tryz.prog 29 #[.int .i64 l, .slice A r.length cap] w fun e w' => ∃ (A' : Option Addr) (cap' : Nat) (S : List Int), e = .returned (.slice A' S.length cap') ∧ Own w' w.heap.size 3 encZ (.slice A' S.length cap') S ∧ StepsIs l r S ∧ S.length ≤ r.length ∧ Below w.heap.size w w' := by
  have HS := Lib.hid hS
  have HI := Lib.hid hI
  clear hS hI
  go_enter Tryz.func29, Tryz.ntmps29
  go_wp2_with fail
  go_loopw [5, 6] (fun o j wr => ∃ (q : Nat) (S : List Int), q ≤ r.length ∧ j = .int .i64 q ∧ Own wr w.heap.size 3 encZ o S ∧ (S = [] → o = .slice none 0 0) ∧ StepsIs l (r.take q) S ∧ S.length ≤ q ∧ Below w.heap.size w wr) (fun _ j _ => r.length - (intOf j).toNat)
  case atStart => exact ⟨0, [], Nat.zero_le _, rfl, .nil _ _ _ _, fun _ => rfl, .nil l, by simp, Below.refl _ _⟩
  case round =>
    obtain ⟨q, S, hq, rfl, ho, hn, hSt, hSl, hB⟩ := hrel
    have HO := Lib.hid ho
    have HN := Lib.hid hn
    have HSt := Lib.hid hSt
    have HB := Lib.hid hB
    by_cases hlt : q < r.length
    · obtain ⟨b, off, rfl, hb, hc⟩ := HS.out.at_ hlt
      have d0 := (hB.cell (p := ⟨b, off + q * 2, none⟩) hb).trans (by have := hc 0 (.int .i64 r[q].1) rfl; simpa using this)
      have lb : b < wr.heap.size := Nat.lt_of_lt_of_le hb hB.size
      have HE := Lib.hid (fun W => ref2_Ends W l r[q].1 ((HI.out _ (List.getElem_mem hlt)).1.2))
      have hqi : (q : Int) < (r.length : Int) := by omega
      have HSame := Lib.hid (fun (a : Nat) (ha : a < S.length) he => HSt.out.same hlt ha he)
      have HMore := Lib.hid (fun (a : Nat) hx hy => HSt.out.more (a := a) hlt hx hy)
      obtain ⟨e1, e2, e3, he⟩ : ∃ a b c, endsOf l r[q].1 = (a, b, c) := ⟨_, _, _, rfl⟩
      rw [he] at HE HSame HMore
      unfold endsV at HE
      simp only at HE HSame HMore
      obtain ⟨x, hx⟩ : ∃ x, x = r[q].1 := ⟨_, rfl⟩
      rw [← hx] at d0 HE
      clear hc hx he ho hn hSt hB
      obtain ⟨Ao, co, rfl, _⟩ := HO.out.form
      go_wp2_with fail
      refine (HE.out _).mono ?_
      rintro e w2 ⟨rfl, hb2⟩
      have HB2 := Lib.hid (Below.then_ HB.out hb2)
      have HO2 := Lib.hid (HO.out.below hb2)
      clear hb2 d0 lb hb HO HB
      go_wp2_with fail
      go_loopw [10] (fun at_ W => ∃ a : Nat, at_ = .int .i64 a ∧ a ≤ S.length ∧ (∀ z ∈ S.take a, z < e2) ∧ w2 = W) (fun at_ _ => S.length - (intOf at_).toNat)
      case atStart => exact ⟨0, rfl, Nat.zero_le _, by simp, rfl⟩
      case round =>
        obtain ⟨a, rfl, ha, hX, rfl⟩ := hrel
        have HX2 := Lib.hid hX
        clear hX
        rcases Nat.eq_or_lt_of_le ha with hae | hal
        · have HY2 : Hid (∀ (h : a < S.length), e2 < S[a]) := Lib.hid (fun h => by omega)
          by_cases hS0 : S = []
          · subst hS0
            have hv := HN.out rfl
            injection hv with hv1 hv2 hv3
            subst hv1 hv3
            simp only [List.length_nil] at hae
            subst hae
            have HTl : Hid (([] : List Int).length = 0) := Lib.hid rfl
            have TP : Hid (Sl w2 w2.heap.size encZ none ([] : List Int)) := Lib.hid .nil
            have s2 := HB2.out.size
            (
              have O3 : Hid (Own w2 w2.heap.size 3 encZ (.slice none 0 0) ([] : List Int)) := Lib.hid (.nil _ _ _ _)
              have B3 := Lib.hid (Below.refl w2.heap.size w2)
              have s3 := Nat.le_refl w2.heap.size
              go_wp2_with ((at_builtin; refine wpList_push tyZ rfl _ _ rfl encZ w2 w2.heap.size (.slice none 0 0) ([] : List Int) rfl O3.out e2 rfl rfl ?dx1 ?dx2 ?dx3 ?dx4))
              try case dx1 => have := HTl.out; omega
              try case dx2 => have := HTl.out; simp only [maxLen]; omega
              try case dx3 => exact s3
              case dx4 =>
                intro v4 w4 ho4 hg4 _ _ hb4 _
                have O4 := Lib.hid ho4
                have B4 := Lib.hid (B3.out.trans hb4)
                have s4 := B4.out.size
                clear ho4 hg4 hb4
                have TDx : Hid (Sl w4 w4.heap.size encZ none ([] : List Int)) := Lib.hid .nil
                have H4l : Hid ((([] : List Int) ++ [e2]).length = 0 + 1) := Lib.hid rfl
                have HDl : Hid (([] : List Int).length = 0 - 0) := Lib.hid rfl
                go_wp2_with ((at_builtin; refine wpList_app tyZ rfl _ _ rfl encZ w2.heap.size v4 _ rfl O4.out none 0 [] w4.heap.size rfl TDx.out ?ex1 ?ex2 ?ex3 ?ex4))
                case ex1 => simp
                case ex2 => simp [maxLen]
                try case ex3 => exact s4
                case ex4 =>
                  intro v5 w5 ho5 hg5 _ hb5
                  have O5 := Lib.hid ho5
                  have B5 := Lib.hid (HB2.out.trans ((B4.out.trans hb5).mono HB2.out.size))
                  clear ho5 hg5 hb5
                  go_wp2_with fail
                  go_roundw
                  case rel => exact ⟨q + 1, ([] : List Int) ++ [e2] ++ ([] : List Int), by omega, by go_num, by have h := O5.out.base_le s2; simpa using h, fun h => by simp at h, by have := HMore.out 0 (by simp) (by simp); simpa using this, by simp, B5.out⟩
                  case measure => simp [intOf]; omega
            )
          · obtain ⟨bo, oo, co', hv, hcap'⟩ := own_at0 HO2.out (List.length_pos_iff.2 hS0)
            injection hv with hv1 hv2 hv3
            subst hv1 hv3
            have hd1 : decide (a < S.length) = false := by simp; omega
            have hd2 : decide ((a : Int) < (S.length : Int)) = false := by simp; omega
            clear hae
            have HTl : Hid ((S.take a).length = a) := Lib.hid (by rw [List.length_take]; omega)
            have HDl : Hid ((S.drop a).length = S.length - a) := Lib.hid (by rw [List.length_drop])
            have TP := Lib.hid ((HO2.out.sl).take a)
            have hac : a ≤ co := by have := HO2.out.len_le.2.1; omega
            have hco := HO2.out.len_le.2.1
            have s2 := HB2.out.size
            go_upto_region 11 with fail
            go_wp2_with ((at_builtin; refine wpList_app tyZ rfl _ _ rfl encZ w2.heap.size (.slice none 0 0) [] rfl (Own.nil _ _ _ _) (some ⟨bo, oo, none⟩) co (S.take a) w2.heap.size (by rw [HTl.out]; rfl) TP.out ?cy1 ?cy2 ?cy3 ?cy4))
            case cy1 => have := HTl.out; (try simp only [List.length_nil]); omega
            case cy2 => have := HTl.out; simp only [maxLen]; (try simp only [List.length_nil]); omega
            try case cy3 => exact Nat.le_refl _
            case cy4 =>
              intro v3 w3 ho3 hg3 _ hb3 _
              try rw [List.nil_append] at ho3
              have O3 := Lib.hid ho3
              have B3 := Lib.hid hb3
              have s3 := hb3.size
              clear ho3 hg3 hb3
              go_wp2_with ((at_builtin; refine wpList_push tyZ rfl _ _ rfl encZ w3 w2.heap.size v3 (S.take a) rfl O3.out e2 rfl rfl ?dy1 ?dy2 ?dy3 ?dy4))
              try case dy1 => have := HTl.out; omega
              try case dy2 => have := HTl.out; simp only [maxLen]; omega
              try case dy3 => exact s3
              case dy4 =>
                intro v4 w4 ho4 hg4 _ _ hb4 _
                have O4 := Lib.hid ho4
                have B4 := Lib.hid (B3.out.trans hb4)
                have s4 := B4.out.size
                clear ho4 hg4 hb4
                have TD := Lib.hid ((HO2.out.below B4.out).sl.drop a)
                simp only [Nat.mul_one] at TD
                have TDx := Lib.hid (sl_pickB (c := co = a) (x := some ⟨bo, oo, none⟩) (fun h => List.drop_eq_nil_of_le (by omega)) TD.out)
                have h4l : (S.take a ++ [e2]).length = a + 1 := by rw [List.length_append, HTl.out]; rfl
                have H4l := Lib.hid h4l
                clear h4l
                go_wp2_with ((at_builtin; refine wpList_app tyZ rfl _ _ rfl encZ w2.heap.size v4 _ rfl O4.out (pickB (co = a) (some ⟨bo, oo, none⟩) (some ⟨bo, oo + a, none⟩)) (co - a) (S.drop a) w4.heap.size (by rw [HDl.out]; rfl) TDx.out ?ey1 ?ey2 ?ey3 ?ey4))
                try case ey1 => have := H4l.out; have := HDl.out; omega
                try case ey2 => have := H4l.out; have := HDl.out; simp only [maxLen]; omega
                try case ey3 => exact s4
                case ey4 =>
                  intro v5 w5 ho5 hg5 _ hb5 _
                  have O5 := Lib.hid ho5
                  have B5 := Lib.hid (HB2.out.trans ((B4.out.trans hb5).mono HB2.out.size))
                  clear ho5 hg5 hb5
                  go_wp2_with fail
                  go_roundw
                  case rel => exact ⟨q + 1, (S.take a) ++ [e2] ++ (S.drop a), by omega, by go_num, by have h := O5.out.base_le s2; simpa using h, fun h => by simp at h, HMore.out a HX2.out HY2.out, by rw [List.length_append, H4l.out, HDl.out]; omega, B5.out⟩
                  case measure => simp [intOf]; omega
        · obtain ⟨bo, oo, co', hv, hcap'⟩ := own_at0 HO2.out (by omega)
          injection hv with hv1 hv2 hv3
          subst hv1 hv3
          have d1 := HO2.out.slT.cell_at hal 0 (.int .i64 S[a]) rfl
          simp only [Nat.mul_one, Nat.add_zero] at d1
          have zb1 := (HO2.out.lt bo rfl).2
          have hai : (a : Int) < (S.length : Int) := by omega
          obtain ⟨y, hy⟩ : ∃ y, y = S[a] := ⟨_, rfl⟩
          rw [← hy] at d1
          have HYs := Lib.hid hy
          clear hy
          by_cases hlt2 : y < e2
          · go_wp2_with fail
            go_roundw
            case rel => exact ⟨a + 1, by go_num, by omega, fun z hz => by
              rw [List.take_succ_eq_append_getElem hal] at hz
              rcases List.mem_append.1 hz with hz | hz
              · exact HX2.out z hz
              · rw [List.mem_singleton.1 hz, ← HYs.out]; exact hlt2, by first | rfl | trivial⟩
            case measure => simp [intOf]; omega
          · have hd3 : decide (y < e2) = false := by simpa using hlt2
            by_cases he : y = e2
            · have hye : (y == e2) = true := by simpa using he
              clear hlt2
              go_wp2_with fail
              go_roundw
              case rel => exact ⟨q + 1, S, by omega, by go_num, HO2.out, HN.out, HSame.out a hal (by rw [← HYs.out]; exact he), by omega, HB2.out⟩
              case measure => simp [intOf]; omega
            · have hye : (y == e2) = false := by simpa using he
              have HY2 : Hid (∀ (h : a < S.length), e2 < S[a]) := Lib.hid (fun h => by rw [← HYs.out]; omega)
              clear hlt2
              have HTl : Hid ((S.take a).length = a) := Lib.hid (by rw [List.length_take]; omega)
              have HDl : Hid ((S.drop a).length = S.length - a) := Lib.hid (by rw [List.length_drop])
              have TP := Lib.hid ((HO2.out.sl).take a)
              have hac : a ≤ co := by have := HO2.out.len_le.2.1; omega
              have hco := HO2.out.len_le.2.1
              have s2 := HB2.out.size
              go_upto_region 11 with fail
              go_wp2_with ((at_builtin; refine wpList_app tyZ rfl _ _ rfl encZ w2.heap.size (.slice none 0 0) [] rfl (Own.nil _ _ _ _) (some ⟨bo, oo, none⟩) co (S.take a) w2.heap.size (by rw [HTl.out]; rfl) TP.out ?cz1 ?cz2 ?cz3 ?cz4))
              case cz1 => have := HTl.out; (try simp only [List.length_nil]); omega
              case cz2 => have := HTl.out; simp only [maxLen]; (try simp only [List.length_nil]); omega
              try case cz3 => exact Nat.le_refl _
              case cz4 =>
                intro v3 w3 ho3 hg3 _ hb3 _
                try rw [List.nil_append] at ho3
                have O3 := Lib.hid ho3
                have B3 := Lib.hid hb3
                have s3 := hb3.size
                clear ho3 hg3 hb3
                go_wp2_with ((at_builtin; refine wpList_push tyZ rfl _ _ rfl encZ w3 w2.heap.size v3 (S.take a) rfl O3.out e2 rfl rfl ?dz1 ?dz2 ?dz3 ?dz4))
                try case dz1 => have := HTl.out; omega
                try case dz2 => have := HTl.out; simp only [maxLen]; omega
                try case dz3 => exact s3
                case dz4 =>
                  intro v4 w4 ho4 hg4 _ _ hb4 _
                  have O4 := Lib.hid ho4
                  have B4 := Lib.hid (B3.out.trans hb4)
                  have s4 := B4.out.size
                  clear ho4 hg4 hb4
                  have TD := Lib.hid ((HO2.out.below B4.out).sl.drop a)
                  simp only [Nat.mul_one] at TD
                  have TDx := Lib.hid (sl_pickB (c := co = a) (x := some ⟨bo, oo, none⟩) (fun h => List.drop_eq_nil_of_le (by omega)) TD.out)
                  have h4l : (S.take a ++ [e2]).length = a + 1 := by rw [List.length_append, HTl.out]; rfl
                  have H4l := Lib.hid h4l
                  clear h4l
                  go_wp2_with ((at_builtin; refine wpList_app tyZ rfl _ _ rfl encZ w2.heap.size v4 _ rfl O4.out (some ⟨bo, oo + a, none⟩) (co - a) (S.drop a) w4.heap.size (by rw [HDl.out]; rfl) TD.out ?ez1 ?ez2 ?ez3 ?ez4))
                  try case ez1 => have := H4l.out; have := HDl.out; omega
                  try case ez2 => have := H4l.out; have := HDl.out; simp only [maxLen]; omega
                  try case ez3 => exact s4
                  case ez4 =>
                    intro v5 w5 ho5 hg5 _ hb5 _
                    have O5 := Lib.hid ho5
                    have B5 := Lib.hid (HB2.out.trans ((B4.out.trans hb5).mono HB2.out.size))
                    clear ho5 hg5 hb5
                    go_wp2_with fail
                    go_roundw
                    case rel => exact ⟨q + 1, (S.take a) ++ [e2] ++ (S.drop a), by omega, by go_num, by have h := O5.out.base_le s2; simpa using h, fun h => by simp at h, HMore.out a HX2.out HY2.out, by rw [List.length_append, H4l.out, HDl.out]; omega, B5.out⟩
                    case measure => simp [intOf]; omega
    · obtain rfl : q = r.length := by omega
      have hqi : decide ((r.length : Int) < (r.length : Int)) = false := by simp
      rw [List.take_length] at HSt
      obtain ⟨Ao, co, rfl, _⟩ := HO.out.form
      go_wp2_with fail
      go_ret
      exact ⟨Ao, co, S, rfl, HO.out, HSt.out, hSl, HB.out⟩
end
end Go.Proofs.YtcjnchjmpkapmaaGreat
/- Where a table's sums grow. -/
namespace Go.Proofs.YtcjnchjmpkapmaaGreat
open Go.ChangeShapes Go.WideShapes Go.ChangeAt Go.RowKit
set_option linter.unusedVariables false

theorem tab_steps {l : Int} {r lt : List Nd} (h : Tab (lastL l r) lt) : StepsIs l r (lt.map (·.1)) := by
  refine ⟨?_, fun z => ?_⟩
  · rw [List.pairwise_map]; exact h.rise
  · rw [List.mem_map]
    constructor
    · rintro ⟨y, hy, rfl⟩
      obtain ⟨u, hu, e⟩ := h.of y hy
      unfold lastL at hu
      obtain ⟨x, hx, rfl⟩ := List.mem_map.1 hu
      exact ⟨x, hx, e⟩
    · rintro ⟨x, hx, rfl⟩
      obtain ⟨y, hy, e⟩ := h.all ((endsOf l x.1).2.1, x.2) (List.mem_map.2 ⟨x, hx, rfl⟩)
      exact ⟨y, hy, e⟩
end Go.Proofs.YtcjnchjmpkapmaaGreat
