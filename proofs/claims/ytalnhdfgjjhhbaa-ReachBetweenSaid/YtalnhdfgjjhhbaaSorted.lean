/- Package roll: lists in order. -/
import Derived.Test.YtalnhdfgjjhhbaaRoll
import Derived.WalkSpells
import Derived.Deep.RegionHeld3
import Derived.Deep.RegionLaw
import Derived.Deep.DrawnRows
namespace Go.Proofs.Ytalnhdfgjjhhbaa
open Go.ChangeShapes Go.WideShapes Go.ChangeAt Go.RowKit
set_option linter.unusedVariables false
attribute [local go_sem ↓] Go.wp_at_zero Go.wp_at_succ

def leN (a b : Nd) : Bool := !decide (b.1 < a.1)
/-- A list in order, those of which none stands ahead as they stood. -/
def msort (l : List Nd) : List Nd := if h : l.length < 2 then l else List.merge (msort (l.take (l.length / 2))) (msort (l.drop (l.length / 2))) leN
termination_by l.length
decreasing_by
  · simp; omega
  · simp; omega
theorem msort_perm (l : List Nd) : (msort l).Perm l := by
  induction hn : l.length using Nat.strongRecOn generalizing l with
  | _ n ih =>
    rw [msort]
    split
    · exact .refl _
    · rename_i h
      refine (List.merge_perm_append leN).trans (((ih _ ?_ _ rfl).append (ih _ ?_ _ rfl)).trans ?_)
      · simp; omega
      · simp; omega
      · rw [List.take_append_drop]
theorem msort_sorted (l : List Nd) : (msort l).Pairwise fun a b => a.1 ≤ b.1 := by
  induction hn : l.length using Nat.strongRecOn generalizing l with
  | _ n ih =>
    rw [msort]
    split
    · rename_i h
      rcases l with _ | ⟨x, _ | ⟨y, l⟩⟩
      · exact .nil
      · exact List.pairwise_singleton _ _
      · simp at h; omega
    · rename_i h
      have h1 := ih _ (by simp; omega) (l.take (l.length / 2)) rfl
      have h2 := ih _ (by simp; omega) (l.drop (l.length / 2)) rfl
      have := List.pairwise_merge (le := leN) (fun a b c h1 h2 => by simp [leN] at *; omega) (fun a b => by simp [leN]; omega) _ _ (h1.imp fun {a b} h => show leN a b = true by simpa [leN] using h) (h2.imp fun {a b} h => show leN a b = true by simpa [leN] using h)
      exact this.imp fun h => by simpa [leN] using h
theorem msort_len (l : List Nd) : (msort l).length = l.length := (msort_perm l).length_eq
/-- A roll's nodes, in whatever order, come in order. -/
theorem msort_roll {l r : List Nd} (h : l.Perm r) (hr : Roll r) : msort l = r := by
  refine ((msort_perm l).trans h).eq_of_pairwise (le := fun a b : Nd => a.1 ≤ b.1) ?_ (msort_sorted l) (hr.1.imp fun h => by omega)
  intro a b ha hb h1 h2
  have ha' : a ∈ r := ((msort_perm l).trans h).mem_iff.1 ha
  have e1 : a.1 = b.1 := by omega
  have := getR_mem hr ha'
  have := getR_mem hr hb
  exact Prod.ext e1 (by rw [e1] at *; omega)

theorem roll_ahead (w : World) (x y : Nd) : Calls Try.prog 109 #[.agg #[.int .i64 x.1, .int .i64 x.2], .agg #[.int .i64 y.1, .int .i64 y.2]] w fun e w' => e = .returned (.bool (decide (x.1 < y.1))) ∧ Below w.heap.size w w' := by
  go_enter Try.func109, Try.ntmps109
  go_wp2_with fail
  go_ret
  exact ⟨rfl, (by repeat (first | with_reducible exact Below.refl _ _ | with_reducible assumption | ((with_reducible refine Below.setCell ?_ ?_ _); rotate_left; · (first | omega | exact Nat.le_refl _ | (simp <;> omega))) | (with_reducible refine Below.allocW ?_ _) | (with_reducible refine Below.drew ?_) | (with_reducible refine Below.extW ?_ _)))⟩

/-- The call's own list: a value, and what became of the world. -/
def OwnPost {α : Type} {size : Nat} (e : TypeId) (E : Enc α size) (l : List α) (w : World) (en : Ending) (w' : World) : Prop := ∃ v, en = .returned v ∧ Own w' w.heap.size e E v l ∧ Below w.heap.size w w'

@[go_sem] theorem run_eqN_nil (w : World) (A : Option Addr) (n c : Nat) : (binOp .eql 24 (.slice A n c) (.slice none 0 0)).run Try.prog w = .ok (.bool A.isNone) w := Lib.run_eql_slice_nil w _ 59 A n c 0 0 Try.underlying24
set_option maxRecDepth 100000 in
theorem clone_N (w : World) (A : Option Addr) (cap : Nat) (l : List Nd) (hS : Sl w w.heap.size encN A l) (hn : l.length ≤ 67108864) :
    Calls Try.prog 112 #[.slice A l.length cap] w (OwnPost 59 encN l w) := by
  rcases A with _ | a
  · have h0 : l = [] := by
      rcases hS with h | ⟨b, off, hA, _⟩
      · exact h
      · cases hA
    subst h0
    go_enter Try.func112, Try.ntmps112
    go_wp2_with fail
    go_ret
    exact ⟨_, rfl, Own.nil _ _ _ _, (by repeat (first | with_reducible exact Below.refl _ _ | with_reducible assumption | ((with_reducible refine Below.setCell ?_ ?_ _); rotate_left; · (first | omega | exact Nat.le_refl _ | (simp <;> omega))) | (with_reducible refine Below.allocW ?_ _) | (with_reducible refine Below.drew ?_) | (with_reducible refine Below.extW ?_ _)))⟩
  · have HS := Lib.hid hS
    clear hS
    go_enter Try.func112, Try.ntmps112
    go_wp2_with ((at_builtin; refine wpList_app tyN rfl _ _ rfl encN w.heap.size (.slice (some ⟨w.heap.size, 0, none⟩) 0 0) [] rfl ?ho (some a) cap l w.heap.size rfl ?hs ?c1 ?c2 ?c3 ?c4))
    case ho => exact .inr ⟨w.heap.size, 0, 0, #[], rfl, Nat.le_refl _, heap_alloc_new w _, Nat.le_refl _, by simp, by simp, fun j u hj => by simp at hj⟩
    case hs => exact HS.out.keep (Nat.le_refl _) fun p hp => ((Below.refl w.heap.size w).alloc (Nat.le_refl _) _).cell hp
    case c1 => simp; omega
    case c2 => simp [maxLen]; omega
    case c3 => simp
    case c4 =>
      intro v' w1 ho1 _ _ hb1 _
      have B1 : Below w.heap.size w w1 := ((Below.refl w.heap.size w).alloc (Nat.le_refl _) _).trans hb1
      have HO1 := Lib.hid (show Own w1 w.heap.size 59 encN v' l by simpa using ho1)
      clear ho1
      go_wp2_with fail
      go_ret
      exact ⟨_, rfl, HO1.out, B1⟩

/-- A slice that is read: its value, and where it may lie. -/
def Rd {α : Type} {size : Nat} (w : World) (E : Enc α size) (v : Value) (l : List α) : Prop := ∃ A cap, v = .slice A l.length cap ∧ l.length ≤ cap ∧ cap ≤ maxLen ∧ Sl w w.heap.size E A l
section
variable {α : Type} {size base e : Nat} {w w' : World} {E : Enc α size} {v : Value} {l : List α}
theorem Own.rd (h : Own w base e E v l) : Rd w E v l := by
  obtain ⟨A, cap, hv, h1, h2, h3, _⟩ := h.form
  exact ⟨A, cap, hv, h1, h2, h3⟩
theorem Rd.below (h : Rd w E v l) (hb : Below w.heap.size w w') : Rd w' E v l := by
  obtain ⟨A, cap, hv, h1, h2, h3⟩ := h
  exact ⟨A, cap, hv, h1, h2, h3.keep hb.size fun p hp => hb.cell hp⟩
/-- It is kept where another slice grows. -/
theorem Rd.turn {F : Nat → Prop} (h : Rd w E v l) (hT : Turn F w w') (hn : ∀ A n c b o, v = .slice A n c → A = some ⟨b, o, none⟩ → ¬ F b) : Rd w' E v l := by
  obtain ⟨A, cap, hv, h1, h2, h3⟩ := h
  refine ⟨A, cap, hv, h1, h2, ?_⟩
  rcases h3 with h3 | ⟨b, off, hA, hb, hc⟩
  · exact .inl h3
  · exact .inr ⟨b, off, hA, Nat.lt_of_lt_of_le hb hT.size, fun i x hi j u hj => (hT.cell hb (hn A _ _ b off hv hA)).trans (hc i x hi j u hj)⟩
end
def lenV : Value → Nat
  | .slice _ n _ => n
  | _ => 0
/-- A slice below block B that is read. -/
def RdB {α : Type} {size : Nat} (w : World) (B : Nat) (E : Enc α size) (v : Value) (l : List α) : Prop := ∃ A cap, v = .slice A l.length cap ∧ l.length ≤ cap ∧ cap ≤ maxLen ∧ Sl w B E A l
theorem RdB.below {α : Type} {size B : Nat} {w w' : World} {E : Enc α size} {v : Value} {l : List α} (h : RdB w B E v l) (hb : Below B w w') : RdB w' B E v l := by
  obtain ⟨A, cap, hv, h1, h2, h3⟩ := h
  exact ⟨A, cap, hv, h1, h2, h3.below hb⟩
theorem Own.rdB {α : Type} {size base e : Nat} {w w' : World} {E : Enc α size} {v : Value} {l : List α} (h : Own w base e E v l) (hb : Below w.heap.size w w') : RdB w' w'.heap.size E v l := by
  obtain ⟨A, cap, hv, h1, h2, h3, _⟩ := (h.below hb).form
  exact ⟨A, cap, hv, h1, h2, h3⟩
/-- One that isn't empty: where its first element lies, and what is behind it. -/
theorem RdB.cons {B : Nat} {w : World} {v : Value} {x : Nd} {l : List Nd} (h : RdB w B encN v (x :: l)) : ∃ b off cap, v = .slice (some ⟨b, off, none⟩) (l.length + 1) cap ∧ l.length + 1 ≤ cap ∧ cap ≤ maxLen ∧ b < B ∧
    w.cell? ⟨b, off, none⟩ = some (.int .i64 x.1) ∧ w.cell? ⟨b, off + 1, none⟩ = some (.int .i64 x.2) ∧ (cap ≠ 1 → RdB w B encN (.slice (some ⟨b, off + 2, none⟩) l.length (cap - 1)) l) ∧ (cap = 1 → RdB w B encN (.slice (some ⟨b, off, none⟩) 0 0) l ∧ l = []) := by
  obtain ⟨A, cap, rfl, h1, h2, h3⟩ := h
  rcases h3 with h3 | ⟨b, off, rfl, hb, hc⟩
  · cases h3
  · have c0 := hc 0 x rfl 0 _ rfl
    have c1 := hc 0 x rfl 1 _ rfl
    simp only [Nat.zero_mul, Nat.add_zero] at c0 c1
    simp only [List.length_cons] at h1
    refine ⟨b, off, cap, rfl, h1, h2, hb, c0, c1, fun hne => ⟨_, _, rfl, by omega, by omega, ?_⟩, fun he => ?_⟩
    · have := Sl.drop (k := 1) (show Sl w B encN (some ⟨b, off, none⟩) (x :: l) from .inr ⟨b, off, rfl, hb, hc⟩)
      simpa using this
    · have : l = [] := List.eq_nil_of_length_eq_zero (by omega)
      subst this
      exact ⟨⟨_, _, rfl, by simp, by simp, .nil⟩, rfl⟩
/-- What is left of two lists, and what is out. -/
def MergeInv (w2 : World) (all : List Nd) (n : Nat) (a b o : Value) (wr : World) : Prop := ∃ la lb lo, RdB wr w2.heap.size encN a la ∧ RdB wr w2.heap.size encN b lb ∧ Own wr w2.heap.size 59 encN o lo ∧ lo ++ List.merge la lb leN = all ∧ lo.length + (la.length + lb.length) = n ∧ Below w2.heap.size w2 wr
theorem merge_nil_left (l : List Nd) : List.merge [] l leN = l := by simp
theorem merge_nil_right (l : List Nd) : List.merge l [] leN = l := by simp
theorem merge_cons (x y : Nd) (l r : List Nd) : List.merge (x :: l) (y :: r) leN = if y.1 < x.1 then y :: List.merge (x :: l) r leN else x :: List.merge l (y :: r) leN := by
  rw [List.merge]
  by_cases h : y.1 < x.1
  · simp [leN, h]
  · simp [leN, h]
set_option maxRecDepth 100000 in
set_option maxHeartbeats 2000000 in
theorem roll_sorted (n : Nat) : ∀ (w : World) (A : Option Addr) (cap : Nat) (l : List Nd), Sl w w.heap.size encN A l → l.length ≤ cap → cap ≤ maxLen → l.length ≤ n → n ≤ 67108864 →
    Calls Try.prog 108 #[.slice A l.length cap, .func (.func 109) #[] #[]] w (OwnPost 59 encN (msort l) w) := by
  induction n using Nat.strongRecOn with
  | _ n ih =>
    intro w A cap l hS hc hcm hl hn
    by_cases h2 : l.length < 2
    · have h2' : (l.length : Int) < 2 := by omega
      have e1 : msort l = l := by rw [msort, dif_pos h2]
      rw [e1]
      have HC := Lib.hid (clone_N · A cap l · (by omega))
      have HS := Lib.hid hS
      clear e1 hS ih
      go_enter Try.func108, Try.ntmps108
      go_wp2_with fail
      refine (HC.out _ HS.out).mono ?_
      rintro e w1 ⟨v, rfl, ho, hb⟩
      go_wp2_with fail
      go_ret
      exact ⟨_, rfl, ho, hb⟩
    · have h2' : ¬ (l.length : Int) < 2 := by omega
      have e1 : msort l = List.merge (msort (l.take (l.length / 2))) (msort (l.drop (l.length / 2))) leN := by conv => lhs; rw [msort, dif_neg h2]
      rw [e1]
      obtain ⟨b, off, rfl, hb, hcl⟩ : ∃ b off, A = some ⟨b, off, none⟩ ∧ b < w.heap.size ∧ True := by
        rcases hS with h | ⟨b, off, hA, hb, _⟩
        · subst h; simp at h2
        · exact ⟨b, off, hA, hb, trivial⟩
      have HS := Lib.hid hS
      have q1 : (0 : Int) ≤ (l.length : Int) / 2 := by omega
      have q2 : (l.length : Int) / 2 ≤ (cap : Int) := by omega
      have q3 : (l.length : Int) / 2 ≤ (l.length : Int) := by omega
      have q4 : ((l.length : Int) / 2).toNat = l.length / 2 := by omega
      have l1 : (l.take (l.length / 2)).length = l.length / 2 := by simp; omega
      have l2 : (l.drop (l.length / 2)).length = l.length - l.length / 2 := by simp
      have HA : Hid (∀ W : World, Sl W W.heap.size encN (some ⟨b, off, none⟩) (l.take (l.length / 2)) → Calls Try.prog 108 #[.slice (some ⟨b, off, none⟩) (l.length / 2) cap, .func (.func 109) #[] #[]] W (OwnPost 59 encN (msort (l.take (l.length / 2))) W)) :=
        Lib.hid fun W hW => by have := ih (l.length / 2) (by omega) W _ cap _ hW (by omega) hcm (by omega) (by omega); rwa [l1] at this
      have HB : Hid (∀ W : World, Sl W W.heap.size encN (some ⟨b, off + l.length / 2 * 2, none⟩) (l.drop (l.length / 2)) → Calls Try.prog 108 #[.slice (some ⟨b, off + l.length / 2 * 2, none⟩) (l.length - l.length / 2) (cap - l.length / 2), .func (.func 109) #[] #[]] W (OwnPost 59 encN (msort (l.drop (l.length / 2))) W)) :=
        Lib.hid fun W hW => by have := ih (l.length - l.length / 2) (by omega) W _ (cap - l.length / 2) _ hW (by omega) (by omega) (by omega) (by omega); rwa [l2] at this
      have SA : Hid (Sl w.drew w.drew.heap.size encN (some ⟨b, off, none⟩) (l.take (l.length / 2))) := Lib.hid (hS.take (l.length / 2))
      have SB : Hid (Sl w.drew w.drew.heap.size encN (some ⟨b, off + l.length / 2 * 2, none⟩) (l.drop (l.length / 2))) := Lib.hid (hS.drop (l.length / 2))
      have hml := msort_len (l.take (l.length / 2))
      have hml2 := msort_len (l.drop (l.length / 2))
      obtain ⟨la, hla⟩ : ∃ la, la = msort (l.take (l.length / 2)) := ⟨_, rfl⟩
      obtain ⟨lb, hlb⟩ : ∃ lb, lb = msort (l.drop (l.length / 2)) := ⟨_, rfl⟩
      rw [← hla] at HA ⊢ hml
      rw [← hlb] at HB ⊢ hml2
      have hab : la.length + lb.length = l.length := by omega
      clear e1 hS hcl ih l1 l2 hla hlb hml hml2
      go_enter Try.func108, Try.ntmps108
      go_wp2_with fail
      go_region_held3 (fun w' => True) (trivial)
        (first
          | ((with_reducible refine (HA.out _ SA.out).mono ?_)
             rintro e w1 ⟨va, rfl, oa, b1⟩
             have OA := Lib.hid oa
             have B1 := Lib.hid b1
             clear oa b1)
          | ((with_reducible refine (HB.out _ (SB.out.keep B1.out.size fun p hp => B1.out.cell hp)).mono ?_)
             rintro e w2 ⟨vb, rfl, ob, b2⟩
             have OB := Lib.hid ob
             have B2 := Lib.hid b2
             clear ob b2))
      have HM : Hid (MergeInv w2 (List.merge la lb leN) l.length va vb (.slice none 0 0) w2) := ⟨la, lb, [], by
        obtain ⟨A, cap, hv, h1, h2, h3, _⟩ := (OA.out.below B2.out).form
        exact ⟨A, cap, hv, h1, h2, h3⟩, by
        obtain ⟨A, cap, hv, h1, h2, h3, _⟩ := OB.out.form
        exact ⟨A, cap, hv, h1, h2, h3⟩, Own.nil _ _ _ _, rfl, by simp; omega, Below.refl _ _⟩
      have HB2 : Hid (Below w.heap.size w w2) := (Below.refl w.heap.size w).drew.trans (B1.out.trans (B2.out.mono B1.out.size))
      clear HA HB SA SB OA OB B1 B2
      go_wp2_with fail
      go_loopw [6, 7, 8] (fun a b o wr => MergeInv w2 (List.merge la lb leN) l.length a b o wr) (fun a b _ _ => lenV a + lenV b)
      case atStart => exact HM.out
      case round =>
        obtain ⟨la', lb', lo, ra, rb, ho, hall, hlen, hB⟩ := hrel
        have HB := Lib.hid hB
        have HO := Lib.hid ho
        have HE := Lib.hid hall
        clear hB ho hall
        rcases la' with _ | ⟨x, la'⟩
        · obtain ⟨A1, c1, rfl, a1, a2, a3⟩ := ra
          obtain ⟨A2, c2, rfl, b1, b2, b3⟩ := rb
          have HSA := Lib.hid a3
          have HSB := Lib.hid b3
          have s2 := HB.out.size
          have zw := HB2.out.size
          have HLo : lo.length + (([] : List Nd).length + lb'.length) ≤ 67108864 := by omega
          have HF := Lib.hid (show lo ++ ([] : List Nd) ++ lb' = List.merge la lb leN by rw [← HE.out]; simp)
          clear a3 b3
          go_wp2_with ((at_builtin; refine wpList_app tyN rfl _ _ rfl encN w2.heap.size u8 lo rfl HO.out A1 c1 (([] : List Nd)) w2.heap.size rfl HSA.out ?c1 ?c2 ?c3 ?c4))
          case c1 => omega
          case c2 => unfold maxLen; omega
          case c3 => exact s2
          case c4 =>
            intro v4 w4 ho4 _ _ hb4; try intro _
            have O4 := Lib.hid ho4
            have SB4 := Lib.hid (HSB.out.below hb4)
            have B4 := Lib.hid (HB.out.trans hb4)
            have s4 := B4.out.size
            have HL4 : (lo ++ ([] : List Nd)).length + lb'.length ≤ 67108864 := by rw [List.length_append]; omega
            clear ho4 hb4
            go_wp2_with ((at_builtin; refine wpList_app tyN rfl _ _ rfl encN w2.heap.size v4 _ rfl O4.out A2 c2 (lb') w2.heap.size rfl SB4.out ?d1 ?d2 ?d3 ?d4))
            case d1 => omega
            case d2 => unfold maxLen; omega
            case d3 => exact s4
            case d4 =>
              intro v5 w5 ho5 _ _ hb5; try intro _
              have ho5 : Own w5 w2.heap.size 59 encN v5 (List.merge la lb leN) := by have := HF.out; simp only [List.append_nil] at this ho5; rw [← this]; exact ho5
              have O5 := Lib.hid ho5
              have B5 := Lib.hid (B4.out.trans hb5)
              clear ho5 hb5
              go_wp2_with fail
              go_ret
              exact ⟨_, rfl, O5.out.base_le zw, HB2.out.trans (B5.out.mono zw)⟩
        · rcases lb' with _ | ⟨y, lb'⟩
          · obtain ⟨A1, c1, rfl, a1, a2, a3⟩ := ra
            obtain ⟨A2, c2, rfl, b1, b2, b3⟩ := rb
            have HSA := Lib.hid a3
            have HSB := Lib.hid b3
            have s2 := HB.out.size
            have zw := HB2.out.size
            have HLo : lo.length + ((x :: la').length + ([] : List Nd).length) ≤ 67108864 := by omega
            have HF := Lib.hid (show lo ++ (x :: la') ++ ([] : List Nd) = List.merge la lb leN by rw [← HE.out]; simp)
            clear a3 b3
            have n1 : (0 : Int) < (((x :: la').length : Nat) : Int) := by simp only [List.length_cons]; omega
            go_wp2_with ((at_builtin; refine wpList_app tyN rfl _ _ rfl encN w2.heap.size u8 lo rfl HO.out A1 c1 ((x :: la')) w2.heap.size rfl HSA.out ?c1 ?c2 ?c3 ?c4))
            case c1 => omega
            case c2 => unfold maxLen; omega
            case c3 => exact s2
            case c4 =>
              intro v4 w4 ho4 _ _ hb4; try intro _
              have O4 := Lib.hid ho4
              have SB4 := Lib.hid (HSB.out.below hb4)
              have B4 := Lib.hid (HB.out.trans hb4)
              have s4 := B4.out.size
              have HL4 : (lo ++ (x :: la')).length + ([] : List Nd).length ≤ 67108864 := by rw [List.length_append]; omega
              clear ho4 hb4
              go_wp2_with ((at_builtin; refine wpList_app tyN rfl _ _ rfl encN w2.heap.size v4 _ rfl O4.out A2 c2 (([] : List Nd)) w2.heap.size rfl SB4.out ?d1 ?d2 ?d3 ?d4))
              case d1 => omega
              case d2 => unfold maxLen; omega
              case d3 => exact s4
              case d4 =>
                intro v5 w5 ho5 _ _ hb5; try intro _
                have ho5 : Own w5 w2.heap.size 59 encN v5 (List.merge la lb leN) := by have := HF.out; simp only [List.append_nil] at this ho5; rw [← this]; exact ho5
                have O5 := Lib.hid ho5
                have B5 := Lib.hid (B4.out.trans hb5)
                clear ho5 hb5
                go_wp2_with fail
                go_ret
                exact ⟨_, rfl, O5.out.base_le zw, HB2.out.trans (B5.out.mono zw)⟩
          · obtain ⟨ba, oa, ca, rfl, a1, a2, a3, a4, a5, a6, a7⟩ := ra.cons
            obtain ⟨bb, ob, cb, rfl, b1, b2, b3, b4, b5, b6, b7⟩ := rb.cons
            have HRA := Lib.hid ra
            have HRB := Lib.hid rb
            have HA6 := Lib.hid (And.intro a6 a7)
            have HB6 := Lib.hid (And.intro b6 b7)
            have n1 : (0 : Int) < ((la'.length + 1 : Nat) : Int) := by omega
            have n2 : (0 : Int) < ((lb'.length + 1 : Nat) : Int) := by omega
            have zb0 : bb < wr.heap.size := by have := HB.out.size; omega
            have za0 : ba < wr.heap.size := by have := HB.out.size; omega
            clear ra rb a6 a7 b6 b7
            go_wp2_with fail
            refine wp_region_ext (by kernel_rfl) (by kernel_rfl) ?_
            repeat (go_big_quiet_step ((go_at_call 109; exact quiet_ext (roll_ahead _ y x))))
            refine wpQuiet_nil ?_
            intro w3 hb3
            replace hb3 := below_of_ext hb3
            have s2 := HB.out.size
            have s3 := hb3.size
            have B3 : Below w2.heap.size w2 w3 := HB.out.trans (hb3.mono s2)
            have O3 := Lib.hid (HO.out.below hb3)
            have e4 := (hb3.cell (p := ⟨bb, ob, none⟩) (by simp only; omega)).trans b4
            have e5 := (hb3.cell (p := ⟨bb, ob + 1, none⟩) (by simp only; omega)).trans b5
            have d4 := (hb3.cell (p := ⟨ba, oa, none⟩) (by simp only; omega)).trans a4
            have d5 := (hb3.cell (p := ⟨ba, oa + 1, none⟩) (by simp only; omega)).trans a5
            have zb : bb < w3.heap.size := by omega
            have za : ba < w3.heap.size := by omega
            have RA3 := Lib.hid (HRA.out.below (hb3.mono s2))
            have RB3 := Lib.hid (HRB.out.below (hb3.mono s2))
            have HLo : lo.length ≤ 67108864 := by simp only [List.length_cons] at hlen; omega
            clear a4 a5 b4 b5 HRA HRB
            have hBb3 : Below w2.heap.size wr w3 := hb3.mono s2
            have HM := Lib.hid (merge_cons x y la' lb')
            by_cases hyx : y.1 < x.1
            · have hyx' : decide (y.1 < x.1) = true := by simpa using hyx
              by_cases hcb : cb = 1
              · subst hcb
                have R0 := Lib.hid (HB6.out.2 rfl).1
                have hnil := (HB6.out.2 rfl).2
                subst hnil
                simp only [List.length_nil, Nat.zero_add]
                go_wp2_with fail
                go_region_held3 (fun w' => w'.cell? ⟨bb, ob, none⟩ = some (.int .i64 y.1) ∧ w'.cell? ⟨bb, ob + 1, none⟩ = some (.int .i64 y.2)) (first | (simp [*, go_sem]; done))
                  ((refine step_app tyN (by rfl) _ _ (by rfl) encN w2.heap.size _ _ (by rfl) (O3.out.alloc _).drew (some ⟨w3.heap.size, 0, none⟩) 1 [y] _ (by rfl) (sl_lit w3 encN [y] _ w3.heap.size rfl).drew (by simp; omega) (by simp [maxLen]; omega) (by simp; omega) ?_; intro v' w4 ho4 _ _ hb4 _; have c40 := (hb4.cell (p := ⟨bb, ob, none⟩) (by simp only; omega)).trans (by simp [go_sem, e4, zb] : _ = some (Value.int .i64 y.1)); have c41 := (hb4.cell (p := ⟨bb, ob + 1, none⟩) (by simp only; omega)).trans (by simp [go_sem, e5, zb] : _ = some (Value.int .i64 y.2))))
                have B4 : Below w2.heap.size w3 w4 := ((Below.refl w2.heap.size w3).alloc (by omega) _).drew.trans hb4
                have O4 := Lib.hid ho4
                have R4 := Lib.hid (R0.out.below (hBb3.trans B4))
                have Q4 := Lib.hid (RA3.out.below B4)
                have E4 := Lib.hid (B3.trans B4)
                clear ho4 hb4 c40 c41 B4
                go_wp2_with fail
                go_roundw
                case rel => exact ⟨_, _, _, Q4.out, R4.out, O4.out, by rw [← HE.out, HM.out, if_pos hyx, List.append_assoc]; rfl, by simp only [List.length_append, List.length_cons, List.length_nil] at hlen ⊢; omega, E4.out⟩
                case measure => simp [lenV]
              · have m1 : (1 : Int) ≤ ((lb'.length : Int) + 1) := by omega
                have m2 : (1 : Int) ≤ (cb : Int) := by omega
                have m3 : ((lb'.length : Int) + 1) ≤ (cb : Int) := by omega
                go_wp2_with fail
                go_region_held3 (fun w' => w'.cell? ⟨bb, ob, none⟩ = some (.int .i64 y.1) ∧ w'.cell? ⟨bb, ob + 1, none⟩ = some (.int .i64 y.2)) (first | (simp [*, go_sem]; done))
                  ((refine step_app tyN (by rfl) _ _ (by rfl) encN w2.heap.size _ _ (by rfl) (O3.out.alloc _).drew (some ⟨w3.heap.size, 0, none⟩) 1 [y] _ (by rfl) (sl_lit w3 encN [y] _ w3.heap.size rfl).drew (by simp; omega) (by simp [maxLen]; omega) (by simp; omega) ?_; intro v' w4 ho4 _ _ hb4 _; have c40 := (hb4.cell (p := ⟨bb, ob, none⟩) (by simp only; omega)).trans (by simp [go_sem, e4, zb] : _ = some (Value.int .i64 y.1)); have c41 := (hb4.cell (p := ⟨bb, ob + 1, none⟩) (by simp only; omega)).trans (by simp [go_sem, e5, zb] : _ = some (Value.int .i64 y.2))))
                have B4 : Below w2.heap.size w3 w4 := ((Below.refl w2.heap.size w3).alloc (by omega) _).drew.trans hb4
                have O4 := Lib.hid ho4
                have R4 := Lib.hid ((HB6.out.1 hcb).below (hBb3.trans B4))
                have Q4 := Lib.hid (RA3.out.below B4)
                have E4 := Lib.hid (B3.trans B4)
                clear ho4 hb4 c40 c41 B4
                go_wp2_with fail
                go_roundw
                case rel => exact ⟨_, _, _, Q4.out, R4.out, O4.out, by rw [← HE.out, HM.out, if_pos hyx, List.append_assoc]; rfl, by simp only [List.length_append, List.length_cons, List.length_nil] at hlen ⊢; omega, E4.out⟩
                case measure => simp [lenV] <;> omega
            · have hyx' : decide (y.1 < x.1) = false := by simpa using hyx
              by_cases hca : ca = 1
              · subst hca
                have R0 := Lib.hid (HA6.out.2 rfl).1
                have hnil := (HA6.out.2 rfl).2
                subst hnil
                simp only [List.length_nil, Nat.zero_add]
                go_wp2_with fail
                go_region_held3 (fun w' => w'.cell? ⟨ba, oa, none⟩ = some (.int .i64 x.1) ∧ w'.cell? ⟨ba, oa + 1, none⟩ = some (.int .i64 x.2)) (first | (simp [*, go_sem]; done))
                  ((refine step_app tyN (by rfl) _ _ (by rfl) encN w2.heap.size _ _ (by rfl) (O3.out.alloc _).drew (some ⟨w3.heap.size, 0, none⟩) 1 [x] _ (by rfl) (sl_lit w3 encN [x] _ w3.heap.size rfl).drew (by simp; omega) (by simp [maxLen]; omega) (by simp; omega) ?_; intro v' w4 ho4 _ _ hb4 _; have c40 := (hb4.cell (p := ⟨ba, oa, none⟩) (by simp only; omega)).trans (by simp [go_sem, d4, za] : _ = some (Value.int .i64 x.1)); have c41 := (hb4.cell (p := ⟨ba, oa + 1, none⟩) (by simp only; omega)).trans (by simp [go_sem, d5, za] : _ = some (Value.int .i64 x.2))))
                have B4 : Below w2.heap.size w3 w4 := ((Below.refl w2.heap.size w3).alloc (by omega) _).drew.trans hb4
                have O4 := Lib.hid ho4
                have R4 := Lib.hid (R0.out.below (hBb3.trans B4))
                have Q4 := Lib.hid (RB3.out.below B4)
                have E4 := Lib.hid (B3.trans B4)
                clear ho4 hb4 c40 c41 B4
                go_wp2_with fail
                go_roundw
                case rel => exact ⟨_, _, _, R4.out, Q4.out, O4.out, by rw [← HE.out, HM.out, if_neg (by omega), List.append_assoc]; rfl, by simp only [List.length_append, List.length_cons, List.length_nil] at hlen ⊢; omega, E4.out⟩
                case measure => simp [lenV]
              · have m1 : (1 : Int) ≤ ((la'.length : Int) + 1) := by omega
                have m2 : (1 : Int) ≤ (ca : Int) := by omega
                have m3 : ((la'.length : Int) + 1) ≤ (ca : Int) := by omega
                go_wp2_with fail
                go_region_held3 (fun w' => w'.cell? ⟨ba, oa, none⟩ = some (.int .i64 x.1) ∧ w'.cell? ⟨ba, oa + 1, none⟩ = some (.int .i64 x.2)) (first | (simp [*, go_sem]; done))
                  ((refine step_app tyN (by rfl) _ _ (by rfl) encN w2.heap.size _ _ (by rfl) (O3.out.alloc _).drew (some ⟨w3.heap.size, 0, none⟩) 1 [x] _ (by rfl) (sl_lit w3 encN [x] _ w3.heap.size rfl).drew (by simp; omega) (by simp [maxLen]; omega) (by simp; omega) ?_; intro v' w4 ho4 _ _ hb4 _; have c40 := (hb4.cell (p := ⟨ba, oa, none⟩) (by simp only; omega)).trans (by simp [go_sem, d4, za] : _ = some (Value.int .i64 x.1)); have c41 := (hb4.cell (p := ⟨ba, oa + 1, none⟩) (by simp only; omega)).trans (by simp [go_sem, d5, za] : _ = some (Value.int .i64 x.2))))
                have B4 : Below w2.heap.size w3 w4 := ((Below.refl w2.heap.size w3).alloc (by omega) _).drew.trans hb4
                have O4 := Lib.hid ho4
                have R4 := Lib.hid ((HA6.out.1 hca).below (hBb3.trans B4))
                have Q4 := Lib.hid (RB3.out.below B4)
                have E4 := Lib.hid (B3.trans B4)
                clear ho4 hb4 c40 c41 B4
                go_wp2_with fail
                go_roundw
                case rel => exact ⟨_, _, _, R4.out, Q4.out, O4.out, by rw [← HE.out, HM.out, if_neg (by omega), List.append_assoc]; rfl, by simp only [List.length_append, List.length_cons, List.length_nil] at hlen ⊢; omega, E4.out⟩
                case measure => simp [lenV] <;> omega
theorem roll_Sorted (w : World) (v : Value) (l : List Nd) (hR : Rd w encN v l) (hn : l.length ≤ 67108864) : Calls Try.prog 104 #[v] w (OwnPost 59 encN (msort l) w) := by
  obtain ⟨A, cap, rfl, h1, h2, hS⟩ := hR
  have HC := Lib.hid (roll_sorted 67108864 · A cap l · h1 h2 hn (Nat.le_refl _))
  have HS := Lib.hid hS
  clear hS
  go_enter Try.func104, Try.ntmps104
  go_wp2_with fail
  refine (HC.out _ HS.out).mono ?_
  rintro e w1 ⟨v, rfl, ho, hb⟩
  have HO := Lib.hid ho
  clear ho
  go_wp2_with fail
  go_ret
  exact ⟨_, rfl, HO.out, hb⟩
end Go.Proofs.Ytalnhdfgjjhhbaa
