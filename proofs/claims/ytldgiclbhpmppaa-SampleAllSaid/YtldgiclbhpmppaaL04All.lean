/- sample.All tells all readings, or which one is none. -/
import Derived.Test.YtldgiclbhpmppaaL04Alive
import Derived.Test.YtldgiclbhpmppaaMem
import Derived.OwnWalk
namespace Go.Proofs.Ytldgiclbhpmppaa
open Go.ChangeShapes Go.WideShapes Go.ChangeAt Go.RowKit
set_option linter.unusedVariables false

/-- A reading, as its two cells. -/
def encR : Enc (Int × Int) 2 := ⟨fun x => [.int .i64 x.1, .int .i64 x.2], fun _ => rfl, by intro x u hu; simp at hu; rcases hu with rfl | rfl <;> rfl⟩
/-- A thing: a number (true), or two of them. -/
def anyOf (x : Bool × Int × Int) : Value := if x.1 then .iface 3 (.int .i64 x.2.1) else .iface 40 (.agg #[.int .i64 x.2.1, .int .i64 x.2.2])
def encA : Enc (Bool × Int × Int) 1 := ⟨fun x => [anyOf x], fun _ => rfl, by intro x u hu; simp at hu; subst hu; unfold anyOf; split <;> rfl⟩
/-- The reading that a thing comes as. -/
def readOf (x : Bool × Int × Int) : Int × Int := (x.2.1, if x.1 then 1 else x.2.2)
theorem Of_any (x : Bool × Int × Int) (w : World) : Calls Try.prog 8 #[anyOf x] w fun e w' => e = .returned (ofV (readOf x).1 (readOf x).2) ∧ Below w.heap.size w w' := by
  obtain ⟨b, n, m⟩ := x
  cases b
  · exact Of_pair n m w
  · exact Of_int n w

theorem tyR : SliceTy Try.prog 38 23 2 16 (.agg #[.int .i64 0, .int .i64 0]) := ⟨Try.underlying38, by kernel_rfl, rfl, by decide⟩

def goodB (x : Bool × Int × Int) : Bool := rightB (readOf x).1 (readOf x).2

def badB (x : Bool × Int × Int) : Bool := !goodB x
def AllPost (l : List (Bool × Int × Int)) (w : World) (e : Ending) (w' : World) : Prop :=
  Below w.heap.size w w' ∧
  if l.all goodB = true then ∃ v, e = .returned (.tuple #[v, .int .i64 l.length, .bool true]) ∧ Own w' w.heap.size 23 encR v (l.map readOf)
  else e = .returned (.tuple #[.slice none 0 0, .int .i64 (l.findIdx badB : Nat), .bool false])

theorem AllPost.good {l : List (Bool × Int × Int)} {w w' : World} {v : Value} (hl : l.all goodB = true) (hB : Below w.heap.size w w') (ho : Own w' w.heap.size 23 encR v (l.map readOf)) :
    AllPost l w (.returned (.tuple #[v, .int .i64 l.length, .bool true])) w' := ⟨hB, by rw [if_pos hl]; exact ⟨v, rfl, ho⟩⟩
theorem idx_of {l : List (Bool × Int × Int)} {i : Nat} (hi : i < l.length) (hb : goodB l[i] = false) (ht : (l.take i).all goodB = true) : l.findIdx badB = i := by
  rw [List.findIdx_eq hi]
  refine ⟨by simp [badB, hb], fun j hj => ?_⟩
  rw [List.all_eq_true] at ht
  have := ht l[j] (by rw [List.mem_take_iff_getElem]; exact ⟨j, by omega, rfl⟩)
  simp [badB, this]
theorem AllPost.bad {l : List (Bool × Int × Int)} {w w' : World} {i : Nat} (hi : i < l.length) (hb : goodB l[i] = false) (ht : (l.take i).all goodB = true) (hB : Below w.heap.size w w') :
    AllPost l w (.returned (.tuple #[.slice none 0 0, .int .i64 i, .bool false])) w' := ⟨hB, by
  rw [if_neg (by intro h; rw [List.all_eq_true] at h; have := h _ (List.getElem_mem hi); rw [hb] at this; cases this)]
  rw [idx_of hi hb ht]⟩

theorem take_all_succ {l : List (Bool × Int × Int)} {k : Nat} (hk : k < l.length) (h : (l.take k).all goodB = true) (hg : goodB l[k] = true) : (l.take (k + 1)).all goodB = true := by
  rw [List.take_succ_eq_append_getElem hk, List.all_append, h]
  simp [hg]
theorem take_map_succ {l : List (Bool × Int × Int)} {k : Nat} (hk : k < l.length) : (l.map readOf).take k ++ [readOf l[k]] = (l.map readOf).take (k + 1) := by
  rw [List.take_succ_eq_append_getElem (by simpa using hk)]; simp

theorem sample_All (l : List (Bool × Int × Int)) (A : Option Addr) (cap : Nat) (w : World) (hl : l.length ≤ 300) (hS : Sl w w.heap.size encA A l) :
    Calls Try.prog 16 #[.slice A l.length cap] w (AllPost l w) := by
  go_enter Try.func16, Try.ntmps16
  go_wp2_with fail
  go_loopw [5, 12] (fun v i wr => ∃ k : Nat, k ≤ l.length ∧ i = .int .i64 k ∧ Below w.heap.size w wr ∧ Own wr w.heap.size 23 encR v ((l.map readOf).take k) ∧ (l.take k).all goodB = true) (fun _ i _ => l.length - (intOf i).toNat)
  case atStart => exact ⟨0, Nat.zero_le _, rfl, Below.refl _ _, by simpa using Own.nil _ _ _ _, rfl⟩
  case round =>
    obtain ⟨k, hk, rfl, hB, hown, hall⟩ := hrel
    have HO := Lib.hid hown
    have HA := Lib.hid hall
    clear hown hall
    by_cases hlt : k < l.length
    · obtain ⟨b, off, rfl, hb, hc⟩ := (hS.below hB).at_ hlt
      have hcell := hc 0 (anyOf l[k]) rfl
      simp only [Nat.add_zero, Nat.mul_one] at hcell
      clear hc
      have hs := hB.size
      go_wp2_with fail
      refine (Of_any l[k] _).mono ?_
      rintro e w1 ⟨rfl, hb1⟩
      have B1 : Below w.heap.size w w1 := Below.then_ (by repeat (first | exact Below.refl _ _ | assumption | refine Below.setCell ?_ (by first | omega | exact Nat.le_refl _ | (simp <;> omega)) _ | refine Below.allocW ?_ _ | refine Below.drew ?_ | refine Below.extW ?_ _)) hb1
      have s1 : w.heap.size ≤ w1.heap.size := B1.size
      cases hg : goodB l[k]
      · have e1 : ofV (readOf l[k]).1 (readOf l[k]).2 = .tuple #[.agg #[.int .i64 0, .int .i64 0], .bool false] := by simp only [ofV]; rw [if_neg (by simpa [goodB] using hg)]
        rw [e1]
        have HG := Lib.hid hg
        clear hg e1
        go_wp2_with fail
        go_ret3
        exact AllPost.bad hlt HG.out HA.out (by repeat (first | exact Below.refl _ _ | assumption | refine Below.setCell ?_ (by first | omega | exact Nat.le_refl _ | (simp <;> omega)) _ | refine Below.allocW ?_ _ | refine Below.drew ?_ | refine Below.extW ?_ _))
      · have e1 : ofV (readOf l[k]).1 (readOf l[k]).2 = .tuple #[.agg #[.int .i64 (readOf l[k]).1, .int .i64 (readOf l[k]).2], .bool true] := by simp only [ofV]; rw [if_pos (by simpa [goodB] using hg)]
        rw [e1]
        have HG := Lib.hid hg
        clear hg e1
        have hown1 : Own w1 w.heap.size 23 encR u5 ((l.map readOf).take k) := HO.out.below hb1
        have hlen : ((l.map readOf).take k).length ≤ 300 := by simp; omega
        have HL := Lib.hid hown1
        have HN := Lib.hid hlen
        clear hown1 hlen
        go_wp2_with ((at_builtin; refine wpList_push tyR rfl _ _ rfl encR (w1.alloc _) w.heap.size u5 _ rfl (HL.out.alloc _) (readOf l[k]) (by go_simp) rfl ?c1 ?c2 ?c3 ?c4))
        case c1 => have := HN.out; omega
        case c2 => have := HN.out; unfold maxLen; omega
        case c3 => simp; omega
        case c4 =>
          intro v' w2 hown2 hgrow _ hlies hb2 _
          go_wp2_with fail
          go_roundw
          case rel => exact ⟨k + 1, by omega, by go_num, Below.trans (Below.allocW B1 _) hb2, by rw [take_map_succ hlt] at hown2; exact hown2, take_all_succ hlt HA.out HG.out⟩
          case measure => simp [intOf]; omega
    · obtain rfl : k = l.length := by omega
      rw [List.take_length] at HA
      rw [List.take_of_length_le (by simp)] at HO
      go_wp2_with fail
      go_ret3
      exact AllPost.good HA.out hB HO.out

/-- The things of the law: by turns a number, and two of them. -/
def items (l : List (Int × Int)) : List (Bool × Int × Int) := l.mapIdx fun k x => (decide (k % 2 = 0), x.1, x.2)
theorem items_len (l : List (Int × Int)) : (items l).length = l.length := by simp [items]
theorem items_get (l : List (Int × Int)) (k : Nat) (hk : k < l.length) : (items l)[k]'(by rw [items_len]; exact hk) = (decide (k % 2 = 0), l[k].1, l[k].2) := by simp [items]
/-- What is the first that is none, of the first k; -1: there is none. -/
def First (l : List (Bool × Int × Int)) (k : Nat) (f : Int) : Prop := (f = -1 ∧ (l.take k).all goodB = true) ∨ (0 ≤ f ∧ f = (l.findIdx badB : Nat) ∧ l.all goodB = false ∧ l.findIdx badB < l.length)

theorem First.found {l : List (Int × Int)} {k : Nat} (hlt : k < l.length) (ha : ((items l).take k).all goodB = true) (hg : goodB ((items l)[k]'(by rw [items_len]; exact hlt)) = false) : First (items l) (k + 1) (k : Int) := by
  have hk : k < (items l).length := by rw [items_len]; exact hlt
  have e := idx_of hk hg ha
  refine .inr ⟨by omega, by rw [e], ?_, by rw [e]; exact hk⟩
  rw [Bool.eq_false_iff]
  intro h
  rw [List.all_eq_true] at h
  have := h _ (List.getElem_mem hk)
  rw [hg] at this
  cases this
theorem First.good {l : List (Int × Int)} {k : Nat} (hlt : k < l.length) (ha : ((items l).take k).all goodB = true) (hg : goodB ((items l)[k]'(by rw [items_len]; exact hlt)) = true) : First (items l) (k + 1) (-1) :=
  .inl ⟨rfl, take_all_succ (by rw [items_len]; exact hlt) ha hg⟩
theorem take_step {l : List (Int × Int)} {k : Nat} (hlt : k < l.length) {w : World} {b e : Nat} {v : Value} {r : Int × Int} {x : Bool × Int × Int} (h : Own w b e encR v (((items l).map readOf).take k ++ [r]))
    (hx : (items l)[k]'(by rw [items_len]; exact hlt) = x) (hr : readOf x = r) : Own w b e encR v (((items l).map readOf).take (k + 1)) := by
  rw [List.take_succ_eq_append_getElem (by simpa [items_len] using hlt)]
  simp only [List.getElem_map, hx, hr]
  exact h
theorem take_step' {l : List (Int × Int)} {k : Nat} (hlt : k < l.length) {w : World} {b e : Nat} {v : Value} {x : Bool × Int × Int} (h : Own w b e encA v ((items l).take k ++ [x]))
    (hx : (items l)[k]'(by rw [items_len]; exact hlt) = x) : Own w b e encA v ((items l).take (k + 1)) := by
  rw [List.take_succ_eq_append_getElem (by rw [items_len]; exact hlt), hx]
  exact h

theorem own_ne {α β : Type} {s1 s2 : Nat} {w : World} {b e1 e2 : Nat} {E1 : Enc α s1} {E2 : Enc β s2} {v1 v2 : Value} {l1 : List α} {l2 : List β} (h1 : Own w b e1 E1 v1 l1) (h2 : Own w b e2 E2 v2 l2) (hne : e1 ≠ e2) :
    v1.ownBlock = none ∨ v1.ownBlock ≠ v2.ownBlock := by
  rcases h1.2 with ⟨rfl, _⟩ | ⟨g1, c1, u1, rfl, _, hh1, _⟩
  · exact .inl rfl
  · right
    rcases h2.2 with ⟨rfl, _⟩ | ⟨g2, c2, u2, rfl, _, hh2, _⟩
    · simp [Value.ownBlock]
    · intro he
      have : g1 = g2 := by simpa [Value.ownBlock] using he
      subst this
      rw [hh1] at hh2
      injection hh2 with hh2
      injection hh2 with _ ht
      exact hne ht

theorem tyA : SliceTy Try.prog 39 20 1 16 .nilIface := ⟨Try.underlying39, by kernel_rfl, rfl, by decide⟩

theorem law_SampleAll (l : List (Int × Int)) (A : Option Addr) (cap : Nat) (w : World) (hS : Sl w w.heap.size encR A l) :
    Calls Try.prog 5 #[.slice A l.length cap] w fun e w' => e = .returned (.bool true) ∧ Below w.heap.size w w' := by
  by_cases hlen : l.length ≤ 300
  · have hlen' : ¬ 300 < l.length := by omega
    go_enter Try.func5, Try.ntmps5
    go_wp2_with fail
    go_loopw [3, 4, 5, 18] (fun v want f i wr => ∃ (k : Nat) (f0 : Int), k ≤ l.length ∧ i = .int .i64 k ∧ f = .int .i64 f0 ∧ First (items l) k f0 ∧ Below w.heap.size w wr ∧ Own wr w.heap.size 20 encA v ((items l).take k) ∧
        Own wr w.heap.size 23 encR want (((items l).map readOf).take k)) (fun _ _ _ i _ => l.length - (intOf i).toNat)
    case atStart => exact ⟨0, -1, Nat.zero_le _, rfl, rfl, .inl ⟨rfl, rfl⟩, Below.refl _ _, Own.nil _ _ _ _, Own.nil _ _ _ _⟩
    case round =>
      obtain ⟨k, f0, hk, rfl, rfl, hf, hB, ho1, ho2⟩ := hrel
      have H1 := Lib.hid ho1
      have H2 := Lib.hid ho2
      have HF := Lib.hid hf
      clear ho1 ho2 hf
      by_cases hlt : k < l.length
      · obtain ⟨b, off, rfl, hb, hc⟩ := (hS.below hB).at_ hlt
        have hc0 := hc 0 (.int .i64 l[k].1) rfl
        have hc1 := hc 1 (.int .i64 l[k].2) rfl
        simp only [Nat.add_zero] at hc0
        clear hc
        have hs := hB.size
        by_cases hp : k % 2 = 0
        · have hp' : ((k : Int) % 2 == 0) = true := by simp; omega
          have hit : (items l)[k]'(by rw [items_len]; exact hlt) = (true, l[k].1, l[k].2) := by rw [items_get l k hlt]; simp [hp]
          have HI := Lib.hid hit
          clear hit
          go_wp2_with ((at_builtin; refine wpList_push tyA rfl _ _ rfl encA (wr.alloc _) w.heap.size u3 _ rfl (H1.out.alloc _) (true, l[k].1, l[k].2) (by go_simp) rfl ?c1 ?c2 ?c3 ?c4))
          case c1 => simp; omega
          case c2 => simp [maxLen]; omega
          case c3 => simp; omega
          case c4 =>
            intro v' w1 ho1 hg1 z1' hl1 hb1 _
            have ho2 : Own w1 w.heap.size 23 encR u4 (((items l).map readOf).take k) := (H2.out.alloc _).kept hg1 (own_ne H2.out H1.out (by decide))
            have B1 : Below w.heap.size w w1 := Below.trans (Below.allocW hB _) hb1
            have s1 := B1.size
            have z1 : wr.heap.size < w1.heap.size := by have := hg1.size; simp at this; omega
            have y1 : wr.heap.size ≤ w1.heap.size := Nat.le_of_lt z1
            have cc := grown_cell hg1 wr.heap.size (by simp) (H1.out.not_at _ (Nat.le_refl _))
            have ff := grown_frozen hg1 wr.heap.size (by simp) (H1.out.not_at _ (Nat.le_refl _))
            have H1' := Lib.hid ho1
            have H2' := Lib.hid ho2
            clear ho1 ho2 hg1 hl1 hb1
            go_wp2_with ((at_builtin; refine wpList_push tyR rfl _ _ rfl encR w1 w.heap.size u4 _ rfl H2'.out (l[k].1, 1) (by go_simp) rfl ?c1 ?c2 ?c3 ?c4))
            case c1 => simp; omega
            case c2 => simp [maxLen]; omega
            case c3 => omega
            case c4 =>
              intro v2 w2 ho3 hg2 z2' hl2 hb2 _
              have ho4 : Own w2 w.heap.size 20 encA v' ((items l).take k ++ [(true, l[k].1, l[k].2)]) := H1'.out.kept hg2 (own_ne H1'.out H2'.out (by decide))
              have B2 : Below w.heap.size w w2 := Below.trans B1 hb2
              have s2 := B2.size
              have z2 : wr.heap.size < w2.heap.size := by have := hg2.size; omega
              have y2 : wr.heap.size ≤ w2.heap.size := Nat.le_of_lt z2
              have cd := fun o => (grown_cell hg2 wr.heap.size z1 (H2.out.not_at _ (Nat.le_refl _)) o).trans (cc o)
              have fd := fun o => (grown_frozen hg2 wr.heap.size z1 (H2.out.not_at _ (Nat.le_refl _)) o).trans (ff o)
              have ho5 := take_step hlt ho3 HI.out rfl
              have ho6 := take_step' hlt ho4 HI.out
              have H3 := Lib.hid ho5
              have H4 := Lib.hid ho6
              clear ho3 ho4 hg2 hl2 ho5 ho6 cc ff z1 y1 s1 B1 hb2 z1' z2'
              rcases HF.out with ⟨rfl, hall⟩ | ⟨h0, he, hall, hidx⟩
              · have HA := Lib.hid hall
                clear hall
                go_wp2_with fail
                refine (ref4_Right _ _ _).mono ?_
                rintro e w3 ⟨rfl, hb3⟩
                have B3 : Below w.heap.size w w3 := Below.then_ (by repeat (first | exact Below.refl _ _ | assumption | refine Below.setCell ?_ (by first | omega | exact Nat.le_refl _ | (simp <;> omega)) _ | refine Below.allocW ?_ _ | refine Below.drew ?_ | refine Below.extW ?_ _)) hb3
                have s3 : w.heap.size ≤ w3.heap.size := B3.size
                cases hR : rightB l[k].1 1
                · have HR := Lib.hid hR
                  clear hR
                  go_wp2_with fail
                  go_roundw
                  case rel => exact ⟨k + 1, k, by omega, by go_num, rfl, First.found hlt HA.out (by rw [HI.out]; exact HR.out), B3, H4.out.below hb3, H3.out.below hb3⟩
                  case measure => simp [intOf]; omega
                · have HR := Lib.hid hR
                  clear hR
                  go_wp2_with fail
                  go_roundw
                  case rel => exact ⟨k + 1, -1, by omega, by go_num, rfl, First.good hlt HA.out (by rw [HI.out]; exact HR.out), B3, H4.out.below hb3, H3.out.below hb3⟩
                  case measure => simp [intOf]; omega
              · have HA := Lib.hid (And.intro he (And.intro hall hidx))
                clear he hall hidx
                go_wp2_with fail
                go_roundw
                case rel => exact ⟨k + 1, f0, by omega, by go_num, rfl, .inr ⟨h0, HA.out⟩, B2, H4.out, H3.out⟩
                case measure => simp [intOf]; omega
        · have hp' : ((k : Int) % 2 == 0) = false := by simp; omega
          have hit : (items l)[k]'(by rw [items_len]; exact hlt) = (false, l[k].1, l[k].2) := by rw [items_get l k hlt]; simp [hp]
          have HI := Lib.hid hit
          clear hit
          go_wp2_with ((at_builtin; refine wpList_push tyA rfl _ _ rfl encA (wr.alloc _) w.heap.size u3 _ rfl (H1.out.alloc _) (false, l[k].1, l[k].2) (by go_simp) rfl ?c1 ?c2 ?c3 ?c4))
          case c1 => simp; omega
          case c2 => simp [maxLen]; omega
          case c3 => simp; omega
          case c4 =>
            intro v' w1 ho1 hg1 z1' hl1 hb1 _
            have ho2 : Own w1 w.heap.size 23 encR u4 (((items l).map readOf).take k) := (H2.out.alloc _).kept hg1 (own_ne H2.out H1.out (by decide))
            have B1 : Below w.heap.size w w1 := Below.trans (Below.allocW hB _) hb1
            have s1 := B1.size
            have z1 : wr.heap.size < w1.heap.size := by have := hg1.size; simp at this; omega
            have y1 : wr.heap.size ≤ w1.heap.size := Nat.le_of_lt z1
            have cc := grown_cell hg1 wr.heap.size (by simp) (H1.out.not_at _ (Nat.le_refl _))
            have ff := grown_frozen hg1 wr.heap.size (by simp) (H1.out.not_at _ (Nat.le_refl _))
            have H1' := Lib.hid ho1
            have H2' := Lib.hid ho2
            clear ho1 ho2 hg1 hl1 hb1
            go_wp2_with ((at_builtin; refine wpList_push tyR rfl _ _ rfl encR w1 w.heap.size u4 _ rfl H2'.out (l[k].1, l[k].2) (by go_simp) rfl ?c1 ?c2 ?c3 ?c4))
            case c1 => simp; omega
            case c2 => simp [maxLen]; omega
            case c3 => omega
            case c4 =>
              intro v2 w2 ho3 hg2 z2' hl2 hb2 _
              have ho4 : Own w2 w.heap.size 20 encA v' ((items l).take k ++ [(false, l[k].1, l[k].2)]) := H1'.out.kept hg2 (own_ne H1'.out H2'.out (by decide))
              have B2 : Below w.heap.size w w2 := Below.trans B1 hb2
              have s2 := B2.size
              have z2 : wr.heap.size < w2.heap.size := by have := hg2.size; omega
              have y2 : wr.heap.size ≤ w2.heap.size := Nat.le_of_lt z2
              have cd := fun o => (grown_cell hg2 wr.heap.size z1 (H2.out.not_at _ (Nat.le_refl _)) o).trans (cc o)
              have fd := fun o => (grown_frozen hg2 wr.heap.size z1 (H2.out.not_at _ (Nat.le_refl _)) o).trans (ff o)
              have ho5 := take_step hlt ho3 HI.out rfl
              have ho6 := take_step' hlt ho4 HI.out
              have H3 := Lib.hid ho5
              have H4 := Lib.hid ho6
              clear ho3 ho4 hg2 hl2 ho5 ho6 cc ff z1 y1 s1 B1 hb2 z1' z2'
              rcases HF.out with ⟨rfl, hall⟩ | ⟨h0, he, hall, hidx⟩
              · have HA := Lib.hid hall
                clear hall
                go_wp2_with fail
                refine (ref4_Right _ _ _).mono ?_
                rintro e w3 ⟨rfl, hb3⟩
                have B3 : Below w.heap.size w w3 := Below.then_ (by repeat (first | exact Below.refl _ _ | assumption | refine Below.setCell ?_ (by first | omega | exact Nat.le_refl _ | (simp <;> omega)) _ | refine Below.allocW ?_ _ | refine Below.drew ?_ | refine Below.extW ?_ _)) hb3
                have s3 : w.heap.size ≤ w3.heap.size := B3.size
                cases hR : rightB l[k].1 l[k].2
                · have HR := Lib.hid hR
                  clear hR
                  go_wp2_with fail
                  go_roundw
                  case rel => exact ⟨k + 1, k, by omega, by go_num, rfl, First.found hlt HA.out (by rw [HI.out]; exact HR.out), B3, H4.out.below hb3, H3.out.below hb3⟩
                  case measure => simp [intOf]; omega
                · have HR := Lib.hid hR
                  clear hR
                  go_wp2_with fail
                  go_roundw
                  case rel => exact ⟨k + 1, -1, by omega, by go_num, rfl, First.good hlt HA.out (by rw [HI.out]; exact HR.out), B3, H4.out.below hb3, H3.out.below hb3⟩
                  case measure => simp [intOf]; omega
              · have HA := Lib.hid (And.intro he (And.intro hall hidx))
                clear he hall hidx
                go_wp2_with fail
                go_roundw
                case rel => exact ⟨k + 1, f0, by omega, by go_num, rfl, .inr ⟨h0, HA.out⟩, B2, H4.out, H3.out⟩
                case measure => simp [intOf]; omega
      · obtain rfl : k = l.length := by omega
        have hL := items_len l
        have ho1 := H1.out
        have ho2 := H2.out
        rw [List.take_of_length_le (by omega)] at ho1
        rw [List.take_of_length_le (by simp; omega)] at ho2
        clear H1 H2
        obtain ⟨A1, c1, rfl, hle1, hm1, hS1, _⟩ := ho1.form
        obtain ⟨A2, c2, rfl, hle2, hm2, hS2, _⟩ := ho2.form
        have HS1 := Lib.hid hS1
        have HS2 := Lib.hid hS2
        have HO2 := Lib.hid ho2
        clear hS1 hS2 ho1 ho2
        rcases HF.out with ⟨rfl, hall⟩ | ⟨h0, he, hall, hidx⟩
        · rw [List.take_of_length_le (by omega)] at hall
          have HA := Lib.hid hall
          clear hall
          go_wp2_with fail
          rw [← hL]
          refine (sample_All (items l) A1 c1 _ (by omega) HS1.out).mono ?_
          rintro e w1 ⟨hb1, hp⟩
          rw [if_pos HA.out] at hp
          obtain ⟨v, rfl, ho⟩ := hp
          obtain ⟨A3, c3, rfl, hle3, hm3, hS3, _⟩ := ho.form
          have HS3 := Lib.hid hS3
          have hL3 : ((items l).map readOf).length = l.length := by simp [hL]
          clear ho hS3
          have B1 := Below.then_ hB hb1
          go_wp2_with fail
          obtain ⟨wo, rfl⟩ : ∃ wo : World, wo = wr := ⟨_, rfl⟩
          go_loopw [95] (fun i w2 => ∃ k : Nat, k ≤ l.length ∧ i = .int .i64 k ∧ Below w1.heap.size w1 w2) (fun i _ => l.length - (intOf i).toNat)
          case atStart => exact ⟨0, Nat.zero_le _, rfl, Below.refl _ _⟩
          case round =>
            obtain ⟨k, hk, rfl, hB2⟩ := hrel
            have B2 := Below.then_ B1 hB2
            by_cases hlt : k < l.length
            · have hk3 : k < ((items l).map readOf).length := by omega
              obtain ⟨b3, o3, rfl, hb3, hc3⟩ := (HS3.out.below hB2).at_ hk3
              obtain ⟨b2, o2, rfl, hb2, hc2⟩ := ((HS2.out.below hb1).keep hb1.size (fun p hp => hB2.cell (Nat.lt_of_lt_of_le hp hb1.size))).at_ hk3
              have d0 := hc3 0 (.int .i64 (((items l).map readOf)[k]'hk3).1) rfl
              have d1 := hc3 1 (.int .i64 (((items l).map readOf)[k]'hk3).2) rfl
              have e0 := hc2 0 (.int .i64 (((items l).map readOf)[k]'hk3).1) rfl
              have e1 := hc2 1 (.int .i64 (((items l).map readOf)[k]'hk3).2) rfl
              generalize ((items l).map readOf)[k]'hk3 = r at *
              simp only [Nat.add_zero] at d0 e0
              have g1 : b3 < wr.heap.size := Nat.lt_of_lt_of_le hb3 hB2.size
              have g2 : b2 < wr.heap.size := Nat.lt_of_lt_of_le hb2 hB2.size
              clear hc2 hc3
              have i0 : (0 : Int) ≤ (k : Int) := by omega
              have i1 : (k : Int) < (l.length : Int) := by omega
              go_wp2_with fail
              refine wp_region_ext (by kernel_rfl) (by kernel_rfl) ?_
              repeat (go_big_quiet_step (fail))
              refine wpQuiet_nil ?_
              intro w3 hb
              replace hb := below_of_ext hb
              go_wp2_with fail
              go_roundw
              case rel => exact ⟨k + 1, by omega, by go_num, hB2.trans (hb.mono hB2.size)⟩
              case measure => simp [intOf]; omega
            · obtain rfl : k = l.length := by omega
              go_wp2_with fail
              refine (alive4 _).mono ?_
              rintro e w4 ⟨rfl, hb4⟩
              have B4 : Below w.heap.size w w4 := Below.then_ (by repeat (first | exact Below.refl _ _ | assumption | refine Below.setCell ?_ (by first | omega | exact Nat.le_refl _ | (simp <;> omega)) _ | refine Below.allocW ?_ _ | refine Below.drew ?_ | refine Below.extW ?_ _)) hb4
              have s4 : w.heap.size ≤ w4.heap.size := B4.size
              go_wp2_with fail
              go_ret
              exact ⟨rfl, (by repeat (first | exact Below.refl _ _ | assumption | refine Below.setCell ?_ (by first | omega | exact Nat.le_refl _ | (simp <;> omega)) _ | refine Below.allocW ?_ _ | refine Below.drew ?_ | refine Below.extW ?_ _))⟩
        · have HA := Lib.hid (And.intro he (And.intro hall hidx))
          clear he hall hidx
          go_wp2_with fail
          rw [← hL]
          refine (sample_All (items l) A1 c1 _ (by omega) HS1.out).mono ?_
          rintro e w1 ⟨hb1, hp⟩
          rw [if_neg (by rw [HA.out.2.1]; decide)] at hp
          subst hp
          have B1 := Below.then_ hB hb1
          rw [← HA.out.1]
          go_wp2_with fail
          refine (alive4 _).mono ?_
          rintro e w2 ⟨rfl, hb2⟩
          have B2 : Below w.heap.size w w2 := Below.then_ (by repeat (first | exact Below.refl _ _ | assumption | refine Below.setCell ?_ (by first | omega | exact Nat.le_refl _ | (simp <;> omega)) _ | refine Below.allocW ?_ _ | refine Below.drew ?_ | refine Below.extW ?_ _)) hb2
          have s2 : w.heap.size ≤ w2.heap.size := B2.size
          go_wp2_with fail
          go_ret
          exact ⟨rfl, (by repeat (first | exact Below.refl _ _ | assumption | refine Below.setCell ?_ (by first | omega | exact Nat.le_refl _ | (simp <;> omega)) _ | refine Below.allocW ?_ _ | refine Below.drew ?_ | refine Below.extW ?_ _))⟩
  · have hlen' : 300 < l.length := by omega
    go_enter Try.func5, Try.ntmps5
    go_wp2_with fail
    refine (alive4 _).mono ?_
    rintro e w1 ⟨rfl, hb1⟩
    have B1 : Below w.heap.size w w1 := Below.then_ (by repeat (first | exact Below.refl _ _ | assumption | refine Below.setCell ?_ (by first | omega | exact Nat.le_refl _ | (simp <;> omega)) _ | refine Below.allocW ?_ _ | refine Below.drew ?_ | refine Below.extW ?_ _)) hb1
    have s1 : w.heap.size ≤ w1.heap.size := B1.size
    go_wp2_with fail
    go_ret
    exact ⟨rfl, (by repeat (first | exact Below.refl _ _ | assumption | refine Below.setCell ?_ (by first | omega | exact Nat.le_refl _ | (simp <;> omega)) _ | refine Below.allocW ?_ _ | refine Below.drew ?_ | refine Below.extW ?_ _))⟩

theorem open_Readings {H : Type} {enc : TypeId × Value → H} {w : World} {base : Nat} {spare : Nat → Bool} {held : Bool} {r : Reach} {b0 : Nat} {v : Value} {d : DataW H} {p : List MemPlace}
    (hv : Value.okWide Try.prog w r b0 38 v) (h : DataW.Trod enc Try.prog w base spare held 38 v d p) :
    ∃ (l : List (Int × Int)) (A : Option Addr) (cap : Nat), v = .slice A l.length cap ∧ Sl w w.heap.size encR A l := by
  obtain ⟨a0, len, cap, rfl⟩ := okWide_slice Try.underlying38 hv
  obtain ⟨fuel, hf⟩ := h
  rcases Deep.open_slice_pairs Try.underlying38 Try.underlying23 (by kernel_rfl) rfl rfl (by kernel_rfl) (by kernel_rfl) hf with ⟨hcs, _⟩ | ⟨a, len', cap', m, n, V0, V1, D0, D1, P0, P1, hcs, _, hl, hm, hmm, _, hx⟩
  · simp [Value.cells] at hcs
    obtain ⟨rfl, rfl, rfl⟩ := hcs
    exact ⟨[], none, 0, rfl, .nil⟩
  · simp [Value.cells] at hcs
    obtain ⟨rfl, rfl, rfl⟩ := hcs
    have hle : len ≤ m := by rw [hmm]; split <;> omega
    have each : ∀ i, i < len → ∃ q : Int × Int, V0 i = .int .i64 q.1 ∧ V1 i = .int .i64 q.2 := by
      intro i hi
      obtain ⟨_, _, h0, h1⟩ := hx i (by omega)
      obtain ⟨x, e0, _, _⟩ := DataW.trod_int Try.underlying3 h0
      obtain ⟨u, e1, _, _⟩ := DataW.trod_int Try.underlying3 h1
      simp at e0 e1
      exact ⟨(x, u), e0, e1⟩
    obtain ⟨f, hF⟩ := Deep.choose_lt each
    refine ⟨(List.range len).map f, some a, cap, by simp, ?_⟩
    by_cases h0 : len = 0
    · subst h0; exact .inl rfl
    · obtain ⟨b, off, spot⟩ := a
      have hc0 := (hx 0 (by omega)).1
      have hspot : spot = none := by simpa [Addr.add] using World.cell?_spot hc0
      subst hspot
      have hb : b < w.heap.size := by
        rcases Nat.lt_or_ge b w.heap.size with h | h
        · exact h
        · simp only [add_plain, Nat.zero_mul, Nat.add_zero] at hc0
          unfold World.cell? at hc0
          rw [Array.getElem?_eq_none h] at hc0
          cases hc0
      refine .inr ⟨b, off, rfl, hb, fun i x hi j u hj => ?_⟩
      have hlt : i < len := by
        have := (List.getElem?_eq_some_iff.1 hi).1
        simpa using this
      obtain ⟨c0, c1, _, _⟩ := hx i (by omega)
      obtain ⟨e0, e1⟩ := hF i hlt
      simp [hlt] at hi
      subst hi
      rw [add_plain] at c0 c1
      match j, hj with
      | 0, hj => simp [encR] at hj; subst hj; rw [← e0]; exact c0
      | 1, hj => simp [encR] at hj; subst hj; rw [← e1]; exact c1
end Go.Proofs.Ytldgiclbhpmppaa
