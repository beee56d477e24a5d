/- Package wave: what its calls do to a wave. -/
import Derived.Test.YtclkcbhghbdffaaMem
import Derived.OwnWalk
import Derived.Deep.RegionHeld3
import Derived.Deep.RegionLaw
import Derived.Deep.DrawnRows
import Derived.Lib.ConvBytes
namespace Go.Proofs.Ytclkcbhghbdffaa
open Go.ChangeShapes Go.WideShapes Go.ChangeAt Go.RowKit
set_option linter.unusedVariables false
attribute [local go_sem ↓] Go.wp_at_zero Go.wp_at_succ

/-- A text that is on its way, and to which number. -/
abbrev It := Int × ByteArray
/-- A wave: the five counts, and what is on its way. -/
structure WS where
  sent : Nat
  taken : Nat
  lost : Nat
  copied : Nat
  spoilt : Nat
  items : List It
def encI : Enc It 2 := ⟨fun x => [.int .i64 x.1, .string x.2], fun _ => rfl, by intro x u hu; simp at hu; rcases hu with rfl | rfl <;> rfl⟩
theorem tyI : SliceTy Try.prog 53 58 2 24 (.agg #[.int .i64 0, .string ⟨#[]⟩]) := ⟨Try.underlying53, by kernel_rfl, rfl, by decide⟩

def waveCells (s : WS) (v : Value) : Array Value := #[.int .i64 s.sent, .int .i64 s.taken, .int .i64 s.lost, .int .i64 s.copied, .int .i64 s.spoilt, v]
/-- The wave lies in block g. -/
def WaveAt (w : World) (base g : Nat) (s : WS) : Prop :=
  ∃ v, w.heap[g]? = some (.cells (waveCells s v) 55 (0, 0)) ∧ base ≤ g ∧ Own w base 58 encI v s.items

/-- What a call on a wave leaves: the wave that the document says; nothing else has turned. -/
def WavePost (w : World) (base g : Nat) (s' : WS) (r : Value) (e : Ending) (w' : World) : Prop :=
  e = .returned r ∧ WaveAt w' base g s' ∧ Below base w w' ∧ KeepT [55, 58] w w'

theorem heap_setCell_at {w : World} {g i : Nat} {cs : Array Value} {t : TypeId} (h : w.heap[g]? = some (.cells cs t (0, 0))) (u : Value) : (w.setCell ⟨g, i, none⟩ u).heap[g]? = some (.cells (cs.setIfInBounds i u) t (0, 0)) := by
  simp [World.setCell, Array.getElem?_modify, h]
/-- The items are stored anew. -/
theorem store_items {w1 : World} {base g : Nat} {s : WS} {v v' : Value} {l : List It} (hh : w1.heap[g]? = some (.cells (waveCells s v) 55 (0, 0))) (hg : base ≤ g) (ho : Own w1 base 58 encI v' l) :
    WaveAt (w1.setCell ⟨g, 5, none⟩ v') base g { s with items := l } :=
  ⟨v', heap_setCell_at hh v', hg, ho.setCell (ho.ne_block hh (by decide)) _⟩
/-- One count is one more. -/
theorem WaveAt.count {w : World} {base g : Nat} {s s' : WS} (h : WaveAt w base g s) (i : Nat) (u : Value) (hi : ∀ v, (waveCells s v).setIfInBounds i u = waveCells s' v) (hs : s'.items = s.items) : WaveAt (w.setCell ⟨g, i, none⟩ u) base g s' := by
  obtain ⟨v, hh, hg, ho⟩ := h
  exact ⟨v, by rw [← hi v]; exact heap_setCell_at hh u, hg, by rw [hs]; exact ho.setCell (ho.ne_block hh (by decide)) _⟩
theorem WaveAt.below {w w' : World} {base g : Nat} {s : WS} (h : WaveAt w base g s) (hb : Below w.heap.size w w') : WaveAt w' base g s := by
  obtain ⟨v, hh, hg, ho⟩ := h
  exact ⟨v, (hb.block g (lt_of_block hh)).trans hh, hg, ho.below hb⟩
theorem WavePost.of_below {w w' : World} {base g : Nat} {s : WS} {r : Value} (h : WaveAt w base g s) (hb : base ≤ w.heap.size) (hB : Below w.heap.size w w') : WavePost w base g s r (.returned r) w' :=
  ⟨rfl, h.below hB, hB.mono hb, .of_below hB⟩
/-- Behind an append and its store. -/
theorem store_post {w wd w1 : World} {base g : Nat} {s : WS} {l0 l : List It} {v v0 v' : Value} (hb : base ≤ w.heap.size) (hh : w.heap[g]? = some (.cells (waveCells s v) 55 (0, 0))) (hg : base ≤ g) (hd : Below w.heap.size w wd)
    (ho : Own wd base 58 encI v0 l0) (hgrow : wd.grownBy w1 v0.ownBlock) (ho1 : Own w1 base 58 encI v' l) (r : Value) : WavePost w base g { s with items := l } r (.returned r) (w1.setCell ⟨g, 5, none⟩ v') := by
  have hh1 : wd.heap[g]? = some (.cells (waveCells s v) 55 (0, 0)) := (hd.block g (lt_of_block hh)).trans hh
  have hn := ho.ne_block hh1 (by decide)
  have hh2 : w1.heap[g]? = some (.cells (waveCells s v) 55 (0, 0)) := (hgrow.block g (lt_of_block hh1) (Ne.symm hn)).trans hh1
  refine ⟨rfl, store_items hh2 hg ho1, ?_, ?_⟩
  · exact ((hd.mono hb).grown hgrow (Nat.le_trans hb hd.size) fun k hk => (ho.lt k hk).1).setCell hg _
  · exact ((KeepT.of_below hd).grown ho hgrow (by simp)).setCell hh2 (by simp) _

set_option maxRecDepth 100000 in
theorem wave_put (w : World) (base g : Nat) (s : WS) (x : It) (h : WaveAt w base g s) (hlen : s.items.length ≤ 256) (hb : base ≤ w.heap.size) :
    Calls Try.prog 21 #[.pointer (some ⟨g, 0, none⟩), .agg #[.int .i64 x.1, .string x.2]] w
      (WavePost w base g (if s.items.length = 256 then s else { s with items := s.items ++ [x] }) (.int .i64 (if s.items.length = 256 then 21 else 0))) := by
  obtain ⟨v, hh, hg, ho⟩ := h
  obtain ⟨A, cap, rfl, _, hm, hS, _⟩ := ho.form
  have c5 : w.cell? ⟨g, 5, none⟩ = some (.slice A s.items.length cap) := by rw [cell_of_row _ _ _ _ _ _ hh]; rfl
  have lg : g < w.heap.size := lt_of_block hh
  by_cases hfull : s.items.length = 256
  · rw [if_pos hfull, if_pos hfull]
    have ht : (256 : Int) ≤ (s.items.length : Int) := by omega
    go_enter Try.func21, Try.ntmps21
    go_wp2
    go_ret
    exact WavePost.of_below ⟨_, hh, hg, ho⟩ hb (by repeat (first | with_reducible exact Below.refl _ _ | with_reducible assumption | ((with_reducible refine Below.setCell ?_ ?_ _); rotate_left; · (first | omega | exact Nat.le_refl _ | (simp <;> omega))) | (with_reducible refine Below.allocW ?_ _) | (with_reducible refine Below.drew ?_) | (with_reducible refine Below.extW ?_ _)))
  · rw [if_neg hfull, if_neg hfull]
    have ht : ¬ (256 : Int) ≤ (s.items.length : Int) := by omega
    have HO := Lib.hid ho
    clear ho
    go_enter Try.func21, Try.ntmps21
    go_wp2_with fail
    have n1 := HO.out.ne_block hh (by decide)
    have n2 := HO.out.not_at w.heap.size (Nat.le_refl _)
    have fg : w.frozen? ⟨g, 5, none⟩ = false := by simp [World.frozen?, hh]
    go_region_law ((refine step_app tyI (by rfl) _ _ (by rfl) encI base _ _ (by rfl) ((HO.out.alloc _).alloc _).drew (some ⟨w.heap.size + 1, 0, none⟩) 1 [x] _ (by rfl) (sl_lit (w.alloc (Obj.cells #[.int .i64 x.1, .string x.2] 58)) encI [x] _ (w.heap.size + 1) (by simp)).drew (by simp; omega) (by simp [maxLen]; omega) (by simp; omega) ?_; intro v' w1 ho1 hgrow hlies hb1 _; obtain ⟨A', c', rfl, _, _, _, _⟩ := ho1.form; have e5 := (grown_cell hgrow g (by simp; omega) n1 5).trans (by simp [go_sem, c5, lg] : _ = some (Value.slice A s.items.length cap)); have e6 := (grown_frozen hgrow g (by simp; omega) n1 5).trans (by simp [go_sem, fg, lg] : _ = false)))
    all_goals
      rw [show (s.items ++ [x]).length = s.items.length + 1 by simp] at ho1
      go_wp2
      go_ret
      exact store_post hb hh hg (Below.allocW (Below.allocW (Below.refl _ _) _) _).drew ((HO.out.alloc _).alloc _).drew hgrow ho1 _

@[go_sem] theorem run_field_counted (w : World) (p : Option Addr) : (Instr.field 61 (.agg #[.pointer p]) 0).run Try.prog w = .ok (.pointer p) w := by kernel_rfl

theorem wave_with (w : World) (g : Nat) : Calls Try.prog 22 #[.pointer (some ⟨g, 0, none⟩)] w fun e w' => e = .returned (.agg #[.pointer (some ⟨g, 0, none⟩)]) ∧ Below w.heap.size w w' := by
  go_enter Try.func22, Try.ntmps22
  go_wp2
  exact bodyPost_ret (v := .agg #[.pointer (some ⟨g, 0, none⟩)]) (by simp only [results, Try.results22]; go_simp) rfl ⟨rfl, (by repeat (first | with_reducible exact Below.refl _ _ | with_reducible assumption | ((with_reducible refine Below.setCell ?_ ?_ _); rotate_left; · (first | omega | exact Nat.le_refl _ | (simp <;> omega))) | (with_reducible refine Below.allocW ?_ _) | (with_reducible refine Below.drew ?_) | (with_reducible refine Below.extW ?_ _)))⟩

theorem wave_sent (w : World) (g : Nat) (n : Nat) (hn : n < 4611686018427387904) (hc : w.cell? ⟨g, 0, none⟩ = some (.int .i64 n)) (hf : w.frozen? ⟨g, 0, none⟩ = false) :
    Calls Try.prog 23 #[.pointer (some ⟨g, 0, none⟩)] w fun e w' => e = .returned (.tuple #[]) ∧ w.setCell ⟨g, 0, none⟩ (.int .i64 ((n + 1 : Nat) : Int)) = w' := by
  go_enter Try.func23, Try.ntmps23
  go_wp2
  go_end0
  exact ⟨rfl, by simp⟩

theorem wave_copied (w : World) (g : Nat) (n : Nat) (hn : n < 4611686018427387904) (hc : w.cell? ⟨g, 3, none⟩ = some (.int .i64 n)) (hf : w.frozen? ⟨g, 3, none⟩ = false) :
    Calls Try.prog 26 #[.pointer (some ⟨g, 0, none⟩)] w fun e w' => e = .returned (.tuple #[]) ∧ w.setCell ⟨g, 3, none⟩ (.int .i64 ((n + 1 : Nat) : Int)) = w' := by
  go_enter Try.func26, Try.ntmps26
  go_wp2
  go_end0
  exact ⟨rfl, by simp⟩

/-- What has become of a wave, from world to world. -/
structure WaveRel (w : World) (base g : Nat) (s' : WS) (w' : World) : Prop where
  at_ : WaveAt w' base g s'
  below : Below base w w'
  keep : KeepT [55, 58] w w'
theorem WavePost.rel {w w' : World} {base g : Nat} {s' : WS} {r : Value} {e : Ending} (h : WavePost w base g s' r e w') : e = .returned r ∧ WaveRel w base g s' w' := ⟨h.1, h.2.1, h.2.2.1, h.2.2.2⟩
theorem WaveRel.post {w w' : World} {base g : Nat} {s' : WS} {r : Value} (h : WaveRel w base g s' w') : WavePost w base g s' r (.returned r) w' := ⟨rfl, h.at_, h.below, h.keep⟩
theorem WaveRel.refl {w : World} {base g : Nat} {s : WS} (h : WaveAt w base g s) : WaveRel w base g s w := ⟨h, Below.refl _ _, .refl _ _⟩
theorem WaveRel.then_ {w w1 w2 : World} {base g : Nat} {s1 s2 : WS} (h : WaveRel w base g s1 w1) (k : WaveRel w1 base g s2 w2) : WaveRel w base g s2 w2 := ⟨k.at_, h.below.trans k.below, h.keep.trans k.keep⟩
theorem WaveRel.more {w w1 w2 : World} {base g : Nat} {s1 : WS} (h : WaveRel w base g s1 w1) (hb : base ≤ w.heap.size) (k : Below w1.heap.size w1 w2) : WaveRel w base g s1 w2 :=
  ⟨h.at_.below k, h.below.trans (k.mono (Nat.le_trans hb h.below.size)), h.keep.trans (.of_below k)⟩
theorem WaveRel.count {w w1 : World} {base g : Nat} {s1 s2 : WS} (h : WaveRel w base g s1 w1) (i : Nat) (u : Value) (hi : ∀ v, (waveCells s1 v).setIfInBounds i u = waveCells s2 v) (hs : s2.items = s1.items) : WaveRel w base g s2 (w1.setCell ⟨g, i, none⟩ u) := by
  have hk := h.at_.count i u hi hs
  obtain ⟨v, hh, hg, ho⟩ := h.at_
  exact ⟨hk, h.below.setCell hg _, h.keep.setCell hh (by simp) _⟩
theorem WaveAt.cell {w : World} {base g : Nat} {s : WS} (h : WaveAt w base g s) (i : Nat) (u : Value) (hi : ∀ v, (waveCells s v)[i]? = some u) : w.cell? ⟨g, i, none⟩ = some u := by
  obtain ⟨v, hh, hg, ho⟩ := h
  rw [cell_of_row _ _ _ _ _ _ hh, hi]
theorem WaveAt.frozen {w : World} {base g : Nat} {s : WS} (h : WaveAt w base g s) (i : Nat) : w.frozen? ⟨g, i, none⟩ = false := by
  obtain ⟨v, hh, hg, ho⟩ := h
  simp [World.frozen?, hh]

/-- Small counts: no sum wraps round. -/
def WS.small (s : WS) : Prop := s.sent < 4611686018427387904 ∧ s.taken < 4611686018427387904 ∧ s.lost < 4611686018427387904 ∧ s.copied < 4611686018427387904 ∧ s.spoilt < 4611686018427387904

/-- Send. -/
def WS.send (s : WS) (x : It) : WS × Nat := if s.items.length = 256 then (s, 21) else ({ s with items := s.items ++ [x], sent := s.sent + 1 }, 0)

set_option maxRecDepth 100000 in
theorem wave_Send (w : World) (base g : Nat) (s : WS) (x : It) (h : WaveAt w base g s) (hs : s.small) (hlen : s.items.length ≤ 256) (hb : base ≤ w.heap.size) :
    Calls Try.prog 9 #[.pointer (some ⟨g, 0, none⟩), .int .i64 x.1, .string x.2] w (WavePost w base g (s.send x).1 (.int .i64 (s.send x).2)) := by
  have HP := Lib.hid (wave_put w base g s x h hlen hb)
  have HH := Lib.hid h
  clear h
  by_cases hfull : s.items.length = 256
  · rw [if_pos hfull, if_pos hfull] at HP
    have e1 : s.send x = (s, 21) := by simp [WS.send, hfull]
    rw [e1]
    go_enter Try.func9, Try.ntmps9
    go_wp2_with fail
    refine HP.out.mono ?_
    intro e w1 hp
    obtain ⟨rfl, hr⟩ := hp.rel
    go_wp2_with fail
    go_ret
    exact hr.post
  · rw [if_neg hfull, if_neg hfull] at HP
    have e1 : s.send x = ({ s with items := s.items ++ [x], sent := s.sent + 1 }, 0) := by simp [WS.send, hfull]
    rw [e1]
    go_enter Try.func9, Try.ntmps9
    go_wp2_with fail
    refine HP.out.mono ?_
    intro e w1 hp
    obtain ⟨rfl, hr⟩ := hp.rel
    go_wp2_with fail
    refine (wave_with _ _).mono ?_
    rintro e w2 ⟨rfl, hb2⟩
    have hr2 := hr.more hb hb2
    go_wp2_with fail
    refine (wave_sent _ _ s.sent hs.1 (hr2.at_.cell 0 _ (fun _ => rfl)) (hr2.at_.frozen 0)).mono ?_
    rintro e w3 ⟨rfl, rfl⟩
    go_wp2_with fail
    go_ret
    exact (hr2.count (s2 := { s with items := s.items ++ [x], sent := s.sent + 1 }) 0 _ (fun _ => rfl) rfl).post

theorem wave_Len (w : World) (base g : Nat) (s : WS) (h : WaveAt w base g s) : Calls Try.prog 11 #[.pointer (some ⟨g, 0, none⟩)] w fun e w' => e = .returned (.int .i64 s.items.length) ∧ Below w.heap.size w w' := by
  obtain ⟨v, hh, hg, ho⟩ := h
  obtain ⟨A, cap, rfl, _, hm, _, _⟩ := ho.form
  have c5 : w.cell? ⟨g, 5, none⟩ = some (.slice A s.items.length cap) := by rw [cell_of_row _ _ _ _ _ _ hh]; rfl
  go_enter Try.func11, Try.ntmps11
  go_wp2
  go_ret
  exact ⟨rfl, (by repeat (first | with_reducible exact Below.refl _ _ | with_reducible assumption | ((with_reducible refine Below.setCell ?_ ?_ _); rotate_left; · (first | omega | exact Nat.le_refl _ | (simp <;> omega))) | (with_reducible refine Below.allocW ?_ _) | (with_reducible refine Below.drew ?_) | (with_reducible refine Below.extW ?_ _)))⟩

def WS.has (s : WS) (i : Int) : Bool := decide (0 ≤ i) && decide (i < s.items.length)
theorem WS.has_tt {s : WS} {i : Int} (h : s.has i = true) : ∃ k : Nat, i = k ∧ k < s.items.length := by
  simp [WS.has] at h
  exact ⟨i.toNat, by omega, by omega⟩
theorem wave_has (w : World) (base g : Nat) (s : WS) (i : Int) (h : WaveAt w base g s) : Calls Try.prog 33 #[.pointer (some ⟨g, 0, none⟩), .int .i64 i] w fun e w' => e = .returned (.bool (s.has i)) ∧ Below w.heap.size w w' := by
  have HH := Lib.hid h
  clear h
  by_cases h0 : 0 ≤ i
  · go_enter Try.func33, Try.ntmps33
    go_wp2_with fail
    refine (wave_Len _ base g s HH.out).mono ?_
    rintro e w1 ⟨rfl, hb1⟩
    have B1 : Below w.heap.size w w1 := Below.then_ (by repeat (first | with_reducible exact Below.refl _ _ | with_reducible assumption | ((with_reducible refine Below.setCell ?_ ?_ _); rotate_left; · (first | omega | exact Nat.le_refl _ | (simp <;> omega))) | (with_reducible refine Below.allocW ?_ _) | (with_reducible refine Below.drew ?_) | (with_reducible refine Below.extW ?_ _))) hb1
    have s1 : w.heap.size ≤ w1.heap.size := B1.size
    go_wp2_with fail
    go_ret
    exact ⟨ret_bool (by simp [WS.has, h0]), (by repeat (first | with_reducible exact Below.refl _ _ | with_reducible assumption | ((with_reducible refine Below.setCell ?_ ?_ _); rotate_left; · (first | omega | exact Nat.le_refl _ | (simp <;> omega))) | (with_reducible refine Below.allocW ?_ _) | (with_reducible refine Below.drew ?_) | (with_reducible refine Below.extW ?_ _)))⟩
  · go_enter Try.func33, Try.ntmps33
    go_wp2_with fail
    go_ret
    exact ⟨ret_bool (by simp [WS.has]; omega), (by repeat (first | with_reducible exact Below.refl _ _ | with_reducible assumption | ((with_reducible refine Below.setCell ?_ ?_ _); rotate_left; · (first | omega | exact Nat.le_refl _ | (simp <;> omega))) | (with_reducible refine Below.allocW ?_ _) | (with_reducible refine Below.drew ?_) | (with_reducible refine Below.extW ?_ _)))⟩

/-- At. -/
def WS.at_ (s : WS) (i : Int) : Int × ByteArray × Bool := if s.has i then ((s.items.getD i.toNat (0, ⟨#[]⟩)).1, (s.items.getD i.toNat (0, ⟨#[]⟩)).2, true) else (0, ⟨#[]⟩, false)
def atV (r : Int × ByteArray × Bool) : Value := .tuple #[.int .i64 r.1, .string r.2.1, .bool r.2.2]
set_option maxRecDepth 100000 in
theorem wave_At (w : World) (base g : Nat) (s : WS) (i : Int) (h : WaveAt w base g s) : Calls Try.prog 19 #[.pointer (some ⟨g, 0, none⟩), .int .i64 i] w fun e w' => e = .returned (atV (s.at_ i)) ∧ Below w.heap.size w w' := by
  have HH := Lib.hid h
  cases hb : s.has i
  · have e1 : s.at_ i = (0, ⟨#[]⟩, false) := by simp [WS.at_, hb]
    have E1 := Lib.hid e1
    clear e1 h
    go_enter Try.func19, Try.ntmps19
    go_wp2_with fail
    refine (wave_has _ base g s i HH.out).mono ?_
    rintro e w1 ⟨rfl, hb1⟩
    have B1 : Below w.heap.size w w1 := Below.then_ (by repeat (first | with_reducible exact Below.refl _ _ | with_reducible assumption | ((with_reducible refine Below.setCell ?_ ?_ _); rotate_left; · (first | omega | exact Nat.le_refl _ | (simp <;> omega))) | (with_reducible refine Below.allocW ?_ _) | (with_reducible refine Below.drew ?_) | (with_reducible refine Below.extW ?_ _))) hb1
    have s1 : w.heap.size ≤ w1.heap.size := B1.size
    rw [hb]
    go_wp2_with fail
    go_ret3
    exact ⟨by rw [E1.out]; rfl, (by repeat (first | with_reducible exact Below.refl _ _ | with_reducible assumption | ((with_reducible refine Below.setCell ?_ ?_ _); rotate_left; · (first | omega | exact Nat.le_refl _ | (simp <;> omega))) | (with_reducible refine Below.allocW ?_ _) | (with_reducible refine Below.drew ?_) | (with_reducible refine Below.extW ?_ _)))⟩
  · obtain ⟨k, rfl, hk⟩ := WS.has_tt hb
    obtain ⟨v, hh, hg, ho⟩ := h
    obtain ⟨A, cap, rfl, hlc, hm, hS, _⟩ := ho.form
    obtain ⟨b, off, rfl, hbb, hc⟩ := hS.at_ hk
    have lg := lt_of_block hh
    have e1 : s.at_ k = (s.items[k].1, s.items[k].2, true) := by simp [WS.at_, hb, hk]
    have c5 : w.cell? ⟨g, 5, none⟩ = some (.slice (some ⟨b, off, none⟩) s.items.length cap) := by rw [cell_of_row _ _ _ _ _ _ hh]; rfl
    have d0 := hc 0 (.int .i64 s.items[k].1) rfl
    have d1 := hc 1 (.string s.items[k].2) rfl
    simp only [Nat.add_zero] at d0
    have E1 := Lib.hid e1
    clear e1 hc hS ho hh
    have i0 : (0 : Int) ≤ (k : Int) := by omega
    have i1 : (k : Int) < (s.items.length : Int) := by omega
    go_enter Try.func19, Try.ntmps19
    go_wp2_with fail
    refine (wave_has _ base g s k HH.out).mono ?_
    rintro e w1 ⟨rfl, hb1⟩
    have B1 : Below w.heap.size w w1 := Below.then_ (by repeat (first | with_reducible exact Below.refl _ _ | with_reducible assumption | ((with_reducible refine Below.setCell ?_ ?_ _); rotate_left; · (first | omega | exact Nat.le_refl _ | (simp <;> omega))) | (with_reducible refine Below.allocW ?_ _) | (with_reducible refine Below.drew ?_) | (with_reducible refine Below.extW ?_ _))) hb1
    have s1 : w.heap.size ≤ w1.heap.size := B1.size
    have c5' := (hb1.cell (p := ⟨g, 5, none⟩) lg).trans c5
    have d0' := (hb1.cell (p := ⟨b, _, none⟩) hbb).trans d0
    have d1' := (hb1.cell (p := ⟨b, _, none⟩) hbb).trans d1
    have lg1 : g < w1.heap.size := Nat.lt_of_lt_of_le lg s1
    have lb1 : b < w1.heap.size := Nat.lt_of_lt_of_le hbb s1
    clear c5 d0 d1
    rw [hb]
    go_wp2_with fail
    refine wp_region_ext (by kernel_rfl) (by kernel_rfl) ?_
    repeat (go_big_quiet_step (fail))
    refine wpQuiet_nil ?_
    intro w2 hb2
    replace hb2 := below_of_ext hb2
    have B2 : Below w.heap.size w w2 := Below.then_ (by repeat (first | with_reducible exact Below.refl _ _ | with_reducible assumption | ((with_reducible refine Below.setCell ?_ ?_ _); rotate_left; · (first | omega | exact Nat.le_refl _ | (simp <;> omega))) | (with_reducible refine Below.allocW ?_ _) | (with_reducible refine Below.drew ?_) | (with_reducible refine Below.extW ?_ _))) hb2
    have s2 : w.heap.size ≤ w2.heap.size := B2.size
    go_wp2_with fail
    go_ret3
    exact ⟨by rw [E1.out]; rfl, (by repeat (first | with_reducible exact Below.refl _ _ | with_reducible assumption | ((with_reducible refine Below.setCell ?_ ?_ _); rotate_left; · (first | omega | exact Nat.le_refl _ | (simp <;> omega))) | (with_reducible refine Below.allocW ?_ _) | (with_reducible refine Below.drew ?_) | (with_reducible refine Below.extW ?_ _)))⟩

def WS.cut (s : WS) (k : Nat) : WS := { s with items := s.items.take k ++ s.items.drop (k + 1) }
theorem cut_src {w : World} {B b off cap : Nat} {l : List It} (h : Sl w B encI (some ⟨b, off, none⟩) l) (hc : l.length ≤ cap) (k : Nat) :
    ∃ A, (if cap = k + 1 then some (⟨b, off, none⟩ : Addr) else some ⟨b, off + (k + 1) * 2, none⟩) = A ∧ Sl w B encI A (l.drop (k + 1)) ∧ (l.drop (k + 1)).length = l.length - (k + 1) := by
  by_cases he : cap = k + 1
  · exact ⟨_, rfl, .inl (List.drop_eq_nil_of_le (by omega)), by simp⟩
  · exact ⟨_, rfl, by rw [if_neg he]; exact h.drop (k + 1), by simp⟩
set_option maxRecDepth 100000 in
theorem wave_cut (w : World) (base g : Nat) (s : WS) (k : Nat) (h : WaveAt w base g s) (hk : k < s.items.length) (hlen : s.items.length ≤ 256) (hb : base ≤ w.heap.size) :
    Calls Try.prog 25 #[.pointer (some ⟨g, 0, none⟩), .int .i64 k] w (WavePost w base g (s.cut k) (.tuple #[])) := by
  obtain ⟨v, hh, hg, ho⟩ := h
  obtain ⟨A, cap, rfl, hlc, hm, hS, _⟩ := ho.form
  obtain ⟨b, off, rfl, hbb, _⟩ := hS.at_ hk
  obtain ⟨A2, hA2, hS2, hl2⟩ := cut_src hS hlc k
  have HS2 := Lib.hid hS2
  have HO := Lib.hid (ho.pre (Nat.le_of_lt hk))
  have lg := lt_of_block hh
  have fg : w.frozen? ⟨g, 5, none⟩ = false := by simp [World.frozen?, hh]
  have c5 : w.cell? ⟨g, 5, none⟩ = some (.slice (some ⟨b, off, none⟩) s.items.length cap) := by rw [cell_of_row _ _ _ _ _ _ hh]; rfl
  have i0 : (0 : Int) ≤ (k : Int) := by omega
  have i1 : (k : Int) < (s.items.length : Int) := by omega
  have i2 : (k : Int) ≤ (cap : Int) := by omega
  have i3 : (k : Int) + 1 ≤ (s.items.length : Int) := by omega
  have i4 : (0 : Int) ≤ (k : Int) + 1 := by omega
  have j1 : IntKind.i64.wrap ((k : Int) + 1) = (k : Int) + 1 := IntWalk.i64_in _ (by omega)
  have j2 : ((k : Int) + 1).toNat = k + 1 := by omega
  have HH := Lib.hid hh
  clear hS2 ho hS hh
  go_enter Try.func25, Try.ntmps25
  go_wp2_with fail
  have n1 := HO.out.ne_block HH.out (by decide)
  have hlen2 : ((s.items.take k).length + (s.items.drop (k + 1)).length) ≤ 256 := by simp; omega
  have HL := Lib.hid hlen2
  have HL2 := Lib.hid hl2
  clear hlen2 hl2
  go_region_law ((refine step_app tyI (by rfl) _ _ (by rfl) encI base _ _ (by rfl) HO.out.drew A2 (cap - (k + 1)) (s.items.drop (k + 1)) _ (by rw [HL2.out]; rfl) HS2.out.drew (by have := HL.out; omega) (by have := HL.out; simp only [maxLen]; omega) (by exact hb) ?_; intro v' w1 ho1 hgrow hlies hb1 _; obtain ⟨A', c', rfl, _, _, _, _⟩ := ho1.form; have e5 := (grown_cell hgrow g lg n1 5).trans (c5 : _ = some (Value.slice (some ⟨b, off, none⟩) s.items.length cap)); have e6 := (grown_frozen hgrow g lg n1 5).trans (fg : _ = false)))
  all_goals
    go_end0
    rw [show (s.items.take k ++ s.items.drop (k + 1)).length = min k s.items.length + (s.items.length - (k + 1)) by simp] at ho1
    exact store_post hb HH.out hg (Below.refl _ _).drew HO.out.drew hgrow ho1 _

/-- Why nothing can be done with one. -/
def WS.wrong (s : WS) (i : Int) : Nat := if s.has i then 0 else 2
theorem wave_wrong (w : World) (base g : Nat) (s : WS) (i : Int) (h : WaveAt w base g s) : Calls Try.prog 24 #[.pointer (some ⟨g, 0, none⟩), .int .i64 i] w fun e w' => e = .returned (.int .i64 (s.wrong i)) ∧ Below w.heap.size w w' := by
  have HH := Lib.hid h
  clear h
  cases hb : s.has i
  all_goals
    have e1 : ∀ b, s.has i = b → s.wrong i = if b then 0 else 2 := fun b h => by simp [WS.wrong, h]
    have E1 := Lib.hid (e1 _ hb)
    clear e1
    go_enter Try.func24, Try.ntmps24
    go_wp2_with fail
    refine (wave_has _ base g s i HH.out).mono ?_
    rintro e w1 ⟨rfl, hb1⟩
    have B1 : Below w.heap.size w w1 := Below.then_ (by repeat (first | with_reducible exact Below.refl _ _ | with_reducible assumption | ((with_reducible refine Below.setCell ?_ ?_ _); rotate_left; · (first | omega | exact Nat.le_refl _ | (simp <;> omega))) | (with_reducible refine Below.allocW ?_ _) | (with_reducible refine Below.drew ?_) | (with_reducible refine Below.extW ?_ _))) hb1
    have s1 : w.heap.size ≤ w1.heap.size := B1.size
    rw [hb]
    go_wp2_with fail
    go_ret
    exact ⟨by rw [E1.out]; rfl, (by repeat (first | with_reducible exact Below.refl _ _ | with_reducible assumption | ((with_reducible refine Below.setCell ?_ ?_ _); rotate_left; · (first | omega | exact Nat.le_refl _ | (simp <;> omega))) | (with_reducible refine Below.allocW ?_ _) | (with_reducible refine Below.drew ?_) | (with_reducible refine Below.extW ?_ _)))⟩

def WS.take (s : WS) (i : Int) : WS := if s.has i then { s.cut i.toNat with taken := s.taken + 1 } else s
set_option maxRecDepth 100000 in
theorem wave_Take (w : World) (base g : Nat) (s : WS) (i : Int) (h : WaveAt w base g s) (hs : s.small) (hlen : s.items.length ≤ 256) (hb : base ≤ w.heap.size) :
    Calls Try.prog 20 #[.pointer (some ⟨g, 0, none⟩), .int .i64 i] w (WavePost w base g (s.take i) (atV (s.at_ i))) := by
  have HH := Lib.hid h
  clear h
  cases hi : s.has i
  · have e1 : s.at_ i = (0, ⟨#[]⟩, false) := by simp [WS.at_, hi]
    have e2 : s.take i = s := by simp [WS.take, hi]
    rw [e1, e2]
    go_enter Try.func20, Try.ntmps20
    go_wp2_with fail
    refine (wave_At _ base g s i HH.out).mono ?_
    rintro e w1 ⟨rfl, hb1⟩
    rw [e1]
    unfold atV
    go_wp2_with fail
    go_ret3
    exact WavePost.of_below HH.out hb hb1
  · obtain ⟨k, rfl, hk⟩ := WS.has_tt hi
    have e1 : s.at_ k = (s.items[k].1, s.items[k].2, true) := by simp [WS.at_, hi, hk]
    have e2 : s.take k = { s.cut k with taken := s.taken + 1 } := by simp [WS.take, hi]
    rw [e1, e2]
    go_enter Try.func20, Try.ntmps20
    go_wp2_with fail
    refine (wave_At _ base g s k HH.out).mono ?_
    rintro e w1 ⟨rfl, hb1⟩
    rw [e1]
    unfold atV
    go_wp2_with fail
    refine (wave_cut _ base g s k (HH.out.below hb1) hk hlen (Nat.le_trans hb hb1.size)).mono ?_
    intro e w2 hp
    obtain ⟨rfl, hr0⟩ := hp.rel
    have hr := (WaveRel.more (WaveRel.refl HH.out) hb hb1).then_ hr0
    go_wp2_with fail
    refine (wave_with _ _).mono ?_
    rintro e w3 ⟨rfl, hb3⟩
    have hr3 := hr.more hb hb3
    have q1 := hr3.at_.cell 1 (.int .i64 s.taken) (fun _ => rfl)
    have q2 := hr3.at_.frozen 1
    have q3 : (s.taken : Int) < 4611686018427387904 := by have := hs; unfold WS.small at this; omega
    go_wp2_with fail
    go_ret3
    exact (hr3.count (s2 := { s.cut k with taken := s.taken + 1 }) 1 _ (fun _ => rfl) rfl).post

def WS.lose (s : WS) (i : Int) : WS × Nat := if s.has i then ({ s.cut i.toNat with lost := s.lost + 1 }, 0) else (s, 2)
set_option maxRecDepth 100000 in
theorem wave_Lose (w : World) (base g : Nat) (s : WS) (i : Int) (h : WaveAt w base g s) (hs : s.small) (hlen : s.items.length ≤ 256) (hb : base ≤ w.heap.size) :
    Calls Try.prog 10 #[.pointer (some ⟨g, 0, none⟩), .int .i64 i] w (WavePost w base g (s.lose i).1 (.int .i64 (s.lose i).2)) := by
  have HH := Lib.hid h
  clear h
  cases hi : s.has i
  · have e1 : s.wrong i = 2 := by simp [WS.wrong, hi]
    have e2 : s.lose i = (s, 2) := by simp [WS.lose, hi]
    rw [e2]
    go_enter Try.func10, Try.ntmps10
    go_wp2_with fail
    refine (wave_wrong _ base g s i HH.out).mono ?_
    rintro e w1 ⟨rfl, hb1⟩
    rw [e1]
    go_wp2_with fail
    go_ret
    exact WavePost.of_below HH.out hb hb1
  · obtain ⟨k, rfl, hk⟩ := WS.has_tt hi
    have e1 : s.wrong k = 0 := by simp [WS.wrong, hi]
    have e2 : s.lose k = ({ s.cut k with lost := s.lost + 1 }, 0) := by simp [WS.lose, hi]
    rw [e2]
    go_enter Try.func10, Try.ntmps10
    go_wp2_with fail
    refine (wave_wrong _ base g s k HH.out).mono ?_
    rintro e w1 ⟨rfl, hb1⟩
    rw [e1]
    go_wp2_with fail
    refine (wave_cut _ base g s k (HH.out.below hb1) hk hlen (Nat.le_trans hb hb1.size)).mono ?_
    intro e w2 hp
    obtain ⟨rfl, hr0⟩ := hp.rel
    have hr := (WaveRel.more (WaveRel.refl HH.out) hb hb1).then_ hr0
    go_wp2_with fail
    refine (wave_with _ _).mono ?_
    rintro e w3 ⟨rfl, hb3⟩
    have hr3 := hr.more hb hb3
    have q1 := hr3.at_.cell 2 (.int .i64 s.lost) (fun _ => rfl)
    have q2 := hr3.at_.frozen 2
    have q3 : (s.lost : Int) < 4611686018427387904 := by have := hs; unfold WS.small at this; omega
    go_wp2_with fail
    go_ret
    exact (hr3.count (s2 := { s.cut k with lost := s.lost + 1 }) 2 _ (fun _ => rfl) rfl).post

def WS.copy (s : WS) (i : Int) : WS × Nat := if s.has i then (if s.items.length = 256 then (s, 21) else ({ s with items := s.items ++ [s.items.getD i.toNat (0, ⟨#[]⟩)], copied := s.copied + 1 }, 0)) else (s, 2)
set_option maxRecDepth 100000 in
theorem wave_Copy (w : World) (base g : Nat) (s : WS) (i : Int) (h : WaveAt w base g s) (hs : s.small) (hlen : s.items.length ≤ 256) (hb : base ≤ w.heap.size) :
    Calls Try.prog 12 #[.pointer (some ⟨g, 0, none⟩), .int .i64 i] w (WavePost w base g (s.copy i).1 (.int .i64 (s.copy i).2)) := by
  have HH := Lib.hid h
  clear h
  cases hi : s.has i
  · have e1 : s.wrong i = 2 := by simp [WS.wrong, hi]
    have e2 : s.copy i = (s, 2) := by simp [WS.copy, hi]
    rw [e2]
    go_enter Try.func12, Try.ntmps12
    go_wp2_with fail
    refine (wave_wrong _ base g s i HH.out).mono ?_
    rintro e w1 ⟨rfl, hb1⟩
    rw [e1]
    go_wp2_with fail
    go_ret
    exact WavePost.of_below HH.out hb hb1
  · obtain ⟨k, rfl, hk⟩ := WS.has_tt hi
    have e1 : s.wrong k = 0 := by simp [WS.wrong, hi]
    obtain ⟨v, hh, hg, ho⟩ := HH.out
    obtain ⟨A, cap, rfl, hlc, hm, hS, _⟩ := ho.form
    obtain ⟨b, off, rfl, hbb, hc⟩ := hS.at_ hk
    have lg := lt_of_block hh
    have c5 : w.cell? ⟨g, 5, none⟩ = some (.slice (some ⟨b, off, none⟩) s.items.length cap) := by rw [cell_of_row _ _ _ _ _ _ hh]; rfl
    have d0 := hc 0 (.int .i64 s.items[k].1) rfl
    have d1 := hc 1 (.string s.items[k].2) rfl
    simp only [Nat.add_zero] at d0
    clear hc hS ho hh
    have i0 : (0 : Int) ≤ (k : Int) := by omega
    have i1 : (k : Int) < (s.items.length : Int) := by omega
    by_cases hfull : s.items.length = 256
    · have e2 : s.copy k = (s, 21) := by simp [WS.copy, hi, hfull]
      rw [e2]
      go_enter Try.func12, Try.ntmps12
      go_wp2_with fail
      refine (wave_wrong _ base g s k HH.out).mono ?_
      rintro e w1 ⟨rfl, hb1⟩
      rw [e1]
      have c5' := (hb1.cell (p := ⟨g, 5, none⟩) lg).trans c5
      have d0' := (hb1.cell (p := ⟨b, _, none⟩) hbb).trans d0
      have d1' := (hb1.cell (p := ⟨b, _, none⟩) hbb).trans d1
      clear c5 d0 d1
      go_wp2_with fail
      refine (wave_put _ base g s s.items[k] (HH.out.below hb1) hlen (Nat.le_trans hb hb1.size)).mono ?_
      intro e w2 hp
      obtain ⟨rfl, hr0⟩ := hp.rel
      rw [if_pos hfull] at hr0
      rw [if_pos hfull]
      have hr := (WaveRel.more (WaveRel.refl HH.out) hb hb1).then_ hr0
      go_wp2_with fail
      go_ret
      exact hr.post
    · have e2 : s.copy k = ({ s with items := s.items ++ [s.items[k]], copied := s.copied + 1 }, 0) := by simp [WS.copy, hi, hfull, hk]
      rw [e2]
      go_enter Try.func12, Try.ntmps12
      go_wp2_with fail
      refine (wave_wrong _ base g s k HH.out).mono ?_
      rintro e w1 ⟨rfl, hb1⟩
      rw [e1]
      have c5' := (hb1.cell (p := ⟨g, 5, none⟩) lg).trans c5
      have d0' := (hb1.cell (p := ⟨b, _, none⟩) hbb).trans d0
      have d1' := (hb1.cell (p := ⟨b, _, none⟩) hbb).trans d1
      clear c5 d0 d1
      go_wp2_with fail
      refine (wave_put _ base g s s.items[k] (HH.out.below hb1) hlen (Nat.le_trans hb hb1.size)).mono ?_
      intro e w2 hp
      obtain ⟨rfl, hr0⟩ := hp.rel
      rw [if_neg hfull] at hr0
      rw [if_neg hfull]
      have hr := (WaveRel.more (WaveRel.refl HH.out) hb hb1).then_ hr0
      go_wp2_with fail
      refine (wave_with _ _).mono ?_
      rintro e w3 ⟨rfl, hb3⟩
      have hr3 := hr.more hb hb3
      go_wp2_with fail
      refine (wave_copied _ _ s.copied hs.2.2.2.1 (hr3.at_.cell 3 _ (fun _ => rfl)) (hr3.at_.frozen 3)).mono ?_
      rintro e w4 ⟨rfl, rfl⟩
      go_wp2_with fail
      go_ret
      exact (hr3.count (s2 := { s with items := s.items ++ [s.items[k]], copied := s.copied + 1 }) 3 _ (fun _ => rfl) rfl).post

theorem wave_Count (w : World) (base g : Nat) (s : WS) (h : WaveAt w base g s) : Calls Try.prog 18 #[.pointer (some ⟨g, 0, none⟩)] w fun e w' =>
    e = .returned (.agg #[.int .i64 s.sent, .int .i64 s.taken, .int .i64 s.lost, .int .i64 s.copied, .int .i64 s.spoilt]) ∧ Below w.heap.size w w' := by
  have c0 := h.cell 0 (.int .i64 s.sent) (fun _ => rfl)
  have c1 := h.cell 1 (.int .i64 s.taken) (fun _ => rfl)
  have c2 := h.cell 2 (.int .i64 s.lost) (fun _ => rfl)
  have c3 := h.cell 3 (.int .i64 s.copied) (fun _ => rfl)
  have c4 := h.cell 4 (.int .i64 s.spoilt) (fun _ => rfl)
  obtain ⟨v, hh, hg, ho⟩ := h
  have lg := lt_of_block hh
  clear hh ho
  go_enter Try.func18, Try.ntmps18
  go_wp2
  exact bodyPost_ret (v := .agg #[.int .i64 s.sent, .int .i64 s.taken, .int .i64 s.lost, .int .i64 s.copied, .int .i64 s.spoilt]) (by simp only [results, Try.results18]; go_simp) rfl ⟨rfl, (by repeat (first | with_reducible exact Below.refl _ _ | with_reducible assumption | ((with_reducible refine Below.setCell ?_ ?_ _); rotate_left; · (first | omega | exact Nat.le_refl _ | (simp <;> omega))) | (with_reducible refine Below.allocW ?_ _) | (with_reducible refine Below.drew ?_) | (with_reducible refine Below.extW ?_ _)))⟩

theorem wave_New (w : World) : Calls Try.prog 8 #[] w fun e w' => e = .returned (.pointer (some ⟨w.heap.size, 0, none⟩)) ∧ Below w.heap.size w w' ∧ WaveAt w' w.heap.size w.heap.size ⟨0, 0, 0, 0, 0, []⟩ := by
  go_enter Try.func8, Try.ntmps8
  go_wp2
  go_ret
  exact ⟨rfl, (by repeat (first | with_reducible exact Below.refl _ _ | with_reducible assumption | ((with_reducible refine Below.setCell ?_ ?_ _); rotate_left; · (first | omega | exact Nat.le_refl _ | (simp <;> omega))) | (with_reducible refine Below.allocW ?_ _) | (with_reducible refine Below.drew ?_) | (with_reducible refine Below.extW ?_ _))), .slice none 0 0, heap_alloc_new w _, Nat.le_refl _, .nil _ _ _ _⟩
end Go.Proofs.Ytclkcbhghbdffaa
