/- The law WavePlays, walked. -/
import Derived.Test.YtclkcbhghbdffaaWaveLike
namespace Go.Proofs.Ytclkcbhghbdffaa
open Go.ChangeShapes Go.WideShapes Go.ChangeAt Go.RowKit
set_option linter.unusedVariables false
attribute [local go_sem ↓] Go.wp_at_zero Go.wp_at_succ

theorem RV.keepT {w w' : World} {A : Option Addr} {n cap : Nat} {s : WS} {T : List TypeId} (h : RV w A n cap s) (hk : KeepT T w w') (he : 40 ∉ T) : RV w' A n cap s := by
  refine ⟨h.1, ?_, h.2.2⟩
  rcases h.2.1 with h | ⟨b, off, hA, hT, hx⟩
  · exact .inl h
  · obtain ⟨cs, fr, hb⟩ := hT
    have hb' := hk.block b _ hb (by intro cs' t' fr' e1; cases e1; exact he)
    refine .inr ⟨b, off, hA, .of hb', fun i x hi j v hj => ?_⟩
    have h1 := hx i x hi j v hj
    rw [cell_of_row _ _ _ _ _ _ hb] at h1
    rw [cell_of_row _ _ _ _ _ _ hb']
    exact h1
abbrev rvC (A : Option Addr) (n cap : Nat) (s : WS) : Array Value := #[.slice A n cap, .int .i64 s.sent, .int .i64 s.taken, .int .i64 s.lost, .int .i64 s.copied, .int .i64 s.spoilt]
theorem keep_blk {w0 w1 : World} {base g : Nat} {s' : WS} (h : WaveRel w0 base g s' w1) {b : Nat} {cs : Array Value} {t : TypeId} (hb : w0.heap[b]? = some (.cells cs t (0, 0))) (ht : t ∉ [55, 58]) : w1.heap[b]? = some (.cells cs t (0, 0)) := do_keep h hb ht

theorem alloc_size' (w : World) (o : Obj) : (w.alloc o).heap.size = w.heap.size + 1 := by simp
abbrev setRv (w : World) (V : Nat) (A : Option Addr) (n c : Nat) (s : WS) : World :=
  (((((w.setCell ⟨V, 0, none⟩ (.slice A n c)).setCell ⟨V, 1, none⟩ (.int .i64 s.sent)).setCell ⟨V, 2, none⟩ (.int .i64 s.taken)).setCell ⟨V, 3, none⟩ (.int .i64 s.lost)).setCell ⟨V, 4, none⟩ (.int .i64 s.copied)).setCell ⟨V, 5, none⟩ (.int .i64 s.spoilt)
theorem setRv_rel {w2 w : World} {base g V n c : Nat} {A : Option Addr} {s s0 : WS} (h : WaveRel w2 base g s0 w) (hT : TypeAt w V 36) (hb : base ≤ w2.heap.size) (hV : w2.heap.size ≤ V) : WaveRel w2 base g s0 (setRv w V A n c s) :=
  (((((h.store hT (by decide) (by decide) hV hb _ _).store hT.setCell (by decide) (by decide) hV hb _ _).store hT.setCell.setCell (by decide) (by decide) hV hb _ _).store hT.setCell.setCell.setCell (by decide) (by decide) hV hb _ _).store hT.setCell.setCell.setCell.setCell (by decide) (by decide) hV hb _ _).store
    hT.setCell.setCell.setCell.setCell.setCell (by decide) (by decide) hV hb _ _
theorem setRv_rv {w : World} {V n c n' c' : Nat} {A A' : Option Addr} {s s' : WS} (h : RV w A' n' c' s') (hT : TypeAt w V 36) : RV (setRv w V A n c s) A' n' c' s' :=
  (((((h.setT (p := ⟨V, 0, none⟩) hT (by decide)).setT (p := ⟨V, 1, none⟩) hT.setCell (by decide)).setT (p := ⟨V, 2, none⟩) hT.setCell.setCell (by decide)).setT (p := ⟨V, 3, none⟩) hT.setCell.setCell.setCell (by decide)).setT (p := ⟨V, 4, none⟩) hT.setCell.setCell.setCell.setCell (by decide)).setT (p := ⟨V, 5, none⟩)
    hT.setCell.setCell.setCell.setCell.setCell (by decide)
theorem setRv_at {w : World} {V n c n' c' : Nat} {A A' : Option Addr} {s s' : WS} (h : w.heap[V]? = some (.cells (rvC A' n' c' s') 36 (0, 0))) : (setRv w V A n c s).heap[V]? = some (.cells (rvC A n c s) 36 (0, 0)) := by
  have := heap_setCell_at (i := 5) (heap_setCell_at (i := 4) (heap_setCell_at (i := 3) (heap_setCell_at (i := 2) (heap_setCell_at (i := 1) (heap_setCell_at (i := 0) h (.slice A n c)) (.int .i64 s.sent)) (.int .i64 s.taken)) (.int .i64 s.lost)) (.int .i64 s.copied)) (.int .i64 s.spoilt)
  simpa using this
theorem setRv_size {w : World} {V n c : Nat} {A : Option Addr} {s : WS} : (setRv w V A n c s).heap.size = w.heap.size := by simp [setRv, World.setCell]

set_option maxRecDepth 100000 in
set_option maxHeartbeats 1000000 in
theorem law_WavePlays (l : List OpS) (A0 : Option Addr) (cap0 : Nat) (w : World) (hS : Sl w w.heap.size encO A0 l) (hok : ∀ o ∈ l, o.ok) (hm : l.length ≤ maxLen) :
    Calls Try.prog 4 #[.slice A0 l.length cap0] w fun e w' => e = .returned (.bool true) ∧ Below w.heap.size w w' := by
  have HS := Lib.hid hS
  have HF := Lib.hid (law_few l A0 cap0 w hS hm hok)
  clear hS
  go_enter Try.func4, Try.ntmps4
  go_wp2_with fail
  refine HF.out.mono ?_
  rintro e w1 ⟨⟨b, rfl, hb⟩, hb1⟩
  cases b
  · go_wp2_with fail
    refine (alive30 _).mono ?_
    rintro e w2 ⟨rfl, hb2⟩
    have B2 : Below w.heap.size w w2 := Below.then_ (by repeat (first | with_reducible exact Below.refl _ _ | with_reducible assumption | ((with_reducible refine Below.setCell ?_ ?_ _); rotate_left; · (first | omega | exact Nat.le_refl _ | (simp <;> omega))) | (with_reducible refine Below.allocW ?_ _) | (with_reducible refine Below.drew ?_) | (with_reducible refine Below.extW ?_ _))) hb2
    have s2 : w.heap.size ≤ w2.heap.size := B2.size
    go_wp2_with fail
    go_ret
    exact ⟨rfl, (by repeat (first | with_reducible exact Below.refl _ _ | with_reducible assumption | ((with_reducible refine Below.setCell ?_ ?_ _); rotate_left; · (first | omega | exact Nat.le_refl _ | (simp <;> omega))) | (with_reducible refine Below.allocW ?_ _) | (with_reducible refine Below.drew ?_) | (with_reducible refine Below.extW ?_ _)))⟩
  · have hlen := hb rfl
    clear hb HF
    unfold maxLen at hm
    go_wp2_with fail
    refine (wave_New w1).mono ?_
    rintro e w2 ⟨rfl, hb2, ha⟩
    have hr2 := Lib.hid (WaveRel.refl ha)
    have z12 := hb2.size
    have z01 := hb1.size
    have B2 : Below w.heap.size w w2 := Below.then_ hb1 hb2
    clear ha
    go_wp2_with fail
    go_loopw [19] (fun i wr => ∃ (k : Nat) (s : WS) (A : Option Addr) (n c : Nat), k ≤ l.length ∧ i = .int .i64 k ∧ WaveRel w2 w1.heap.size w1.heap.size s wr ∧ PlaysInv k s ∧ wr.heap[w2.heap.size]? = some (.cells (rvC A n c s) 36 (0, 0)) ∧ RV wr A n c s) (fun i _ => l.length - (intOf i).toNat)
    case atStart => exact ⟨0, _, none, 0, 0, by omega, rfl, hr2.out.alloc z12 _, by constructor <;> simp, heap_new_at _ _ _ rfl, rfl, .inl rfl, by simp, by simp⟩
    case round =>
      obtain ⟨k, s, A, n, c, hk, rfl, hr, hI, hV, hRV⟩ := hrel
      have HR := Lib.hid hr
      have HI := Lib.hid hI
      have HV := Lib.hid hV
      have HRV := Lib.hid hRV
      have B3 : Below w.heap.size w wr := B2.trans (hr.below.mono z01)
      have vc := blk_cell hV
      have vf := blk_frozen hV
      have vz := lt_of_block hV
      have hs := B3.size
      clear hr hI hV hRV
      by_cases hlt : k < l.length
      · obtain ⟨b, off, rfl, hb, hc⟩ := (HS.out.below B3).at_ hlt
        obtain ⟨d0, d1, d2, d3, d4, d5⟩ := op_cells hc
        have ho := hok _ (List.getElem_mem hlt)
        generalize l[k] = o at d0 d1 d2 d3 d4 d5 ho
        clear hc
        have i0 : (0 : Int) ≤ (k : Int) := by omega
        have i1 : (k : Int) < (l.length : Int) := by omega
        have HQ := fun W (hW : RV W A n c s) => ref_Do W A n c s o hW (HI.out.small (by omega)) HI.out.le HI.out.sizes ho
        have HL := fun W (hW : WaveAt W w1.heap.size w1.heap.size s) (hz : w1.heap.size ≤ W.heap.size) => law_do W w1.heap.size w1.heap.size s o hW (HI.out.small (by omega)) HI.out.le HI.out.sizes ho hz
        have hd := HI.out.do_ o ho
        generalize s.do_ o = r at HQ HL hd
        obtain ⟨s', x, N⟩ := r
        have HD := Lib.hid hd
        have HQ := Lib.hid HQ
        have HL := Lib.hid HL
        clear hd
        go_wp2_with fail
        refine (HQ.out _ (HRV.out.alloc _)).mono ?_
        rintro e w3 ⟨⟨A2, m2, c2, rfl, hR3⟩, hb3⟩
        have HR3 := Lib.hid hR3
        have HW3 := Lib.hid ((HR.out.alloc z12 (.cells #[.int .i64 o.kind, .int .i64 o.i, .int .i64 o.to_, .int .i64 o.at_, .string o.text, .int .u8 o.by_] 38)).more z12 hb3)
        have k6 := blk_below (heap_new_at wr (.cells #[.int .i64 o.kind, .int .i64 o.i, .int .i64 o.to_, .int .i64 o.at_, .string o.text, .int .u8 o.by_] 38) _ rfl) hb3
        have kV := blk_below ((heap_new_lt _ _ _ vz).trans HV.out) hb3
        have K6 := Lib.hid k6
        have KV := Lib.hid kV
        have cc6 := blk_cell k6
        have ccV := blk_cell kV
        have cfV := blk_frozen kV
        have z6 := lt_of_block k6
        have zV := lt_of_block kV
        have B4 : Below w.heap.size w w3 := Below.then_ (Below.allocW B3 _) hb3
        clear hR3 k6 kV vc vf d0 d1 d2 d3 d4 d5
        go_wp2_with fail
        have T3 := TypeAt.of KV.out
        have hr4 := ((setRv_rel (A := A2) (n := m2) (c := c2) (s := s') HW3.out T3 z12 (Nat.le_refl _)).alloc z12 (.cells (rvC A2 m2 c2 s') 36)).alloc z12 (.cells #[.int .i64 x.1, .string x.2] 40)
        have rv4 := ((setRv_rv (A := A2) (n := m2) (c := c2) (s := s') HR3.out T3).alloc (.cells (rvC A2 m2 c2 s') 36)).alloc (.cells #[.int .i64 x.1, .string x.2] 40)
        have kv4 := (heap_new_lt ((setRv w3 w2.heap.size A2 m2 c2 s').alloc (.cells (rvC A2 m2 c2 s') 36)) (.cells #[.int .i64 x.1, .string x.2] 40) w2.heap.size (by rw [alloc_size', setRv_size]; omega)).trans ((heap_new_lt (setRv w3 w2.heap.size A2 m2 c2 s') (.cells (rvC A2 m2 c2 s') 36) w2.heap.size (by rw [setRv_size]; exact zV)).trans (setRv_at KV.out))
        have k74 := heap_new_at ((setRv w3 w2.heap.size A2 m2 c2 s').alloc (.cells (rvC A2 m2 c2 s') 36)) (.cells #[.int .i64 x.1, .string x.2] 40) (w3.heap.size + 1) (by rw [alloc_size', setRv_size])
        refine (HL.out _ hr4.at_ (Nat.le_trans z12 hr4.below.size)).mono ?_
        intro e w5 hp
        obtain ⟨rfl, hr5⟩ := hp.rel
        have HR5 := Lib.hid (hr4.then_ hr5)
        have RV5 := Lib.hid (rv4.keepT hr5.keep (by decide))
        have kV5 := do_keep hr5 kv4 (by decide)
        have k75 := do_keep hr5 k74 (by decide)
        have KV5 := Lib.hid kV5
        have cc7 := blk_cell k75
        have ccV5 := blk_cell kV5
        have z7 := lt_of_block k75
        have zV5 := lt_of_block kV5
        clear hr4 rv4 kv4 k74 hp hr5 kV5 k75 ccV cfV cc6 T3
        go_wp2_with fail
        refine (law_like _ w1.heap.size w1.heap.size s' A2 m2 c2 ((HR5.out.alloc z12 _).at_) (RV5.out.alloc _) HD.out.le).mono ?_
        rintro e w6 ⟨rfl, hb6⟩
        go_wp2_with fail
        go_roundw
        case rel => exact ⟨k + 1, s', A2, m2, c2, by omega, by go_num, (HR5.out.alloc z12 _).more z12 hb6, HD.out, blk_below ((heap_new_lt _ _ _ zV5).trans KV5.out) hb6, (RV5.out.alloc _).below hb6⟩
        case measure => simp [intOf]; omega
      · obtain rfl : k = l.length := by omega
        go_wp2_with fail
        refine (alive30 _).mono ?_
        rintro e w4 ⟨rfl, hb4⟩
        have B4 : Below w.heap.size w w4 := Below.then_ (by repeat (first | with_reducible exact Below.refl _ _ | with_reducible assumption | ((with_reducible refine Below.setCell ?_ ?_ _); rotate_left; · (first | omega | exact Nat.le_refl _ | (simp <;> omega))) | (with_reducible refine Below.allocW ?_ _) | (with_reducible refine Below.drew ?_) | (with_reducible refine Below.extW ?_ _))) hb4
        have s4 : w.heap.size ≤ w4.heap.size := B4.size
        go_wp2_with fail
        go_ret
        exact ⟨rfl, (by repeat (first | with_reducible exact Below.refl _ _ | with_reducible assumption | ((with_reducible refine Below.setCell ?_ ?_ _); rotate_left; · (first | omega | exact Nat.le_refl _ | (simp <;> omega))) | (with_reducible refine Below.allocW ?_ _) | (with_reducible refine Below.drew ?_) | (with_reducible refine Below.extW ?_ _)))⟩
end Go.Proofs.Ytclkcbhghbdffaa
