/- Package wave: Spoil. -/
import Derived.Test.YtclkcbhghbdffaaWave
import Derived.Laws.BytesArg
namespace Go.Proofs.Ytclkcbhghbdffaa
open Go.ChangeShapes Go.WideShapes Go.ChangeAt Go.RowKit
set_option linter.unusedVariables false
attribute [local go_sem ↓] Go.wp_at_zero Go.wp_at_succ

/-- The text with some bits of one byte turned. -/
def xorB (x b : Int) : Int := bits .xor .u8 x b
def nums (t : ByteArray) : List Int := t.data.toList.map fun c => (c.toNat : Int)
def spoilT (t : ByteArray) (a : Nat) (b : Int) : ByteArray := strOfNums ((nums t).set a (xorB ((nums t).getD a 0) b))

theorem nums_len (t : ByteArray) : (nums t).length = t.size := by
  unfold nums
  rw [List.length_map, Array.length_toList]
  rfl

structure BytesConv (t : ByteArray) (a : Nat) (x y : Int) (t' : ByteArray) : Prop where
  conv : ∀ W : World, (convert 9 74 (.string t)).run Try.prog W = .ok (.slice (some ⟨W.heap.size, 0, none⟩) t.size (grownCap W t.size 0 5)) (Lib.bytesWorld W 5 t)
  size : ∀ W : World, (Lib.bytesWorld W 5 t).heap.size = W.heap.size + 1
  old : ∀ (W : World) (b o : Nat), b < W.heap.size → (Lib.bytesWorld W 5 t).cell? ⟨b, o, none⟩ = W.cell? ⟨b, o, none⟩
  oldf : ∀ (W : World) (b o : Nat), b < W.heap.size → (Lib.bytesWorld W 5 t).frozen? ⟨b, o, none⟩ = W.frozen? ⟨b, o, none⟩
  cell : ∀ W : World, (Lib.bytesWorld W 5 t).cell? ⟨W.heap.size, a, none⟩ = some (.int .u8 x)
  frozen : ∀ W : World, (Lib.bytesWorld W 5 t).frozen? ⟨W.heap.size, a, none⟩ = false
  back : ∀ (W : World) (c : Nat), (convert 74 9 (.slice (some ⟨W.heap.size, 0, none⟩) t.size c)).run Try.prog ((Lib.bytesWorld W 5 t).setCell ⟨W.heap.size, a, none⟩ (.int .u8 y)) = .ok (.string t') ((Lib.bytesWorld W 5 t).setCell ⟨W.heap.size, a, none⟩ (.int .u8 y))
  back1 : ∀ (W : World) (c : Nat), (convert 74 9 (.slice (some ⟨W.heap.size, 0, none⟩) t.size c)).run Try.prog ((Lib.bytesWorld W 5 t).setCell ⟨W.heap.size, a, none⟩ (.int .u8 y)).drew = .ok (.string t') ((Lib.bytesWorld W 5 t).setCell ⟨W.heap.size, a, none⟩ (.int .u8 y)).drew
  backAny : ∀ (W W' : World) (c : Nat), (∀ j, W'.cell? ⟨W.heap.size, j, none⟩ = ((Lib.bytesWorld W 5 t).setCell ⟨W.heap.size, a, none⟩ (.int .u8 y)).cell? ⟨W.heap.size, j, none⟩) →
    (convert 74 9 (.slice (some ⟨W.heap.size, 0, none⟩) t.size c)).run Try.prog W' = .ok (.string t') W'

theorem nums_get (t : ByteArray) (j : Nat) (hj : j < t.size) : (nums t).getD j 0 = ((t.data.toList.getD j 0).toNat : Int) := by
  have : j < t.data.toList.length := by rw [Array.length_toList]; exact hj
  simp [nums, List.getD, List.getElem?_eq_getElem this]

theorem bytesConv (t : ByteArray) (a : Nat) (ha : a < t.size) (b : Int) : BytesConv t a ((nums t).getD a 0) (xorB ((nums t).getD a 0) b) (spoilT t a b) := by
  have hcell : ∀ (W : World) (j : Nat), j < t.size → (Lib.bytesWorld W 5 t).cell? ⟨W.heap.size, j, none⟩ = some (.int .u8 ((nums t).getD j 0)) := by
    intro W j hj
    rw [Lib.bytesWorld_cell W _ t j hj, nums_get t j hj]
  have hset : ∀ (W : World) (y : Int), ∀ i, i < t.size → ((Lib.bytesWorld W 5 t).setCell ⟨W.heap.size, a, none⟩ (.int .u8 y)).cell? ⟨W.heap.size, 0 + i, none⟩ = some (.int .u8 (((nums t).set a y).getD i 0)) := by
    intro W y i hi
    rw [Nat.zero_add]
    by_cases he : i = a
    · subst he
      rw [World.cell?_setCell_same _ _ _ (hcell W i hi)]
      simp [List.getD, nums_len, hi]
    · rw [World.cell?_setCell_other _ _ _ _ (by intro h; injection h; omega), hcell W i hi]
      simp [List.getD, List.getElem?_set, Ne.symm he]
  refine ⟨fun W => Lib.run_convert_string_bytes W _ _ _ t Try.underlying9 Try.underlying74 Try.underlying5, fun W => Lib.bytesWorld_size W _ t, fun W b o h => Lib.bytesWorld_old W _ t ⟨b, o, none⟩ h,
    fun W b o h => World.frozen?_of_block (w := W) (Lib.bytesWorld_at_old W _ t b h), fun W => hcell W a ha, fun W => ?_, fun W c => ?_, fun W c => ?_, fun W W' c hW => ?_⟩
  · simp only [World.frozen?, Lib.bytesWorld_at_new]
    have : (Lib.bytesCells W 5 t).size ≥ t.size := by
      unfold Lib.bytesCells
      rw [Array.size_append, Array.size_map]
      exact Nat.le_add_right _ _
    simp
    omega
  · exact run_convert_bytes_arg _ _ _ Try.underlying74 Try.underlying5 W.heap.size 0 t.size c ((nums t).set a (xorB ((nums t).getD a 0) b)) (by simp [nums_len]) (hset W _) _ Try.underlying9
  · exact run_convert_bytes_arg (P := Try.prog) ((Lib.bytesWorld W 5 t).setCell ⟨W.heap.size, a, none⟩ (.int .u8 (xorB ((nums t).getD a 0) b))).drew _ _ Try.underlying74 Try.underlying5 W.heap.size 0 t.size c ((nums t).set a (xorB ((nums t).getD a 0) b)) (by simp [nums_len]) (hset W _) _ Try.underlying9
  · exact run_convert_bytes_arg (P := Try.prog) W' _ _ Try.underlying74 Try.underlying5 W.heap.size 0 t.size c ((nums t).set a (xorB ((nums t).getD a 0) b)) (by simp [nums_len]) (fun i hi => by rw [hW]; exact hset W _ i hi) _ Try.underlying9

def WS.spoil (s : WS) (i a b : Int) : WS × Nat :=
  if s.has i = true ∧ 0 ≤ a ∧ a < ((s.items.getD i.toNat (0, ⟨#[]⟩)).2.size : Int) then
    ({ s with items := s.items.set i.toNat ((s.items.getD i.toNat (0, ⟨#[]⟩)).1, spoilT (s.items.getD i.toNat (0, ⟨#[]⟩)).2 a.toNat b), spoilt := s.spoilt + 1 }, 0) else (s, 2)

set_option maxRecDepth 100000 in
theorem wave_Spoil_no (w : World) (base g : Nat) (s : WS) (i a b : Int) (h : WaveAt w base g s) (hb : base ≤ w.heap.size) (hi : s.has i = false) :
    Calls Try.prog 32 #[.pointer (some ⟨g, 0, none⟩), .int .i64 i, .int .i64 a, .int .u8 b] w (WavePost w base g s (.int .i64 2)) := by
  have HH := Lib.hid h
  clear h
  have e1 : s.wrong i = 2 := by simp [WS.wrong, hi]
  go_enter Try.func32, Try.ntmps32
  go_wp2_with fail
  refine (wave_wrong _ base g s i HH.out).mono ?_
  rintro e w1 ⟨rfl, hb1⟩
  rw [e1]
  go_wp2_with fail
  go_ret
  exact WavePost.of_below HH.out hb hb1

set_option maxRecDepth 100000 in
theorem wave_Spoil_arg (w : World) (base g : Nat) (s : WS) (k : Nat) (a b : Int) (h : WaveAt w base g s) (hb : base ≤ w.heap.size) (hi : s.has k = true) (hk : k < s.items.length) (ha : a < 0 ∨ (s.items[k].2.size : Int) ≤ a) :
    Calls Try.prog 32 #[.pointer (some ⟨g, 0, none⟩), .int .i64 k, .int .i64 a, .int .u8 b] w (WavePost w base g s (.int .i64 2)) := by
  have HH := Lib.hid h
  clear h
  have e1 : s.wrong k = 0 := by simp [WS.wrong, hi]
  by_cases h0 : a < 0
  all_goals
    obtain ⟨v, hh, hg, ho⟩ := HH.out
    obtain ⟨A, cap, rfl, hlc, hm, hS, _⟩ := ho.form
    obtain ⟨bb, off, rfl, hbb, hc⟩ := hS.at_ hk
    have lg := lt_of_block hh
    have c5 : w.cell? ⟨g, 5, none⟩ = some (.slice (some ⟨bb, off, none⟩) s.items.length cap) := by rw [cell_of_row _ _ _ _ _ _ hh]; rfl
    have d1 := hc 1 (.string s.items[k].2) rfl
    clear hc hS ho hh
    have i0 : (0 : Int) ≤ (k : Int) := by omega
    have i1 : (k : Int) < (s.items.length : Int) := by omega
    have h1 : ¬ a < 0 → (s.items[k].2.size : Int) ≤ a := fun _ => by omega
    go_enter Try.func32, Try.ntmps32
    go_wp2_with fail
    refine (wave_wrong _ base g s k HH.out).mono ?_
    rintro e w1 ⟨rfl, hb1⟩
    rw [e1]
    have c5' := (hb1.cell (p := ⟨g, 5, none⟩) lg).trans c5
    have d1' := (hb1.cell (p := ⟨bb, _, none⟩) hbb).trans d1
    clear c5 d1
    try have h2 := h1 h0
    clear h1 ha
    go_wp2_with fail
    go_ret
    exact WavePost.of_below HH.out hb hb1

theorem bytes_below (W : World) (e : TypeId) (t : ByteArray) : Below W.heap.size W (Lib.bytesWorld W e t) :=
  ⟨rfl, rfl, rfl, by rw [Lib.bytesWorld_size]; omega, fun k hk => Lib.bytesWorld_at_old W e t k hk⟩
theorem spoil_rel {w W : World} {base g bb off n cap k : Nat} {s : WS} (hb : base ≤ w.heap.size) (hh : w.heap[g]? = some (.cells (waveCells s (.slice (some ⟨bb, off, none⟩) n cap)) 55 (0, 0))) (hg : base ≤ g)
    (ho : Own w base 58 encI (.slice (some ⟨bb, off, none⟩) n cap) s.items) (hB : Below w.heap.size w W) (hk : k < s.items.length) (t : ByteArray) :
    WaveRel w base g { s with items := s.items.set k (s.items[k].1, t) } (W.setCell ⟨bb, off + k * 2 + 1, none⟩ (.string t)).drew := by
  have hh1 := (hB.block g (lt_of_block hh)).trans hh
  have ho1 := ho.below hB
  have hne := ho1.ne_block hh1 (by decide)
  have hbase : base ≤ bb := (ho1.lt bb rfl).1
  refine ⟨⟨_, ?_, hg, (ho1.setElem k 1 hk (by decide) (.string t) (s.items[k].1, t) rfl).drew⟩, ?_, ?_⟩
  · exact (Below.heap_setCell W ⟨bb, _, none⟩ _ g (by intro h; exact hne (by rw [h]; rfl))).trans hh1
  · exact ((hB.mono hb).setCell hbase _).drew
  · rcases ho1 with ⟨hv, _⟩ | ⟨g', o', c', cur, hv, _, hh', _⟩
    · cases hv
    · cases hv
      exact (KeepT.setCell (p := ⟨bb, _, none⟩) (KeepT.of_below hB) hh' (by simp) _).drew

set_option maxRecDepth 100000 in
theorem wave_Spoil_ok (w : World) (base g : Nat) (s : WS) (k a : Nat) (b : Int) (h : WaveAt w base g s) (hs : s.small) (hb : base ≤ w.heap.size) (hi : s.has k = true) (hk : k < s.items.length) (ha : a < s.items[k].2.size) (hsz : s.items[k].2.size ≤ maxLen) (hB : 0 ≤ b ∧ b ≤ 255) :
    Calls Try.prog 32 #[.pointer (some ⟨g, 0, none⟩), .int .i64 k, .int .i64 a, .int .u8 b] w
      (WavePost w base g { s with items := s.items.set k (s.items[k].1, spoilT s.items[k].2 a b), spoilt := s.spoilt + 1 } (.int .i64 0)) := by
  have HH := Lib.hid h
  clear h
  have e1 : s.wrong k = 0 := by simp [WS.wrong, hi]
  have HC := bytesConv s.items[k].2 a ha b
  generalize ht : spoilT s.items[k].2 a b = t at HC ⊢
  generalize hx : (nums s.items[k].2).getD a 0 = x at HC
  have hxy : bits .xor .u8 x b = xorB x b := rfl
  generalize hy : xorB x b = y at HC hxy
  have hcv := HC.conv
  have hcz := HC.size
  have hco := HC.old
  have hcf := HC.oldf
  have hcc := HC.cell
  have hcg := HC.frozen
  have hcb := HC.back
  have hcd := HC.back1
  clear HC ht hx hy
  have ha1 : (a : Int) < (s.items[k].2.size : Int) := by omega
  have ha0 : ¬ (a : Int) < 0 := by omega
  have ha2 : (0 : Int) ≤ (a : Int) := by omega
  unfold maxLen at hsz
  obtain ⟨v, hh, hg, ho⟩ := HH.out
  obtain ⟨A, cap, rfl, hlc, hm, hS, _⟩ := ho.form
  obtain ⟨bb, off, rfl, hbb, hc⟩ := hS.at_ hk
  have lg := lt_of_block hh
  have c5 : w.cell? ⟨g, 5, none⟩ = some (.slice (some ⟨bb, off, none⟩) s.items.length cap) := by rw [cell_of_row _ _ _ _ _ _ hh]; rfl
  have d1 := hc 1 (.string s.items[k].2) rfl
  have q1 := ho.frozen (off + k * 2 + 1)
  have ZZ := Lib.hid (And.intro hh (And.intro hg ho))
  clear hc hS ho hh
  have i0 : (0 : Int) ≤ (k : Int) := by omega
  have i1 : (k : Int) < (s.items.length : Int) := by omega
  go_enter Try.func32, Try.ntmps32
  go_wp2_with fail
  refine (wave_wrong _ base g s k HH.out).mono ?_
  rintro e w1 ⟨rfl, hb1⟩
  rw [e1]
  have c5' := (hb1.cell (p := ⟨g, 5, none⟩) lg).trans c5
  have d1' := (hb1.cell (p := ⟨bb, _, none⟩) hbb).trans d1
  have q1' := (hb1.frozen (p := ⟨bb, _, none⟩) hbb).trans q1
  have y1 : bb < w1.heap.size := Nat.lt_of_lt_of_le hbb hb1.size
  have y2 : g < w1.heap.size := Nat.lt_of_lt_of_le lg hb1.size
  have y3 : bb ≠ w1.heap.size := by omega
  have y4 : g ≠ w1.heap.size := by omega
  clear q1
  clear c5 d1
  go_wp2_with fail
  go_region_law (fail)
  all_goals
    have hr0 := spoil_rel (k := k) hb ZZ.out.1 ZZ.out.2.1 ZZ.out.2.2 (((hb1.trans ((bytes_below w1 5 s.items[k].2).mono hb1.size))).setCell (p := ⟨w1.heap.size, a, none⟩) hb1.size (.int .u8 y)) hk t
    go_wp2_with fail
    refine (wave_with _ _).mono ?_
    rintro e w3 ⟨rfl, hb3⟩
    have hr3 := hr0.more hb hb3
    have q1 := hr3.at_.cell 4 (.int .i64 s.spoilt) (fun _ => rfl)
    have q2 := hr3.at_.frozen 4
    have q3 : (s.spoilt : Int) < 4611686018427387904 := by have := hs; unfold WS.small at this; omega
    go_wp2_with fail
    go_ret
    exact (hr3.count (s2 := { s with items := s.items.set k (s.items[k].1, t), spoilt := s.spoilt + 1 }) 4 _ (fun _ => rfl) rfl).post

theorem wave_Spoil (w : World) (base g : Nat) (s : WS) (i a b : Int) (h : WaveAt w base g s) (hs : s.small) (hb : base ≤ w.heap.size) (hsz : ∀ x ∈ s.items, x.2.size ≤ maxLen) (hB : 0 ≤ b ∧ b ≤ 255) :
    Calls Try.prog 32 #[.pointer (some ⟨g, 0, none⟩), .int .i64 i, .int .i64 a, .int .u8 b] w (WavePost w base g (s.spoil i a b).1 (.int .i64 (s.spoil i a b).2)) := by
  cases hi : s.has i
  · have e : s.spoil i a b = (s, 2) := by simp [WS.spoil, hi]
    rw [e]
    exact wave_Spoil_no w base g s i a b h hb hi
  · obtain ⟨k, rfl, hk⟩ := WS.has_tt hi
    by_cases ha : 0 ≤ a ∧ a < (s.items[k].2.size : Int)
    · obtain ⟨a', rfl⟩ := Int.eq_ofNat_of_zero_le ha.1
      have e : s.spoil k a' b = ({ s with items := s.items.set k (s.items[k].1, spoilT s.items[k].2 a' b), spoilt := s.spoilt + 1 }, 0) := by
        unfold WS.spoil
        rw [if_pos ⟨hi, by simpa [hk] using ha⟩]
        simp [hk]
      rw [e]
      exact wave_Spoil_ok w base g s k a' b h hs hb hi hk (by omega) (hsz _ (List.getElem_mem hk)) hB
    · have e : s.spoil k a b = (s, 2) := by
        unfold WS.spoil
        rw [if_neg]
        intro hc
        exact ha (by simpa [hk] using hc.2)
      rw [e]
      exact wave_Spoil_arg w base g s k a b h hb hi hk (by omega)
end Go.Proofs.Ytclkcbhghbdffaa
