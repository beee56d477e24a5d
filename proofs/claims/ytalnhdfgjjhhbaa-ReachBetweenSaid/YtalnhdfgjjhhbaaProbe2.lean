/- Package probe: widen, Add, Snap. -/
import Derived.Test.YtalnhdfgjjhhbaaProbe
import Derived.BigRegion
namespace Go.Proofs.Ytalnhdfgjjhhbaa
open Go.ChangeShapes Go.WideShapes Go.ChangeAt Go.RowKit
set_option linter.unusedVariables false

theorem take_filter_succ {S : List Nd} {k : Nat} (hk : k < S.length) (x : Nd) (hx : S[k]? = some x) : (S.take (k + 1)).filter full = (S.take k).filter full ++ if x.2 = 0 then [] else [x] := by
  rw [List.getElem?_eq_getElem hk] at hx
  injection hx with hx
  rw [List.take_succ_eq_append_getElem hk, List.filter_append, hx]
  congr 1
  rw [List.filter_cons]
  by_cases h : x.2 = 0
  · simp [full, h]
  · simp [full, h]
/-- One node more of the old table. -/
theorem PInv.put_next {b b' : Nat} {S S' m : List Nd} {k i d : Nat} {x : Nd} (h : PInv b S m) (h' : PInv b' S' ((S.take k).filter full)) (hk : k < S.length) (hx : S[k]? = some x) (h0 : x.2 ≠ 0) (hl : LookAt S' b' x.1 i d) :
    PInv b' (S'.set i x) ((S.take (k + 1)).filter full) := by
  have h1 : ∀ y ∈ (S.take k).filter full, y.1 ≠ x.1 := by
    intro y hy he
    obtain ⟨hy, hf⟩ := List.mem_filter.1 hy
    obtain ⟨j, hj⟩ := List.getElem?_of_mem hy
    rw [List.getElem?_take] at hj
    split at hj
    · rename_i hlt
      have := h.one hj hx (by simpa [full] using hf) h0 he
      omega
    · cases hj
  have h2 : 1 ≤ x.2 := h.pos x (h.mem hx h0)
  have h3 := h'.put hl h1 h2
  rw [take_filter_succ hk x hx, if_neg h0]
  exact h3.perm' (List.perm_append_comm (l₁ := [x]))
theorem PInv.nonneg {b : Nat} {S m : List Nd} (h : PInv b S m) {i : Nat} {x : Nd} (hx : S[i]? = some x) : 0 ≤ x.2 := by
  by_cases h0 : x.2 = 0
  · omega
  · have := h.pos x (h.mem hx h0); omega
theorem set_set {S : List Nd} {i : Nat} (x y : Nd) : (S.set i y).set i x = S.set i x := by simp
/-- A node is stored in a slot. -/
theorem own_slot {w : World} {base b off n cap : Nat} {S : List Nd} (h : Own w base 59 encN (.slice (some ⟨b, off, none⟩) n cap) S) (i : Nat) (hi : i < S.length) (x : Nd) :
    Own ((w.setCell ⟨b, off + i * 2, none⟩ (.int .i64 x.1)).setCell ⟨b, off + i * 2 + 1, none⟩ (.int .i64 x.2)) base 59 encN (.slice (some ⟨b, off, none⟩) n cap) (S.set i x) := by
  have h1 := h.setElem i 0 hi (by decide) (.int .i64 x.1) (x.1, S[i].2) rfl
  have h2 := h1.setElem i 1 (by simpa using hi) (by decide) (.int .i64 x.2) x (by simp [encN])
  rw [set_set] at h2
  exact h2

/-- What widen leaves. -/
def WidenPost (g b : Nat) (v0 v2 v3 : Value) (m : List Nd) (w : World) (e : Ending) (w' : World) : Prop :=
  ∃ (sb off cap : Nat) (S' : List Nd), e = .returned (.tuple #[]) ∧ w'.heap[g]? = some (.cells #[v0, .int .i64 (b + 1 : Nat), v2, v3, .slice (some ⟨sb, off, none⟩) S'.length cap] 119 (0, 0)) ∧ w.heap.size ≤ sb ∧
    Own w' 0 59 encN (.slice (some ⟨sb, off, none⟩) S'.length cap) S' ∧ PInv (b + 1) S' m ∧ Turn (fun x => x = g) w w'
set_option maxRecDepth 100000 in
theorem probe_widen (w : World) (g b sb off cap : Nat) (v0 v2 v3 : Value) (S m : List Nd) (hh : w.heap[g]? = some (.cells #[v0, .int .i64 b, v2, v3, .slice (some ⟨sb, off, none⟩) S.length cap] 119 (0, 0)))
    (ho : Own w 0 59 encN (.slice (some ⟨sb, off, none⟩) S.length cap) S) (hI : PInv b S m) (h3 : 3 ≤ b) (h34 : b ≤ 34) (hid : ∀ x ∈ m, 1 ≤ x.1 ∧ x.1 ≤ 562949953421312) :
    Calls Try.prog 107 #[.pointer (some ⟨g, 0, none⟩)] w (WidenPost g b v0 v2 v3 m w) := by
  obtain ⟨i0, hi, hz0, hz1, hz2⟩ := info_parts infoN
  have q1 : (3 : Int) ≤ (b : Int) := by omega
  have q2 : (b : Int) ≤ 34 := by omega
  have q3 : (2 : Int) ^ (b + 1) ≤ 34359738368 := by have := pow_le' (show b + 1 ≤ 35 by omega); simpa using this
  have q4 := pow_pos' (b + 1)
  have q5 : 2 ^ (b + 1) ≤ 34359738368 := by have := Nat.pow_le_pow_right (n := 2) (by decide) (show b + 1 ≤ 35 by omega); simpa using this
  have Q5 := Lib.hid q5
  have hSl : S.length ≤ 34359738368 := by have := hI.len; rw [Nat.pow_succ] at q5; omega
  have cc := blk_cell hh
  have cf := blk_frozen hh
  have zg := lt_of_block hh
  have H := Lib.hid hh
  have HO := Lib.hid ho
  have HI := Lib.hid hI
  have HD := Lib.hid hid
  clear hh ho hI q5 hid
  go_enter Try.func107, Try.ntmps107
  go_wp2_with ((at_make; refine wpList_make_full _ rfl _ _ 24 rfl w.heap.size 59 i0 (.agg #[.int .i64 0, .int .i64 0]) 2 Try.underlying24 hi hz0 hz1 _ _ _ _ (2 ^ (b + 1)) rfl rfl ?hL ?hC ?b2 ?b3 ?b4 ?hK))
  case hL => simp
  case hC => simp
  case b2 => rw [hz2]; have := Q5.out; omega
  case b3 => have := Q5.out; simp only [maxLen]; omega
  case b4 => simp
  case hK =>
    intro w1 hr hg
    have hmf := made_flat encN (0, 0) #[.int .i64 0, .int .i64 0] (2 ^ (b + 1)) rfl (by decide)
    rw [hmf] at hr
    have ho1 := Own.of_row hr (by simp) (by decide)
    have k1 := heap_set_at (i := 1) H.out (.int .i64 (b + 1 : Nat))
    have hgs := hg.size
    simp only [World.setCell, Array.size_modify] at hgs
    have k2 := (hg.block g (by simpa using zg) (by simp)).trans k1
    have hnb : g ≠ sb := fun he => HO.out.ne_block H.out (by decide) (by rw [he]; rfl)
    have hT : Turn (fun x => x = g) w w1 := ((Turn.refl (fun x => x = g) w).setCell (p := ⟨g, 1, none⟩) (.inl rfl) (.int .i64 ((b : Int) + 1))).grown hg (fun _ h => by cases h)
    have cc1 := blk_cell k2
    have cf1 := blk_frozen k2
    have zg1 := lt_of_block k2
    have HR := Lib.hid (ho1.base_le (b := w.heap.size) (by simp))
    have K2 := Lib.hid k2
    clear hr hg hmf ho1 k1 k2 cc cf
    go_wp2_with fail
    go_loopw [29] (fun i wr => ∃ (k : Nat) (S' : List Nd), k ≤ S.length ∧ i = .int .i64 k ∧ wr.heap[g]? = some (.cells #[v0, .int .i64 (b + 1 : Nat), v2, v3, .slice (some ⟨w.heap.size, 0, none⟩) (2 ^ (b + 1)) (2 ^ (b + 1))] 119 (0, 0)) ∧
      Own wr w.heap.size 59 encN (.slice (some ⟨w.heap.size, 0, none⟩) (2 ^ (b + 1)) (2 ^ (b + 1))) S' ∧ PInv (b + 1) S' ((S.take k).filter full) ∧ Turn (fun x => x = g) w wr) (fun i _ => S.length - (intOf i).toNat)
    case atStart => exact ⟨0, _, Nat.zero_le _, rfl, heap_set_at K2.out _, HR.out.setCell (by simp [Value.ownBlock]; omega) _, PInv.empty (b + 1), hT.setCell (.inl rfl) _⟩
    case round =>
      obtain ⟨k, S', hk, rfl, hg4, hown, hP, hTr⟩ := hrel
      have hs := hTr.size
      have zg2 := lt_of_block hg4
      have cc2 := blk_cell hg4
      have cf2 := blk_frozen hg4
      have KG := Lib.hid hg4
      have KO := Lib.hid hown
      have KP := Lib.hid hP
      have KS := Lib.hid (hTr.own HO.out (fun q hq => by cases hq; exact fun h => hnb h.symm))
      clear cc1 cf1 hg4 hown hP
      by_cases hlt : k < S.length
      · have d0 := KS.out.slT.cell_at hlt 0 (.int .i64 S[k].1) rfl
        have d1 := KS.out.slT.cell_at hlt 1 (.int .i64 S[k].2) rfl
        have zs := (KS.out.lt sb rfl).2
        simp only [Nat.add_zero] at d0
        obtain ⟨x, hx⟩ : ∃ x, x = S[k] := ⟨_, rfl⟩
        rw [← hx] at d0 d1
        have HX := Lib.hid (show S[k]? = some x by rw [hx]; exact List.getElem?_eq_getElem hlt)
        clear hx
        by_cases hx0 : 0 < x.2
        · have hmem := HI.out.mem HX.out (by omega)
          have hxi := HD.out x hmem
          have hfr : ((S.take k).filter full).length < 2 ^ (b + 1) := by
            have h1 := List.length_filter_le full (S.take k)
            have h2 : (S.take k).length ≤ S.length := List.length_take_le' _ _
            have h3 := HI.out.len
            have h4 := Nat.two_pow_pos b
            rw [Nat.pow_succ]; omega
          have HF := Lib.hid hfr
          have HA := Lib.hid ((Below.refl wr.heap.size wr).alloc (Nat.le_refl _) (.cells #[.int .i64 x.1, .int .i64 x.2] 59))
          clear hmem hfr
          go_wp2_with fail
          refine (probe_look _ g (b + 1) w.heap.size 0 _ _ v0 v2 v3 S' ((S.take k).filter full) x.1 (blk_below KG.out HA.out) ((KO.out.base_le (Nat.zero_le _)).alloc _) KP.out HF.out (by omega) (by omega) hxi.1 hxi.2).mono ?_
          rintro e w2 ⟨i, d, rfl, hL, hb2⟩
          have B2 := hb2
          have A2 := HA.out.trans (hb2.mono (by simp))
          have k2 := blk_below KG.out A2
          have o2 := KO.out.below A2
          have hil : i < S'.length := by rw [KP.out.len]; exact hL.i_lt
          have cb := blk_cell (blk_below (heap_new_at wr (.cells #[.int .i64 x.1, .int .i64 x.2] 59) _ rfl) hb2)
          have c2 := blk_cell k2
          have f2 := blk_frozen k2
          have d2 := o2.slT.cell_at hil 0 (.int .i64 S'[i].1) rfl
          have d3 := o2.slT.cell_at hil 1 (.int .i64 S'[i].2) rfl
          simp only [Nat.add_zero, Nat.zero_add] at d2 d3
          have fb := o2.frozen
          have KG2 := Lib.hid k2
          have KO2 := Lib.hid o2
          have KL := Lib.hid hL
          have T2 := Lib.hid (hTr.more A2)
          have hiN : (i : Int) < 2 ^ (b + 1) := by have := hL.i_lt; exact_mod_cast this
          have hiN2 : i < 2 ^ (b + 1) := hL.i_lt
          have zo2 := (o2.lt _ rfl).2
          have zg3 := lt_of_block k2
          clear hL hb2 B2 k2 o2 cc2 cf2 A2
          go_wp2_with fail
          go_region
          have o4 := own_slot KO2.out i hil x
          simp only [Nat.zero_add] at o4
          have P4 := Lib.hid (HI.out.put_next KP.out hlt HX.out (by omega) KL.out)
          have O4 := Lib.hid o4
          have hgw : g ≠ w.heap.size := by omega
          have k4 := (Below.heap_setCell _ ⟨w.heap.size, i * 2 + 1, none⟩ (.int .i64 x.2) g hgw).trans ((Below.heap_setCell w2 ⟨w.heap.size, i * 2, none⟩ (.int .i64 x.1) g hgw).trans KG2.out)
          have K4 := Lib.hid k4
          clear o4 k4
          go_wp2_with fail
          go_roundw
          case rel => exact ⟨k + 1, _, by omega, by go_num, K4.out, O4.out, P4.out, ((T2.out.setCell (.inr (Nat.le_refl _)) _).setCell (.inr (Nat.le_refl _)) _).drew⟩
          case measure => simp [intOf]; omega
        · go_wp2_with fail
          go_roundw
          case rel => exact ⟨k + 1, S', by omega, by go_num, (blk_below KG.out ((Below.refl wr.heap.size wr).alloc (Nat.le_refl _) _)), KO.out.alloc _, by
            rw [take_filter_succ hlt x HX.out, if_pos (by have := HI.out.nonneg HX.out; omega), List.append_nil]; exact KP.out, hTr.alloc _⟩
          case measure => simp [intOf]; omega
      · obtain rfl : k = S.length := by omega
        rw [List.take_length] at KP
        go_wp2_with fail
        go_end0
        have hl : S'.length = 2 ^ (b + 1) := KP.out.len
        exact ⟨w.heap.size, 0, 2 ^ (b + 1), S', rfl, by rw [hl]; exact KG.out, Nat.le_refl _, by rw [hl]; exact KO.out.base_le (Nat.zero_le _), KP.out.perm' HI.out.perm, hTr⟩

/-- What looking for a number that is there, or not, tells of its slot. -/
theorem slot_of {b i d : Nat} {S m : List Nd} {id : Int} (h : PInv b S m) (hl : LookAt S b id i d) : ∃ x : Nd, S[i]? = some x ∧ x.2 = getR m id ∧ (getR m id ≠ 0 → x.1 = id) := hl.get h
theorem perm_turn {b i : Nat} {S r : List Nd} {id c : Int} (hr : Roll r) (h : PInv b S r) (hi : S[i]? = some (id, getR r id)) (h0 : getR r id ≠ 0) (hc : 1 ≤ getR r id + c) : PInv b (S.set i (id, getR r id + c)) (addR r id c) := by
  obtain ⟨t, h1, h2⟩ := addR_perm_old (c := c) hr h0
  exact (h.turn hi h0 hc h1).perm' h2.symm
theorem perm_put {b i d : Nat} {S r : List Nd} {id c : Int} (hr : Roll r) (h : PInv b S r) (hl : LookAt S b id i d) (h0 : getR r id = 0) (hc : 1 ≤ c) : PInv b (S.set i (id, c)) (addR r id c) := by
  refine (h.put hl (fun x hx he => ?_) hc).perm' (addR_perm_new hr h0).symm
  have := mem_getR h.ids hx
  rw [he, h0] at this
  have := h.pos x hx
  omega
/-- The stores of Add. -/
theorem probe_stored_old {w : World} {g l b sb off cap i : Nat} {r r' S : List Nd} {id v m a : Int} {v3 : Value} (hh : w.heap[g]? = some (.cells #[.int .i64 l, .int .i64 b, .int .i64 r.length, v3, .slice (some ⟨sb, off, none⟩) S.length cap] 119 (0, 0)))
    (ho : Own w 0 59 encN (.slice (some ⟨sb, off, none⟩) S.length cap) S) (hi : S[i]? = some (id, v)) (hI : PInv b (S.set i (id, a)) r') (h3 : 3 ≤ b) (h34 : b ≤ 34) (hfree : 2 * r'.length ≤ 2 ^ b) (hu : r'.length = r.length) (hm : sumR r' = m) :
    ProbeAt ((w.setCell ⟨sb, off + i * 2 + 1, none⟩ (.int .i64 a)).setCell ⟨g, 3, none⟩ (.int .i64 m)) g l r' (foot2 g (.slice (some ⟨sb, off, none⟩) S.length cap)) := by
  have hlt := (List.getElem?_eq_some_iff.1 hi).1
  have hne := ho.ne_block hh (by decide)
  have hgb : g ≠ sb := fun he => hne (by rw [he]; rfl)
  have he : S[i] = (id, v) := (List.getElem?_eq_some_iff.1 hi).2
  have o2 := ho.setElem i 1 hlt (by decide) (.int .i64 a) (id, a) (by rw [he]; rfl)
  have k2 : (w.setCell ⟨sb, off + i * 2 + 1, none⟩ (.int .i64 a)).heap[g]? = _ := (Below.heap_setCell _ _ _ _ hgb).trans hh
  have k3 := heap_set_at (i := 3) k2 (.int .i64 m)
  have o3 := o2.setCell (p := ⟨g, 3, none⟩) (o2.ne_block k2 (by decide)) (.int .i64 m)
  subst hm
  exact ⟨_, S.set i (id, a), b, by rw [k3, hu]; rfl, o3, hI, h3, h34, hfree, rfl⟩
theorem probe_stored_new {w : World} {g l b sb off cap i u n : Nat} {r' S : List Nd} {id c m : Int} {v3 : Value} (hh : w.heap[g]? = some (.cells #[.int .i64 l, .int .i64 b, .int .i64 u, v3, .slice (some ⟨sb, off, none⟩) n cap] 119 (0, 0)))
    (ho : Own w 0 59 encN (.slice (some ⟨sb, off, none⟩) n cap) S) (hi : i < S.length) (hI : PInv b (S.set i (id, c)) r') (h3 : 3 ≤ b) (h34 : b ≤ 34) (hfree : 2 * r'.length ≤ 2 ^ b) (hu : r'.length = u) (hm : sumR r' = m) :
    ProbeAt (((w.setCell ⟨sb, off + i * 2, none⟩ (.int .i64 id)).setCell ⟨sb, off + i * 2 + 1, none⟩ (.int .i64 c)).setCell ⟨g, 3, none⟩ (.int .i64 m)) g l r' (foot2 g (.slice (some ⟨sb, off, none⟩) n cap)) := by
  have hne := ho.ne_block hh (by decide)
  have hgb : g ≠ sb := fun he => hne (by rw [he]; rfl)
  have o2 := own_slot ho i hi (id, c)
  have k1 : (w.setCell ⟨sb, off + i * 2, none⟩ (.int .i64 id)).heap[g]? = _ := (Below.heap_setCell _ _ _ _ hgb).trans hh
  have k2 : ((w.setCell ⟨sb, off + i * 2, none⟩ (.int .i64 id)).setCell ⟨sb, off + i * 2 + 1, none⟩ (.int .i64 c)).heap[g]? = _ := (Below.heap_setCell _ _ _ _ hgb).trans k1
  have k3 := heap_set_at (i := 3) k2 (.int .i64 m)
  have o3 := o2.setCell (p := ⟨g, 3, none⟩) (o2.ne_block k2 (by decide)) (.int .i64 m)
  subst hm hu
  exact ⟨_, S.set i (id, c), b, by rw [k3]; rfl, o3, hI, h3, h34, hfree, rfl⟩
/-- What Add leaves. -/
def AddPost (w : World) (g l : Nat) (r : List Nd) (F : Nat → Prop) (e : Ending) (w' : World) : Prop := ∃ F', e = .returned (.int .i64 0) ∧ ProbeAt w' g l r F' ∧ Turn F w w' ∧ Grow w F F'
set_option maxRecDepth 100000 in
theorem probe_Add_old (w : World) (g l : Nat) (r : List Nd) (F : Nat → Prop) (h : ProbeAt w g l r F) (hf : Fits l r) (h1 : 1 ≤ l) (h2 : l ≤ 48) (k : Nat) (hk1 : 1 ≤ k) (hk2 : k < 2 * 2 ^ l) (c : Int) (hc : 0 < c) (hsum : sumR r + c ≤ 72057594037927935) (h0 : 0 < getR r k) :
    Calls Try.prog 103 #[.pointer (some ⟨g, 0, none⟩), .int .i64 k, .int .i64 c] w (AddPost w g l (addR r k c) F) := by
  have HN := Lib.hid (isNode_of h1 (by omega) hk1 hk2)
  have hs0 := sumR_nonneg hf.roll
  have hlen := len_le_sum hf.roll
  have hgs := getR_le_sum hf.roll k
  have HA := Lib.hid (show addOf (sumR r) c = (sumR r + c, true) by simp only [addOf]; rw [if_pos (by omega)])
  have hkb : (k : Int) ≤ 562949953421312 := by have := pow_48 h2; have h3 : (k : Int) < 2 * 2 ^ l := by exact_mod_cast hk2
                                               omega
  obtain ⟨v, S, b, hh, ho, hI, hq3, hq34, hfree, rfl⟩ := h
  obtain ⟨sb, off, cap, rfl, hcap⟩ := own_at0 ho (by rw [hI.len]; exact Nat.two_pow_pos b)
  have hm : r.length < 2 ^ b := by have := Nat.two_pow_pos b; omega
  have hl := hI.len
  have hSl : S.length ≤ 34359738368 := by rw [hl]; have := Nat.pow_le_pow_right (n := 2) (by decide) (show b ≤ 35 by omega); simpa using this
  have cc := blk_cell hh
  have cf := blk_frozen hh
  have zg := lt_of_block hh
  have zb := (ho.lt _ rfl).2
  have hnb : g ≠ sb := fun he => ho.ne_block hh (by decide) (by rw [he]; rfl)
  have H := Lib.hid hh
  have HO := Lib.hid ho
  have HI := Lib.hid hI
  have HF := Lib.hid (And.intro hm (And.intro hfree hl))
  clear hh ho hI hfree hl hm
  go_enter Try.func103, Try.ntmps103
  go_wp2_with fail
  refine (probe_right _ g l _ k H.out rfl).mono ?_
  rintro e w1 ⟨rfl, hb1⟩
  have B1 : Below w.heap.size w w1 := Below.then_ (by repeat (first | with_reducible exact Below.refl _ _ | with_reducible assumption | ((with_reducible refine Below.setCell ?_ ?_ _); rotate_left; · (first | omega | exact Nat.le_refl _ | (simp <;> omega))) | (with_reducible refine Below.allocW ?_ _) | (with_reducible refine Below.drew ?_) | (with_reducible refine Below.extW ?_ _))) hb1
  have s1 : w.heap.size ≤ w1.heap.size := B1.size
  rw [HN.out]
  have k1 := blk_below H.out hb1
  have o1 := HO.out.below hb1
  have cc1 := blk_cell k1
  have cf1 := blk_frozen k1
  have K1 := Lib.hid k1
  have O1 := Lib.hid o1
  clear cc cf k1 o1
  go_wp2_with fail
  refine (reckon_Add _ (sumR r) c (by omega) (by omega)).mono ?_
  rintro e w2 ⟨rfl, hb2⟩
  have B2 : Below w.heap.size w w2 := Below.then_ (by repeat (first | with_reducible exact Below.refl _ _ | with_reducible assumption | ((with_reducible refine Below.setCell ?_ ?_ _); rotate_left; · (first | omega | exact Nat.le_refl _ | (simp <;> omega))) | (with_reducible refine Below.allocW ?_ _) | (with_reducible refine Below.drew ?_) | (with_reducible refine Below.extW ?_ _))) hb2
  have s2 : w.heap.size ≤ w2.heap.size := B2.size
  rw [HA.out]
  unfold okV
  have k2 := blk_below K1.out hb2
  have o2 := O1.out.below hb2
  have cc2 := blk_cell k2
  have K2 := Lib.hid k2
  have O2 := Lib.hid o2
  clear cc1 cf1 k2 o2
  go_wp2_with fail
  refine (probe_look _ g b sb off _ cap _ _ _ S r k K2.out O2.out HI.out HF.out.1 hq3 (by omega) (by omega) hkb).mono ?_
  rintro e w3 ⟨i, d, rfl, hL, hb3⟩
  have B3 : Below w.heap.size w w3 := Below.then_ (by repeat (first | with_reducible exact Below.refl _ _ | with_reducible assumption | ((with_reducible refine Below.setCell ?_ ?_ _); rotate_left; · (first | omega | exact Nat.le_refl _ | (simp <;> omega))) | (with_reducible refine Below.allocW ?_ _) | (with_reducible refine Below.drew ?_) | (with_reducible refine Below.extW ?_ _))) hb3
  have s3 : w.heap.size ≤ w3.heap.size := B3.size
  have k3 := blk_below K2.out hb3
  have o3 := O2.out.below hb3
  have cc3 := blk_cell k3
  have cf3 := blk_frozen k3
  have hil : i < S.length := by rw [HF.out.2.2]; exact hL.i_lt
  have hx := hL.hit HI.out (by omega)
  have d0 := o3.slT.cell_at hil 0 (.int .i64 S[i].1) rfl
  have d1 := o3.slT.cell_at hil 1 (.int .i64 S[i].2) rfl
  rw [List.getElem?_eq_getElem hil] at hx
  injection hx with hx
  rw [hx] at d0 d1
  simp only [Nat.add_zero] at d0 d1
  have fb := o3.frozen
  have zg3 := lt_of_block k3
  have zb3 := (o3.lt _ rfl).2
  have K3 := Lib.hid k3
  have O3 := Lib.hid o3
  have HX := Lib.hid (show S[i]? = some ((k : Int), getR r k) by rw [← hx]; exact List.getElem?_eq_getElem hil)
  have T3 : Turn (foot2 g (.slice (some ⟨sb, off, none⟩) S.length cap)) w w3 := .of_below B3
  clear hL hx cc2 k3 o3 hb3
  have hil2 : (i : Int) < (S.length : Int) := by omega
  go_wp2_with fail
  go_ret
  refine ⟨_, rfl, ?_, ?_, Grow.refl⟩
  · exact probe_stored_old (r' := addR r k c) K3.out O3.out HX.out (perm_turn hf.roll HI.out HX.out (by omega) (by omega)) hq3 hq34 (by rw [len_add hf.roll, if_neg (by omega)]; exact HF.out.2.1) (by rw [len_add hf.roll, if_neg (by omega)]) (sumR_add r k c)
  · refine Turn.setCell (Turn.setCell T3 ?_ _) ?_ _
    · exact .inl (.inr rfl)
    · exact .inl (.inl rfl)
set_option maxRecDepth 100000 in
theorem probe_Add_new (w : World) (g l : Nat) (r : List Nd) (F : Nat → Prop) (h : ProbeAt w g l r F) (hf : Fits l r) (h1 : 1 ≤ l) (h2 : l ≤ 48) (k : Nat) (hk1 : 1 ≤ k) (hk2 : k < 2 * 2 ^ l) (c : Int) (hc : 0 < c) (hsum : sumR r + c ≤ 72057594037927935) (h0 : getR r k = 0) (hr30 : r.length < 1073741824) :
    Calls Try.prog 103 #[.pointer (some ⟨g, 0, none⟩), .int .i64 k, .int .i64 c] w (AddPost w g l (addR r k c) F) := by
  have HN := Lib.hid (isNode_of h1 (by omega) hk1 hk2)
  have hs0 := sumR_nonneg hf.roll
  have hlen := len_le_sum hf.roll
  have hgs := getR_le_sum hf.roll k
  have HA := Lib.hid (show addOf (sumR r) c = (sumR r + c, true) by simp only [addOf]; rw [if_pos (by omega)])
  have hkb : (k : Int) ≤ 562949953421312 := by have := pow_48 h2; have h3 : (k : Int) < 2 * 2 ^ l := by exact_mod_cast hk2
                                               omega
  obtain ⟨v, S, b, hh, ho, hI, hq3, hq34, hfree, rfl⟩ := h
  obtain ⟨sb, off, cap, rfl, hcap⟩ := own_at0 ho (by rw [hI.len]; exact Nat.two_pow_pos b)
  have hm : r.length < 2 ^ b := by have := Nat.two_pow_pos b; omega
  have hl := hI.len
  have hSl : S.length ≤ 34359738368 := by rw [hl]; have := Nat.pow_le_pow_right (n := 2) (by decide) (show b ≤ 35 by omega); simpa using this
  have cc := blk_cell hh
  have cf := blk_frozen hh
  have zg := lt_of_block hh
  have zb := (ho.lt _ rfl).2
  have hnb : g ≠ sb := fun he => ho.ne_block hh (by decide) (by rw [he]; rfl)
  have H := Lib.hid hh
  have HO := Lib.hid ho
  have HI := Lib.hid hI
  have HF := Lib.hid (And.intro hm (And.intro hfree hl))
  clear hh ho hI hfree hl hm
  go_enter Try.func103, Try.ntmps103
  go_wp2_with fail
  refine (probe_right _ g l _ k H.out rfl).mono ?_
  rintro e w1 ⟨rfl, hb1⟩
  have B1 : Below w.heap.size w w1 := Below.then_ (by repeat (first | with_reducible exact Below.refl _ _ | with_reducible assumption | ((with_reducible refine Below.setCell ?_ ?_ _); rotate_left; · (first | omega | exact Nat.le_refl _ | (simp <;> omega))) | (with_reducible refine Below.allocW ?_ _) | (with_reducible refine Below.drew ?_) | (with_reducible refine Below.extW ?_ _))) hb1
  have s1 : w.heap.size ≤ w1.heap.size := B1.size
  rw [HN.out]
  have k1 := blk_below H.out hb1
  have o1 := HO.out.below hb1
  have cc1 := blk_cell k1
  have cf1 := blk_frozen k1
  have K1 := Lib.hid k1
  have O1 := Lib.hid o1
  clear cc cf k1 o1
  go_wp2_with fail
  refine (reckon_Add _ (sumR r) c (by omega) (by omega)).mono ?_
  rintro e w2 ⟨rfl, hb2⟩
  have B2 : Below w.heap.size w w2 := Below.then_ (by repeat (first | with_reducible exact Below.refl _ _ | with_reducible assumption | ((with_reducible refine Below.setCell ?_ ?_ _); rotate_left; · (first | omega | exact Nat.le_refl _ | (simp <;> omega))) | (with_reducible refine Below.allocW ?_ _) | (with_reducible refine Below.drew ?_) | (with_reducible refine Below.extW ?_ _))) hb2
  have s2 : w.heap.size ≤ w2.heap.size := B2.size
  rw [HA.out]
  unfold okV
  have k2 := blk_below K1.out hb2
  have o2 := O1.out.below hb2
  have cc2 := blk_cell k2
  have K2 := Lib.hid k2
  have O2 := Lib.hid o2
  clear cc1 cf1 k2 o2
  go_wp2_with fail
  refine (probe_look _ g b sb off _ cap _ _ _ S r k K2.out O2.out HI.out HF.out.1 hq3 (by omega) (by omega) hkb).mono ?_
  rintro e w3 ⟨i, d, rfl, hL, hb3⟩
  have B3 : Below w.heap.size w w3 := Below.then_ (by repeat (first | with_reducible exact Below.refl _ _ | with_reducible assumption | ((with_reducible refine Below.setCell ?_ ?_ _); rotate_left; · (first | omega | exact Nat.le_refl _ | (simp <;> omega))) | (with_reducible refine Below.allocW ?_ _) | (with_reducible refine Below.drew ?_) | (with_reducible refine Below.extW ?_ _))) hb3
  have s3 : w.heap.size ≤ w3.heap.size := B3.size
  have k3 := blk_below K2.out hb3
  have o3 := O2.out.below hb3
  have cc3 := blk_cell k3
  have cf3 := blk_frozen k3
  have hil : i < S.length := by rw [HF.out.2.2]; exact hL.i_lt
  obtain ⟨x, hx, hx0⟩ := hL.miss HI.out h0
  have d1 := o3.slT.cell_at hil 1 (.int .i64 S[i].2) rfl
  rw [List.getElem?_eq_getElem hil] at hx
  injection hx with hx
  rw [hx, hx0] at d1
  have fb := o3.frozen
  have zg3 := lt_of_block k3
  have zb3 := (o3.lt _ rfl).2
  have K3 := Lib.hid k3
  have O3 := Lib.hid o3
  have HL := Lib.hid hL
  have HE := Lib.hid (len_add hf.roll (k : Int) c)
  have H0 := Lib.hid h0
  have T3 : Turn (foot2 g (.slice (some ⟨sb, off, none⟩) S.length cap)) w w3 := .of_below B3
  have HX := Lib.hid (And.intro hx hx0)
  clear hL hx hx0 cc2 k3 o3 hb3 h0 hgs
  have hil2 : (i : Int) < (S.length : Int) := by omega
  have k4 := heap_set_at (i := 2) K3.out (.int .i64 ((r.length : Int) + 1))
  have o4 := O3.out.setCell (p := ⟨g, 2, none⟩) (O3.out.ne_block K3.out (by decide)) (.int .i64 ((r.length : Int) + 1))
  have T4 := T3.setCell (p := ⟨g, 2, none⟩) (.inl (.inl rfl)) (.int .i64 ((r.length : Int) + 1))
  have K4 := Lib.hid k4
  have O4 := Lib.hid o4
  clear k4 o4
  go_wp2_with fail
  refine wp_region_ext (by kernel_rfl) (by kernel_rfl) ?_
  repeat (go_big_quiet_step (fail))
  refine wpQuiet_nil ?_
  intro w5 hb5
  replace hb5 := below_of_ext hb5
  have k5 := blk_below K4.out hb5
  have o5 := O4.out.below hb5
  have T5 := T4.more hb5
  have cc5 := blk_cell k5
  have cf5 := blk_frozen k5
  have fb5 := o5.frozen
  have zg5 := lt_of_block k5
  have zb5 := (o5.lt _ rfl).2
  have K5 := Lib.hid k5
  have O5 := Lib.hid o5
  clear cc3 cf3 fb zg3 zb3 d1 T3 T4 k5 o5 hb5
  by_cases hw : 2 * ((r.length : Int) + 1) > S.length
  · have hw' : (S.length : Int) < 2 * ((r.length : Int) + 1) := hw
    have hb31 : b ≤ 31 := by
      apply Classical.byContradiction
      intro hn
      have h1 := Nat.pow_le_pow_right (n := 2) (by decide) (show 32 ≤ b by omega)
      have h2 := HF.out.2.2
      omega
    have HW := Lib.hid hw'
    have hK5 : w5.heap[g]? = some (.cells #[.int .i64 l, .int .i64 b, .int .i64 (r.length + 1 : Nat), .int .i64 (sumR r), .slice (some ⟨sb, off, none⟩) S.length cap] 119 (0, 0)) := K5.out
    have HK5 := Lib.hid hK5
    clear hK5
    go_wp2_with fail
    refine (probe_widen _ g b sb off cap _ _ _ S r HK5.out O5.out HI.out hq3 hq34 (fun y hy => ⟨(hf.roll.2 y hy).1, by have h1 := hf.lt y hy; have := pow_48 h2; omega⟩)).mono ?_
    rintro e w6 ⟨sb', off', cap', S', rfl, k6, hsb', o6, hI6, T6⟩
    have z6 := T6.size
    have z5 := T5.size
    have HZ : w.heap.size ≤ sb' := Nat.le_trans z5 hsb'
    have T6' := T5.trans T6 (fun q hq => .inl (by subst hq; exact .inl rfl))
    have cc6 := blk_cell k6
    have K6 := Lib.hid k6
    have O6 := Lib.hid o6
    have HI6 := Lib.hid hI6
    clear cc5 cf5 fb5 zb5 k6 o6 hI6
    go_wp2_with fail
    refine (probe_look _ g (b + 1) sb' off' _ cap' _ _ _ S' r k K6.out O6.out HI6.out (by have := HF.out.1; rw [Nat.pow_succ]; omega) (by omega) (by omega) (by omega) hkb).mono ?_
    rintro e w7 ⟨i', d', rfl, hL7, hb7⟩
    have k7 := blk_below K6.out hb7
    have o7 := O6.out.below hb7
    have T7 := T6'.more hb7
    have hil7 : i' < S'.length := by rw [HI6.out.len]; exact hL7.i_lt
    obtain ⟨x7, hx7, hx70⟩ := hL7.miss HI6.out H0.out
    rw [List.getElem?_eq_getElem hil7] at hx7
    injection hx7 with hx7
    have d6 := o7.slT.cell_at hil7 0 (.int .i64 S'[i'].1) rfl
    have d7 := o7.slT.cell_at hil7 1 (.int .i64 S'[i'].2) rfl
    rw [hx7] at d6 d7
    rw [hx70] at d7
    simp only [Nat.add_zero] at d6 d7
    have cc7 := blk_cell k7
    have cf7 := blk_frozen k7
    have fb7 := o7.frozen
    have zg7 := lt_of_block k7
    have zb7 := (o7.lt _ rfl).2
    have K7 := Lib.hid k7
    have O7 := Lib.hid o7
    have HL7 := Lib.hid hL7
    have hil72 : (i' : Int) < (S'.length : Int) := by omega
    have hS7 : S'.length ≤ 34359738368 := by rw [HI6.out.len]; have := Nat.pow_le_pow_right (n := 2) (by decide) (show b + 1 ≤ 35 by omega); simpa using this
    clear cc6 k7 o7 hb7 hL7 hx7 hx70
    have hg6 : g ≠ sb' := by omega
    have hg7 : sb' ≠ g := by omega
    go_wp2_with fail
    go_ret
    have hp := Nat.two_pow_pos b
    have hfr := HF.out.2.1
    refine ⟨foot2 g (.slice (some ⟨sb', off', none⟩) S'.length cap'), rfl, ?_, ?_, ?_⟩
    · exact probe_stored_new (r' := addR r k c) K7.out O7.out hil7 (perm_put hf.roll HI6.out HL7.out H0.out (by omega)) (by omega) (by omega) (by rw [len_add hf.roll, if_pos H0.out, Nat.pow_succ]; omega) (by rw [len_add hf.roll, if_pos H0.out]) (sumR_add r k c)
    · refine Turn.setCell (Turn.setCell (Turn.setCell T7 ?_ _) ?_ _) ?_ _
      · exact .inr HZ
      · exact .inr HZ
      · exact .inl (.inl rfl)
    · rintro q (rfl | hq)
      · exact .inl (.inl rfl)
      · cases hq; exact .inr HZ
  · have d6 := O5.out.slT.cell_at hil 0 (.int .i64 S[i].1) rfl
    have d7 := O5.out.slT.cell_at hil 1 (.int .i64 S[i].2) rfl
    rw [HX.out.1] at d6 d7
    rw [HX.out.2] at d7
    simp only [Nat.add_zero] at d6 d7
    go_wp2_with fail
    go_ret
    refine ⟨_, rfl, ?_, ?_, Grow.refl⟩
    · exact probe_stored_new (r' := addR r k c) K5.out O5.out hil (perm_put hf.roll HI.out HL.out H0.out (by omega)) hq3 hq34 (by rw [len_add hf.roll, if_pos H0.out]; have := HF.out.2.2; omega) (by rw [len_add hf.roll, if_pos H0.out]) (sumR_add r k c)
    · refine Turn.setCell (Turn.setCell (Turn.setCell T5 ?_ _) ?_ _) ?_ _
      · exact .inl (.inr rfl)
      · exact .inl (.inr rfl)
      · exact .inl (.inl rfl)
end Go.Proofs.Ytalnhdfgjjhhbaa
