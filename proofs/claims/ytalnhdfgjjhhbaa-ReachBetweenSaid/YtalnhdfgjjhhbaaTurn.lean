/- Objects behind pointers: what a call on one may turn. -/
import Derived.Test.YtalnhdfgjjhhbaaMem
namespace Go.Proofs.Ytalnhdfgjjhhbaa
open Go.ChangeShapes Go.WideShapes Go.ChangeAt Go.RowKit
set_option linter.unusedVariables false

/-- Of the blocks that stood only those in F may have turned. -/
structure Turn (F : Nat → Prop) (w w' : World) : Prop where
  os : w'.os = w.os
  tape : w'.tape = w.tape
  output : w'.output = w.output
  size : w.heap.size ≤ w'.heap.size
  block : ∀ b, b < w.heap.size → ¬ F b → w'.heap[b]? = w.heap[b]?
/-- A footprint behind a call: of the elder one, or new. -/
def Grow (w : World) (F F' : Nat → Prop) : Prop := ∀ b, F' b → F b ∨ w.heap.size ≤ b
section
variable {F F' F'' : Nat → Prop} {w w1 w2 : World}
theorem Turn.refl (F : Nat → Prop) (w : World) : Turn F w w := ⟨rfl, rfl, rfl, Nat.le_refl _, fun _ _ _ => rfl⟩
theorem Turn.mono (h : Turn F w w1) (hF : ∀ b, b < w.heap.size → F b → F' b) : Turn F' w w1 := ⟨h.os, h.tape, h.output, h.size, fun b hb hn => h.block b hb fun hf => hn (hF b hb hf)⟩
theorem Turn.trans (h : Turn F w w1) (k : Turn F' w1 w2) (hG : Grow w F F') : Turn F w w2 :=
  ⟨k.os.trans h.os, k.tape.trans h.tape, k.output.trans h.output, Nat.le_trans h.size k.size, fun b hb hn => (k.block b (Nat.lt_of_lt_of_le hb h.size) fun hf => by
    rcases hG b hf with hf | hf
    · exact hn hf
    · omega).trans (h.block b hb hn)⟩
theorem Turn.of_below (h : Below w.heap.size w w1) : Turn F w w1 := ⟨h.os, h.tape, h.output, h.size, fun b hb _ => h.block b hb⟩
theorem Turn.below (h : Turn F w w1) {base : Nat} (hF : ∀ b, F b → base ≤ b) (hb : base ≤ w.heap.size) : Below base w w1 :=
  ⟨h.os, h.tape, h.output, h.size, fun b hlt => h.block b (by omega) fun hf => by have := hF b hf; omega⟩
theorem Turn.more (h : Turn F w w1) (k : Below w1.heap.size w1 w2) : Turn F w w2 := h.trans (.of_below k) (fun _ hf => .inl hf)
theorem Turn.setCell (h : Turn F w w1) {p : Addr} (hp : F p.block ∨ w.heap.size ≤ p.block) (u : Value) : Turn F w (w1.setCell p u) :=
  ⟨h.os, h.tape, h.output, by simp [World.setCell]; exact h.size, fun b hb hn => by
    rw [Below.heap_setCell _ _ _ _ (by
      rintro rfl
      rcases hp with hp | hp
      · exact hn hp
      · omega)]
    exact h.block b hb hn⟩
theorem Turn.alloc (h : Turn F w w1) (o : Obj) : Turn F w (w1.alloc o) := h.more ((Below.refl _ _).alloc (Nat.le_refl _) o)
theorem Turn.drew (h : Turn F w w1) : Turn F w w1.drew := ⟨h.os, h.tape, h.output, h.size, h.block⟩
theorem Turn.grown (h : Turn F w w1) {row : Option Nat} (hg : w1.grownBy w2 row) (hr : ∀ b, row = some b → F b ∨ w.heap.size ≤ b) : Turn F w w2 :=
  ⟨hg.os.trans h.os, hg.tape.trans h.tape, hg.output.trans h.output, Nat.le_trans h.size hg.size, fun b hb hn => (hg.block b (Nat.lt_of_lt_of_le hb h.size) fun he => by
    rcases hr b he.symm with hf | hf
    · exact hn hf
    · omega).trans (h.block b hb hn)⟩
theorem Grow.refl : Grow w F F := fun _ h => .inl h
theorem Grow.trans (h : Grow w F F') (k : Grow w1 F' F'') (hs : w.heap.size ≤ w1.heap.size) : Grow w F F'' := fun b hb => by
  rcases k b hb with hb | hb
  · exact h b hb
  · exact .inr (Nat.le_trans hs hb)
theorem Turn.keep {o : Obj} {b : Nat} (h : Turn F w w1) (hb : w.heap[b]? = some o) (hn : ¬ F b) : w1.heap[b]? = some o := (h.block b (lt_of_block hb) hn).trans hb
theorem Turn.own {α : Type} {size base e : Nat} {E : Enc α size} {v : Value} {l : List α} (h : Turn F w w1) (ho : Own w base e E v l) (hn : ∀ b, v.ownBlock = some b → ¬ F b) : Own w1 base e E v l :=
  ho.of_block fun g hv => h.block g (ho.lt g hv).2 (hn g hv)
theorem Turn.cell {b o : Nat} (h : Turn F w w1) (hb : b < w.heap.size) (hn : ¬ F b) : w1.cell? ⟨b, o, none⟩ = w.cell? ⟨b, o, none⟩ := World.cell?_of_block (h.block b hb hn)
end

/-- A node: its number, and its weight. -/
abbrev Nd := Int × Int
/-- A roll: the numbers rise, and the weights are at least 1. -/
def Roll (r : List Nd) : Prop := r.Pairwise (fun a b => a.1 < b.1) ∧ ∀ x ∈ r, 1 ≤ x.1 ∧ 1 ≤ x.2
/-- A node's weight in a roll. -/
def getR : List Nd → Int → Int
  | [], _ => 0
  | x :: r, id => if x.1 = id then x.2 else getR r id
/-- A weight more. -/
def addR : List Nd → Int → Int → List Nd
  | [], id, c => [(id, c)]
  | x :: r, id, c => if x.1 = id then (id, x.2 + c) :: r else if id < x.1 then (id, c) :: x :: r else x :: addR r id c
/-- A node less. -/
def delR : List Nd → Int → List Nd
  | [], _ => []
  | x :: r, id => if x.1 = id then r else x :: delR r id
def sumR : List Nd → Int
  | [] => 0
  | x :: r => x.2 + sumR r

theorem Roll.tail {x : Nd} {r : List Nd} (h : Roll (x :: r)) : Roll r := ⟨(List.pairwise_cons.1 h.1).2, fun y hy => h.2 y (List.mem_cons_of_mem _ hy)⟩
theorem Roll.head {x : Nd} {r : List Nd} (h : Roll (x :: r)) : ∀ y ∈ r, x.1 < y.1 := (List.pairwise_cons.1 h.1).1
theorem getR_none {r : List Nd} {id : Int} (h : ∀ x ∈ r, x.1 ≠ id) : getR r id = 0 := by
  induction r with
  | nil => rfl
  | cons x r ih =>
    simp only [getR]
    rw [if_neg (h x (by simp)), ih fun y hy => h y (by simp [hy])]
theorem getR_mem {r : List Nd} (hr : Roll r) {x : Nd} (hx : x ∈ r) : getR r x.1 = x.2 := by
  induction r with
  | nil => simp at hx
  | cons y r ih =>
    simp only [getR]
    rcases List.mem_cons.1 hx with rfl | hx
    · rw [if_pos rfl]
    · have := hr.head x hx
      rw [if_neg (by omega)]
      exact ih hr.tail hx
theorem getR_pos {r : List Nd} (hr : Roll r) {id : Int} (h : getR r id ≠ 0) : (id, getR r id) ∈ r := by
  induction r with
  | nil => simp [getR] at h
  | cons y r ih =>
    simp only [getR] at h ⊢
    by_cases hy : y.1 = id
    · rw [if_pos hy]; subst hy; simp
    · rw [if_neg hy] at h ⊢
      exact List.mem_cons_of_mem _ (ih hr.tail h)
theorem getR_nonneg {r : List Nd} (hr : Roll r) (id : Int) : 0 ≤ getR r id := by
  by_cases h : getR r id = 0
  · omega
  · have := (hr.2 _ (getR_pos hr h)).2
    simp only at this
    omega
/-- Two rolls with the same weights are one. -/
theorem Roll.ext {r s : List Nd} (hr : Roll r) (hs : Roll s) (h : ∀ id, getR r id = getR s id) : r = s := by
  induction r generalizing s with
  | nil =>
    cases s with
    | nil => rfl
    | cons y s =>
      have h1 := h y.1
      have h2 := (hs.2 y (by simp)).2
      simp [getR] at h1
      omega
  | cons x r ih =>
    cases s with
    | nil =>
      have h1 := h x.1
      have h2 := (hr.2 x (by simp)).2
      simp [getR] at h1
      omega
    | cons y s =>
      have hx := hr.2 x (by simp)
      have hy := hs.2 y (by simp)
      have e1 : x.1 = y.1 := by
        rcases Int.lt_trichotomy x.1 y.1 with hlt | heq | hlt
        · have h1 := h x.1
          simp only [getR, if_true] at h1
          rw [if_neg (by omega), getR_none (fun z hz => by have := hs.head z hz; omega)] at h1
          omega
        · exact heq
        · have h1 := h y.1
          simp only [getR, if_true] at h1
          rw [if_neg (by omega), getR_none (fun z hz => by have := hr.head z hz; omega)] at h1
          omega
      have e2 : x.2 = y.2 := by
        have h1 := h x.1
        simp only [getR, if_true] at h1
        rw [if_pos e1.symm] at h1
        exact h1
      have e3 : x = y := Prod.ext e1 e2
      subst e3
      congr 1
      refine ih hr.tail hs.tail fun id => ?_
      have h1 := h id
      simp only [getR] at h1
      by_cases hid : x.1 = id
      · rw [getR_none (fun z hz => by have := hr.head z hz; omega), getR_none (fun z hz => by have := hs.head z hz; omega)]
      · rw [if_neg hid, if_neg hid] at h1
        exact h1

theorem addR_mem {r : List Nd} {id c : Int} {y : Nd} (h : y ∈ addR r id c) : y.1 = id ∨ y ∈ r := by
  induction r with
  | nil => simp [addR] at h; subst h; exact .inl rfl
  | cons x r ih =>
    simp only [addR] at h
    split at h
    · rcases List.mem_cons.1 h with rfl | h
      · exact .inl rfl
      · exact .inr (List.mem_cons_of_mem _ h)
    · split at h
      · rcases List.mem_cons.1 h with rfl | h
        · exact .inl rfl
        · exact .inr h
      · rcases List.mem_cons.1 h with rfl | h
        · exact .inr (by simp)
        · exact (ih h).imp (fun h => h) (fun h => List.mem_cons_of_mem _ h)
theorem Roll.cons {x : Nd} {r : List Nd} (h : Roll r) (hx : ∀ y ∈ r, x.1 < y.1) (h1 : 1 ≤ x.1) (h2 : 1 ≤ x.2) : Roll (x :: r) := by
  refine ⟨List.pairwise_cons.2 ⟨hx, h.1⟩, fun y hy => ?_⟩
  rcases List.mem_cons.1 hy with rfl | hy
  · exact ⟨h1, h2⟩
  · exact h.2 y hy
theorem Roll.add {r : List Nd} (hr : Roll r) {id c : Int} (h1 : 1 ≤ id) (h2 : 1 ≤ c) : Roll (addR r id c) := by
  induction r with
  | nil => exact Roll.cons hr (by simp) h1 h2
  | cons x r ih =>
    have hx := hr.2 x (by simp)
    simp only [addR]
    split
    · rename_i he
      exact Roll.cons hr.tail (fun y hy => by have := hr.head y hy; simp only; omega) h1 (by simp only; omega)
    · split
      · rename_i hlt
        refine Roll.cons hr (fun y hy => ?_) h1 h2
        rcases List.mem_cons.1 hy with rfl | hy
        · exact hlt
        · have := hr.head y hy; simp only; omega
      · rename_i hne hge
        refine Roll.cons (ih hr.tail) (fun y hy => ?_) hx.1 hx.2
        rcases addR_mem hy with hy | hy
        · omega
        · exact hr.head y hy
theorem getR_add {r : List Nd} (hr : Roll r) (id c j : Int) : getR (addR r id c) j = if j = id then getR r id + c else getR r j := by
  induction r with
  | nil =>
    simp only [addR, getR]
    by_cases h : id = j
    · rw [if_pos h, if_pos h.symm]; omega
    · rw [if_neg h, if_neg (fun e => h e.symm)]
  | cons x r ih =>
    simp only [addR]
    split
    · rename_i he
      simp only [getR]
      by_cases h : j = id
      · subst h; simp [he]
      · have h2 : ¬ x.1 = j := by omega
        rw [if_neg (fun e => h e.symm), if_neg h, if_neg h2]
    · rename_i hne
      split
      · rename_i hlt
        have h0 : getR (x :: r) id = 0 := getR_none (fun y hy => by
          rcases List.mem_cons.1 hy with rfl | hy
          · omega
          · have := hr.head y hy; omega)
        show (if id = j then c else getR (x :: r) j) = _
        by_cases h : j = id
        · rw [if_pos h.symm, if_pos h, h0]; omega
        · rw [if_neg (fun e => h e.symm), if_neg h]
      · show (if x.1 = j then x.2 else getR (addR r id c) j) = if j = id then (if x.1 = id then x.2 else getR r id) + c else (if x.1 = j then x.2 else getR r j)
        rw [ih hr.tail]
        by_cases h : j = id
        · subst h; rw [if_neg hne, if_pos rfl, if_pos rfl]; simp [hne]
        · rw [if_neg h, if_neg h]
theorem sumR_add (r : List Nd) (id c : Int) : sumR (addR r id c) = sumR r + c := by
  induction r with
  | nil => simp [addR, sumR]
  | cons x r ih =>
    simp only [addR]
    split
    · simp only [sumR]; omega
    · split
      · simp only [sumR]; omega
      · simp only [sumR, ih]; omega
theorem len_add {r : List Nd} (hr : Roll r) (id c : Int) : (addR r id c).length = if getR r id = 0 then r.length + 1 else r.length := by
  induction r with
  | nil => simp [addR, getR]
  | cons x r ih =>
    have hx := hr.2 x (by simp)
    simp only [addR, getR]
    split
    · rw [if_neg (by omega)]; simp
    · split
      · rw [if_pos (getR_none fun y hy => by have := hr.head y hy; omega)]; simp
      · simp only [List.length_cons, ih hr.tail]
        split <;> rfl
theorem delR_sub {r : List Nd} {id : Int} {y : Nd} (h : y ∈ delR r id) : y ∈ r := by
  induction r with
  | nil => simp [delR] at h
  | cons x r ih =>
    simp only [delR] at h
    split at h
    · exact List.mem_cons_of_mem _ h
    · rcases List.mem_cons.1 h with rfl | h
      · simp
      · exact List.mem_cons_of_mem _ (ih h)
theorem Roll.del {r : List Nd} (hr : Roll r) (id : Int) : Roll (delR r id) := by
  induction r with
  | nil => exact hr
  | cons x r ih =>
    have hx := hr.2 x (by simp)
    simp only [delR]
    split
    · exact hr.tail
    · exact Roll.cons (ih hr.tail) (fun y hy => hr.head y (delR_sub hy)) hx.1 hx.2
theorem getR_del {r : List Nd} (hr : Roll r) (id j : Int) : getR (delR r id) j = if j = id then 0 else getR r j := by
  induction r with
  | nil => simp [delR, getR]
  | cons x r ih =>
    simp only [delR]
    split
    · rename_i he
      by_cases h : j = id
      · rw [if_pos h, getR_none fun y hy => by have := hr.head y hy; omega]
      · simp only [getR]; rw [if_neg h, if_neg (by omega)]
    · rename_i hne
      simp only [getR]
      rw [ih hr.tail]
      by_cases h : j = id
      · subst h; rw [if_neg hne, if_pos rfl]; simp
      · rw [if_neg h, if_neg h]
theorem sumR_del {r : List Nd} (hr : Roll r) (id : Int) : sumR (delR r id) = sumR r - getR r id := by
  induction r with
  | nil => simp [delR, sumR, getR]
  | cons x r ih =>
    simp only [delR, getR]
    split
    · simp only [sumR]; omega
    · simp only [sumR, ih hr.tail]; omega
theorem sumR_nonneg {r : List Nd} (hr : Roll r) : 0 ≤ sumR r := by
  induction r with
  | nil => simp [sumR]
  | cons x r ih =>
    have hx := hr.2 x (by simp)
    have := ih hr.tail
    simp only [sumR]; omega
theorem getR_le_sum {r : List Nd} (hr : Roll r) (id : Int) : getR r id ≤ sumR r := by
  have h := sumR_del hr id
  have h2 := sumR_nonneg (hr.del id)
  omega
theorem len_le_sum {r : List Nd} (hr : Roll r) : (r.length : Int) ≤ sumR r := by
  induction r with
  | nil => simp [sumR]
  | cons x r ih =>
    have hx := hr.2 x (by simp)
    have := ih hr.tail
    simp only [sumR, List.length_cons]; omega
end Go.Proofs.Ytalnhdfgjjhhbaa
