/-
  Texts of this proof, one behind the other: Pool, Pool2, Each, Light, Tail, Digest, Rank, Ref02, RefLoad, Open, OpenStep.
-/
import Derived.RangeFuncNested
import Derived.RangeFuncBound
import Derived.RangeFuncCalls
import Derived.RangeFuncLeaves
import Derived.RangeFuncWrites
import Derived.Shelf.Abstract
import Derived.Shelf.RegionOpen
import Derived.OwnWalkIn
import Derived.TacticsInMore
import Derived.LoopNIn
import Derived.LoopIn
import Derived.StillTail
import Derived.Test.YtmdidmclfbfmiaaGreatDoorS1
set_option linter.unusedVariables false
set_option linter.unusedSimpArgs false
set_option maxRecDepth 100000
set_option maxHeartbeats 16000000
namespace Go.Proofs.YtmdidmclfbfmiaaGreatDoor
open Go.ChangeShapes Go.WideShapes Go.ChangeAt Go.RowKit
def footP (g:Nat) (F0:Nat→Prop) :Nat→Prop:=fun b=>b=g∨F0 b
def PoolAt (w:World) (g K l:Nat) (r:List Nd) (F:Nat→Prop) :Prop:=
 1≤l∧l≤48∧Fits l r∧∃h F0,F=footP g F0∧((K=1∧l≤16∧w.heap[g]? =some (.cells #[.pointer (some ⟨h,0,none⟩),.pointer none] 204 (0,0))∧DenseAt w h l r F0)∨
  (K=2∧w.heap[g]? =some (.cells #[.pointer none,.pointer (some ⟨h,0,none⟩)] 204 (0,0))∧ProbeAt w h l r F0))
theorem PoolAt.keep {w w':World} {g K l:Nat} {r:List Nd} {F:Nat→Prop} (h:PoolAt w g K l r F) (hk: ∀b,F b→w'.heap[b]? =w.heap[b]?) :PoolAt w' g K l r F:=by
 obtain⟨h1,h2,h3,p,F0,rfl,h4⟩:=h;refine⟨h1,h2,h3,p,F0,rfl,?_⟩;rcases h4 with ⟨a,b,c,d⟩ | ⟨a,c,d⟩
 ·exact .inl ⟨a,b,(hk g (.inl rfl)).trans c,d.keep fun q hq=>hk q (.inr hq)⟩
 ·exact .inr ⟨a,(hk g (.inl rfl)).trans c,d.keep fun q hq=>hk q (.inr hq)⟩
theorem PoolAt.lt {w:World} {g K l:Nat} {r:List Nd} {F:Nat→Prop} (h:PoolAt w g K l r F) : ∀b,F b→b<w.heap.size:=by
 obtain⟨h1,h2,h3,p,F0,rfl,h4⟩:=h;rintro q (rfl|hq)
 ·rcases h4 with ⟨a,b,c,d⟩ | ⟨a,c,d⟩
  ·exact lB c
  ·exact lB c
 ·rcases h4 with ⟨a,b,c,d⟩ | ⟨a,c,d⟩
  ·exact d.lt q hq
  ·exact d.lt q hq
theorem PoolAt.below {w w':World} {g K l:Nat} {r:List Nd} {F:Nat→Prop} (h:PoolAt w g K l r F) (hb:Below w.heap.size w w') :PoolAt w' g K l r F:=h.keep fun b hf=>hb.block b (h.lt b hf)
theorem PoolAt.fits {w:World} {g K l:Nat} {r:List Nd} {F:Nat→Prop} (h:PoolAt w g K l r F) :Fits l r:=h.2.2.1
def PoolTypes (t:TypeId) :Prop:=t=204∨t=254∨t=3∨t=256∨t=216
theorem PoolAt.typed {w:World} {g K l:Nat} {r:List Nd} {F:Nat→Prop} (h:PoolAt w g K l r F) : ∀b,F b→∃t,PoolTypes t∧TypeAt w b t:=by
 obtain⟨h1,h2,h3,p,F0,rfl,h4⟩:=h;rintro q (rfl|hq)
 ·rcases h4 with ⟨a,b,c,d⟩ | ⟨a,c,d⟩
  ·exact⟨_,.inl rfl,.of c⟩
  ·exact⟨_,.inl rfl,.of c⟩
 ·rcases h4 with ⟨a,b,c,d⟩ | ⟨a,c,d⟩
  ·rcases d.typed q hq with h|h
   ·exact⟨_,.inr (.inl rfl),h⟩
   ·exact⟨_,.inr (.inr (.inl rfl)),h⟩
  ·rcases d.typed q hq with h|h
   ·exact⟨_,.inr (.inr (.inr (.inl rfl))),h⟩
   ·exact⟨_,.inr (.inr (.inr (.inr rfl))),h⟩
theorem typeAt_eq {w:World} {b t t':Nat} (h:TypeAt w b t) (h':TypeAt w b t') :t=t':=by
 obtain⟨_,_,h⟩:=h;obtain⟨_,_,h'⟩:=h';rw [h] at h'
 cases h'
 rfl
theorem pool_isArray (w:World) (g h:Nat) (q0:Value) (hh:w.heap[g]? =some (.cells #[.pointer (some ⟨h,0,none⟩),q0] 204 (0,0))) :Calls Tryz.prog 134 #[.pointer (some ⟨g,0,none⟩)] w fun e w'=>e=.returned (.bool true)∧Below w.heap.size w w':=by
 have c:=bC hh;have z:=lB hh;clear hh
 go_enter Tryz.func134,Tryz.ntmps134
 go_wp2_with fail;go_ret;exact⟨rfl,bE⟩
theorem pool_isArray_no (w:World) (g:Nat) (q0:Value) (hh:w.heap[g]? =some (.cells #[.pointer none,q0] 204 (0,0))) :Calls Tryz.prog 134 #[.pointer (some ⟨g,0,none⟩)] w fun e w'=>e=.returned (.bool false)∧Below w.heap.size w w':=by
 have c:=bC hh;have z:=lB hh;clear hh
 go_enter Tryz.func134,Tryz.ntmps134
 go_wp2_with fail;go_ret;exact⟨rfl,bE⟩
theorem pool_inner (w:World) (g:Nat) (p:Option Addr) (q0:Value) (hh:w.heap[g]? =some (.cells #[q0,.pointer p] 204 (0,0))) :Calls Tryz.prog 136 #[.pointer (some ⟨g,0,none⟩)] w fun e w'=>e=.returned (.pointer p)∧Below w.heap.size w w':=by
 have c:=bC hh;have z:=lB hh;clear hh
 go_enter Tryz.func136,Tryz.ntmps136
 go_wp2_with fail;go_ret;exact⟨rfl,bE⟩
theorem pool_L (w:World) (g K l:Nat) (r:List Nd) (F:Nat→Prop) (h:PoolAt w g K l r F) :Calls Tryz.prog 122 #[.pointer (some ⟨g,0,none⟩)] w fun e w'=>e=.returned (.int .i64 l)∧Below w.heap.size w w':=by
 obtain⟨h1,h2,h3,p,F0,rfl,h4⟩:=h;rcases h4 with ⟨rfl,h16,hh,hd⟩ | ⟨rfl,hh,hd⟩
 ·have H:=LH hh
  have HD:=LH hd;clear hh hd
  go_enter Tryz.func122,Tryz.ntmps122
  go_wp2_with fail;refine(pool_isArray _ g p _ H.out).mono ?_;rintro e w1 ⟨rfl,hb1⟩;have k1:=bB H.out hb1;have c1:=bC k1;have z1:=lB k1;have D1:=LH (HD.out.below hb1);clear k1;go_wp2_with fail;refine(dense_L _ p l r F0 D1.out).mono ?_;rintro e w2 ⟨rfl,hb2⟩;have HB2:=LH (hb1.trans (hb2.mono hb1.size));clear hb2;go_wp2_with fail;go_ret;exact⟨rfl,HB2.out⟩
 ·have H:=LH hh
  have HD:=LH hd;clear hh hd
  go_enter Tryz.func122,Tryz.ntmps122
  go_wp2_with fail;refine(pool_isArray_no _ g _ H.out).mono ?_;rintro e w0 ⟨rfl,hb0⟩;have K0:=LH (bB H.out hb0);go_wp2_with fail;refine(pool_inner _ g _ _ K0.out).mono ?_;rintro e w1 ⟨rfl,hb1'⟩;have hb1:=hb0.trans (hb1'.mono hb0.size);have D1:=LH (HD.out.below hb1);clear hb0 hb1' K0;go_wp2_with fail;refine(probe_L _ p l r F0 D1.out).mono ?_;rintro e w2 ⟨rfl,hb2⟩;have HB2:=LH (hb1.trans (hb2.mono hb1.size));clear hb2;go_wp2_with fail;go_ret;exact⟨rfl,HB2.out⟩
theorem pool_Total (w:World) (g K l:Nat) (r:List Nd) (F:Nat→Prop) (h:PoolAt w g K l r F) :Calls Tryz.prog 71 #[.pointer (some ⟨g,0,none⟩)] w fun e w'=>e=.returned (.int .i64 (sumR r))∧Below w.heap.size w w':=by
 obtain⟨h1,h2,h3,p,F0,rfl,h4⟩:=h;rcases h4 with ⟨rfl,h16,hh,hd⟩ | ⟨rfl,hh,hd⟩
 ·have H:=LH hh
  have HD:=LH hd;clear hh hd
  go_enter Tryz.func71,Tryz.ntmps71
  go_wp2_with fail;refine(pool_isArray _ g p _ H.out).mono ?_;rintro e w1 ⟨rfl,hb1⟩;have k1:=bB H.out hb1;have c1:=bC k1;have z1:=lB k1;have D1:=LH (HD.out.below hb1);clear k1;go_wp2_with fail;refine(dense_Total _ p l r F0 D1.out).mono ?_;rintro e w2 ⟨rfl,hb2⟩;have HB2:=LH (hb1.trans (hb2.mono hb1.size));clear hb2;go_wp2_with fail;go_ret;exact⟨rfl,HB2.out⟩
 ·have H:=LH hh
  have HD:=LH hd;clear hh hd
  go_enter Tryz.func71,Tryz.ntmps71
  go_wp2_with fail;refine(pool_isArray_no _ g _ H.out).mono ?_;rintro e w0 ⟨rfl,hb0⟩;have K0:=LH (bB H.out hb0);go_wp2_with fail;refine(pool_inner _ g _ _ K0.out).mono ?_;rintro e w1 ⟨rfl,hb1'⟩;have hb1:=hb0.trans (hb1'.mono hb0.size);have D1:=LH (HD.out.below hb1);clear hb0 hb1' K0;go_wp2_with fail;refine(probe_Total _ p l r F0 D1.out).mono ?_;rintro e w2 ⟨rfl,hb2⟩;have HB2:=LH (hb1.trans (hb2.mono hb1.size));clear hb2;go_wp2_with fail;go_ret;exact⟨rfl,HB2.out⟩
theorem pool_Snap (w:World) (g K l:Nat) (r:List Nd) (F:Nat→Prop) (h:PoolAt w g K l r F) (hn:r.length≤67108864) :Calls Tryz.prog 150 #[.pointer (some ⟨g,0,none⟩)] w (OwnPost 216 encN r w):=by
 obtain⟨h1,h2,h3,p,F0,rfl,h4⟩:=h;rcases h4 with ⟨rfl,h16,hh,hd⟩ | ⟨rfl,hh,hd⟩
 ·have H:=LH hh
  have HD:=LH hd;clear hh hd
  go_enter Tryz.func150,Tryz.ntmps150
  go_wp2_with fail;refine(pool_isArray _ g p _ H.out).mono ?_;rintro e w1 ⟨rfl,hb1⟩;have k1:=bB H.out hb1;have c1:=bC k1;have z1:=lB k1;have D1:=LH (HD.out.below hb1);clear k1;go_wp2_with fail;refine(dense_Snap _ p l r F0 D1.out h3 h16).mono ?_;rintro e w2 ⟨v,rfl,ho,hb2⟩;have HB2:=LH (hb1.trans (hb2.mono hb1.size));have HO:=LH ho;clear ho;clear hb2;go_wp2_with fail;go_ret;exact⟨_,rfl,HO.out.base_le hb1.size,HB2.out⟩
 ·have H:=LH hh
  have HD:=LH hd;clear hh hd
  go_enter Tryz.func150,Tryz.ntmps150
  go_wp2_with fail;refine(pool_isArray_no _ g _ H.out).mono ?_;rintro e w0 ⟨rfl,hb0⟩;have K0:=LH (bB H.out hb0);go_wp2_with fail;refine(pool_inner _ g _ _ K0.out).mono ?_;rintro e w1 ⟨rfl,hb1'⟩;have hb1:=hb0.trans (hb1'.mono hb0.size);have D1:=LH (HD.out.below hb1);clear hb0 hb1' K0;go_wp2_with fail;refine(probe_Snap _ p l r F0 D1.out h3 hn).mono ?_;rintro e w2 ⟨v,rfl,ho,hb2⟩;have HB2:=LH (hb1.trans (hb2.mono hb1.size));have HO:=LH ho;clear ho;clear hb2;go_wp2_with fail;go_ret;exact⟨_,rfl,HO.out.base_le hb1.size,HB2.out⟩
theorem Fits.add {l:Nat} {r:List Nd} (h:Fits l r) {k c:Int} (hk1:1≤k) (hk2:k<2*2^l) (hc:1≤c) (hsum:sumR r+c≤72057594037927935) :Fits l (addR r k c):=
 ⟨h.roll.add hk1 hc,fun x hx=>by
  rcases addR_mem hx with he|hx
  ·rw [he];exact hk2
  ·exact h.lt x hx,by rw [sumR_add];exact hsum⟩
def PAddPost (w:World) (g K l:Nat) (r:List Nd) (F:Nat→Prop) (v:Value) (e:Ending) (w':World) :Prop:=∃F',e=.returned v∧PoolAt w' g K l r F'∧Turn F w w'∧Grow w F F'
theorem dense_Add (w:World) (g l:Nat) (r:List Nd) (F:Nat→Prop) (h:DenseAt w g l r F) (hf:Fits l r) (h1:1≤l) (h2:l≤16) (k:Nat) (hk1:1≤k) (hk2:k<2*2^l) (c:Int) (hc:0<c) (hsum:sumR r+c≤72057594037927935) :
 Calls Tryz.prog 214 #[.pointer (some ⟨g,0,none⟩),.int .i64 k,.int .i64 c] w fun e w'=>e=.returned (.int .i64 0)∧DenseAt w' g l (addR r k c) F∧Turn F w w':=by
 by_cases h0:getR r k=0
 ·exact dense_Add_new w g l r F h hf h1 h2 k hk1 hk2 c hc hsum h0
 ·have:=getR_nonneg hf.roll (k:Int)
  exact dense_Add_old w g l r F h hf h1 h2 k hk1 hk2 c (by omega) hsum (by omega)
theorem Grow.foot {w:World} {g:Nat} {F F':Nat→Prop} (h:Grow w F F') :Grow w (footP g F) (footP g F'):=fun b hb=>by
 rcases hb with hb|hb
 ·exact .inl (.inl hb)
 ·rcases h b hb with hb|hb
  ·exact .inl (.inr hb)
  ·exact .inr hb
theorem pool_Add (w:World) (g K l:Nat) (r:List Nd) (F:Nat→Prop) (h:PoolAt w g K l r F) (k:Nat) (hk1:1≤k) (hk2:k<2*2^l) (c:Int) (hc:0<c) (hsum:sumR r+c≤72057594037927935) (hr30:r.length<1073741824) :
 Calls Tryz.prog 169 #[.pointer (some ⟨g,0,none⟩),.int .i64 k,.int .i64 c] w (PAddPost w g K l (addR r k c) F (.int .i64 0)):=by
 obtain⟨h1,h2,h3,p,F0,rfl,h4⟩:=h;have hF:=h3.add (k:=(k:Int)) (c:=c) (by omega) (by exact_mod_cast hk2) (by omega) hsum;rcases h4 with ⟨rfl,h16,hh,hd⟩ | ⟨rfl,hh,hd⟩
 ·have hgF: ¬F0 g:=fun hg=>by
   rcases hd.typed g hg with h|h
   ·exact absurd (typeAt_eq h (.of hh)) (by decide)
   ·exact absurd (typeAt_eq h (.of hh)) (by decide)
  have H:=LH hh;have HD:=LH hd;clear hh hd
  go_enter Tryz.func169,Tryz.ntmps169
  go_wp2_with fail;refine(pool_isArray _ g p _ H.out).mono ?_;rintro e w1 ⟨rfl,hb1⟩;have k1:=bB H.out hb1;have c1:=bC k1;have z1:=lB k1;have D1:=LH (HD.out.below hb1);have K1:=LH k1;clear k1;go_wp2_with fail;refine(dense_Add _ p l r F0 D1.out h3 h1 h16 k hk1 hk2 c hc hsum).mono ?_;rintro e w2 ⟨rfl,hd2,hT2⟩
  have HP:Hid (PAddPost w g 1 l (addR r k c) (footP g F0) (.int .i64 0) (.returned (.int .i64 0)) w2):=
   ⟨_,rfl,⟨h1,h2,hF,p,F0,rfl,.inl ⟨rfl,h16,hT2.keep K1.out hgF,hd2⟩⟩,(Turn.of_below hb1).trans hT2 (fun b hb=>.inl (.inr hb)),Grow.refl⟩
  clear hd2 hT2;go_wp2_with fail;go_ret;exact HP.out
 ·have hgF: ¬F0 g:=fun hg=>by
   rcases hd.typed g hg with h|h
   ·exact absurd (typeAt_eq h (.of hh)) (by decide)
   ·exact absurd (typeAt_eq h (.of hh)) (by decide)
  have H:=LH hh;have HD:=LH hd;clear hh hd
  go_enter Tryz.func169,Tryz.ntmps169
  go_wp2_with fail;refine(pool_isArray_no _ g _ H.out).mono ?_;rintro e w0 ⟨rfl,hb0⟩;have K0:=LH (bB H.out hb0);go_wp2_with fail;refine(pool_inner _ g _ _ K0.out).mono ?_;rintro e w1 ⟨rfl,hb1'⟩;have hb1:=hb0.trans (hb1'.mono hb0.size);have D1:=LH (HD.out.below hb1);have K1:=LH (bB H.out hb1);clear hb0 hb1' K0;go_wp2_with fail;refine(probe_Add _ p l r F0 D1.out h3 h1 h2 k hk1 hk2 c hc hsum hr30).mono ?_;rintro e w2 ⟨F2,rfl,hd2,hT2,hG2⟩
  have HP:Hid (PAddPost w g 2 l (addR r k c) (footP g F0) (.int .i64 0) (.returned (.int .i64 0)) w2):=
   ⟨_,rfl,⟨h1,h2,hF,p,F2,rfl,.inr ⟨rfl,hT2.keep K1.out hgF,hd2⟩⟩,(Turn.of_below hb1).trans hT2 (fun b hb=>.inl (.inr hb)),Grow.foot fun b hb=>by
    rcases hG2 b hb with h|h
    ·exact .inl h
    ·exact .inr (Nat.le_trans hb1.size h)⟩
  clear hd2 hT2;go_wp2_with fail;go_ret;exact HP.out
def isPool (K l:Int) :Bool:=decide ((K=1∧1≤l∧l≤16)∨(K=2∧1≤l∧l≤48))
theorem pool_New_no (w:World) (K l:Int) (h:isPool K l=false) :Calls Tryz.prog 196 #[.int .i64 K,.int .i64 l] w fun e w'=>e=.returned (.tuple #[.pointer none,.int .i64 2])∧Below w.heap.size w w':=by
 simp only [isPool,decide_eq_false_iff_not] at h;by_cases hK1:K=1
 ·subst hK1
  have hl:l<1∨16<l:=by omega
  have HC:=LH (dense_New_no · l hl);clear h hl
  go_enter Tryz.func196,Tryz.ntmps196
  go_wp2_with fail;refine(HC.out _).mono ?_;rintro e w1 ⟨rfl,hb1⟩;have B1:Below w.heap.size w w1:=Below.then_ bE hb1;have s1:=B1.size;have z1_0:w.heap.size<w1.heap.size:=by have:=hb1.size;(try simp at this);omega
  have y1_0:w.heap.size≤w1.heap.size:=Nat.le_of_lt z1_0;have c1_0:=czB hb1 (w.heap.size);have f1_0:=fzB hb1 (w.heap.size);go_wp2_with fail
  go_ret2
  exact⟨rfl,bE⟩
 ·by_cases hK2:K=2
  ·subst hK2
   have hl:l<1∨48<l:=by omega
   have HC:=LH (probe_New_no · l hl);clear h hl
   go_enter Tryz.func196,Tryz.ntmps196
   go_wp2_with fail;refine(HC.out _).mono ?_;rintro e w1 ⟨rfl,hb1⟩;have B1:Below w.heap.size w w1:=Below.then_ bE hb1;have s1:=B1.size;have z1_0:w.heap.size<w1.heap.size:=by have:=hb1.size;(try simp at this);omega
   have y1_0:w.heap.size≤w1.heap.size:=Nat.le_of_lt z1_0;have c1_0:=czB hb1 (w.heap.size);have f1_0:=fzB hb1 (w.heap.size);go_wp2_with fail
   go_ret2
   exact⟨rfl,bE⟩
  ·have e1: (K == 1) =false:=by simpa using hK1
   have e2: (K == 2) =false:=by simpa using hK2
   clear h
   go_enter Tryz.func196,Tryz.ntmps196
   go_wp2_with fail
   go_ret2
   exact⟨rfl,bE⟩
def NewPost (K l:Nat) (r:List Nd) (w:World) (e:Ending) (w':World) :Prop:=∃g F,e=.returned (.tuple #[.pointer (some ⟨g,0,none⟩),.int .i64 0])∧PoolAt w' g K l r F∧(∀b,F b→w.heap.size≤b)∧Below w.heap.size w w'
theorem Fits.nil (l:Nat) :Fits l []:=⟨⟨.nil,by simp⟩,by simp,by simp [sumR]⟩
theorem pool_New (w:World) (K l:Nat) (h:isPool K l=true) :Calls Tryz.prog 196 #[.int .i64 K,.int .i64 l] w (NewPost K l [] w):=by
 simp only [isPool,decide_eq_true_eq] at h;rcases h with ⟨h0,h1,h2⟩ | ⟨h0,h1,h2⟩
 ·obtain rfl:K=1:=by omega
  have HC:=LH (dense_New · l (by omega) (by omega))
  go_enter Tryz.func196,Tryz.ntmps196
  go_wp2_with fail;refine(HC.out _).mono ?_;rintro e w1 ⟨p,F0,rfl,hd,hF,hb1⟩;have B1:Below w.heap.size w w1:=Below.then_ bE hb1;have s1:=B1.size;have z1_0:w.heap.size<w1.heap.size:=by have:=hb1.size;(try simp at this);omega
  have y1_0:w.heap.size≤w1.heap.size:=Nat.le_of_lt z1_0;have c1_0:=czB hb1 (w.heap.size);have f1_0:=fzB hb1 (w.heap.size);have k1:=bB (heap_new_at w (.cells #[.pointer none,.pointer none] 204) _ rfl) hb1;have c1:=bC k1;have f1:=bF k1;have HD:=LH hd;have K1:=LH k1;simp only [World.size_alloc] at hF;have HF:=LH hF;clear hd k1 hF c1_0 f1_0;go_wp2_with fail
  go_ret2
  refine⟨w.heap.size,footP w.heap.size F0,rfl,⟨by omega,by omega,Fits.nil l,p,F0,rfl,.inl ⟨rfl,by omega,zH K1.out _,?_⟩⟩,?_,bE⟩
  ·exact HD.out.keep fun b hb=>Below.heap_setCell _ _ _ _ (by have:=HF.out b hb;simp only;omega)
  ·rintro b (rfl|hb)
   ·exact Nat.le_refl _
   ·have:=HF.out b hb;omega
 ·obtain rfl:K=2:=by omega
  have HC:=LH (probe_New · l (by omega) (by omega))
  go_enter Tryz.func196,Tryz.ntmps196
  go_wp2_with fail;refine(HC.out _).mono ?_;rintro e w1 ⟨p,F0,rfl,hd,hF,hb1⟩;have B1:Below w.heap.size w w1:=Below.then_ bE hb1;have s1:=B1.size;have z1_0:w.heap.size<w1.heap.size:=by have:=hb1.size;(try simp at this);omega
  have y1_0:w.heap.size≤w1.heap.size:=Nat.le_of_lt z1_0;have c1_0:=czB hb1 (w.heap.size);have f1_0:=fzB hb1 (w.heap.size);have k1:=bB (heap_new_at w (.cells #[.pointer none,.pointer none] 204) _ rfl) hb1;have c1:=bC k1;have f1:=bF k1;have HD:=LH hd;have K1:=LH k1;simp only [World.size_alloc] at hF;have HF:=LH hF;clear hd k1 hF c1_0 f1_0;go_wp2_with fail
  go_ret2
  refine⟨w.heap.size,footP w.heap.size F0,rfl,⟨by omega,by omega,Fits.nil l,p,F0,rfl,.inr ⟨rfl,zH K1.out _,?_⟩⟩,?_,bE⟩
  ·exact HD.out.keep fun b hb=>Below.heap_setCell _ _ _ _ (by have:=HF.out b hb;simp only;omega)
  ·rintro b (rfl|hb)
   ·exact Nat.le_refl _
   ·have:=HF.out b hb;omega
def rollOf (l:List Nd) :List Nd:=l.foldl (fun r x=>addR r x.1 x.2) []
theorem addR_last {r:List Nd} {id c:Int} (h: ∀x∈r,x.1<id) :addR r id c=r ++ [(id,c)]:=by
 induction r with
 |nil=>rfl
 |cons x r ih=>
  have hx:=h x (by simp);simp only [addR];rw [if_neg (by omega),if_neg (by omega),ih fun y hy=>h y (by simp [hy])]
  rfl
theorem sumR_append (a b:List Nd) :sumR (a ++ b) =sumR a+sumR b:=by
 induction a with
 |nil=>simp [sumR]
 |cons x a ih=>simp only [List.cons_append,sumR,ih];omega
theorem Roll.take {r:List Nd} (h:Roll r) (k:Nat) :Roll (r.take k):=⟨h.1.sublist (List.take_sublist k r),fun x hx=>h.2 x (List.mem_of_mem_take hx)⟩
theorem addR_take {r:List Nd} (h:Roll r) {k:Nat} (hk:k<r.length) :addR (r.take k) r[k].1 r[k].2=r.take (k+1):=by
 rw [List.take_succ_eq_append_getElem hk,addR_last];intro x hx;obtain⟨i,hi,rfl⟩:=List.mem_take_iff_getElem.1 hx;exact List.pairwise_iff_getElem.1 h.1 i k (by omega) hk (by omega)
theorem sumR_take_succ {r:List Nd} {k:Nat} (hk:k<r.length) :sumR (r.take (k+1)) =sumR (r.take k) +r[k].2:=by
 rw [List.take_succ_eq_append_getElem hk,sumR_append];simp [sumR]
theorem sumR_take_le {r:List Nd} (h:Roll r) (k:Nat) :sumR (r.take k)≤sumR r:=by
 have h1:sumR r=sumR (r.take k) +sumR (r.drop k):=by rw [←sumR_append,List.take_append_drop]
 have h2:Roll (r.drop k):=⟨h.1.sublist (List.drop_sublist k r),fun x hx=>h.2 x (List.mem_of_mem_drop hx)⟩;have:=sumR_nonneg h2;omega
def PutPost (w:World) (g K l:Nat) (r:List Nd) (F:Nat→Prop) (e:Ending) (w':World) :Prop:=∃F',e=.returned (.tuple #[])∧PoolAt w' g K l r F'∧Turn F w w'∧Grow w F F'
theorem pool_put (w:World) (g K l:Nat) (F:Nat→Prop) (A:Option Addr) (cap:Nat) (r:List Nd) (h:PoolAt w g K l [] F) (hf:Fits l r) (hS:Sl w w.heap.size encN A r) (hFA: ∀b o,A=some ⟨b,o,none⟩→r≠ []→¬F b) (hn:r.length<67108864) :
 Calls Tryz.prog 309 #[.pointer (some ⟨g,0,none⟩),.slice A r.length cap] w (PutPost w g K l r F):=by
 have HP:=LH h;have HS:=LH hS;have HA:=LH hFA;clear h hS hFA
 go_enter Tryz.func309,Tryz.ntmps309
 go_wp2_with fail
 go_loopw [8] (fun i wr=>∃(k:Nat) (F':Nat→Prop),k≤r.length∧i=.int .i64 k∧PoolAt wr g K l (r.take k) F'∧Turn F w wr∧Grow w F F') (fun i _=>r.length - (intOf i).toNat)
 case atStart=>exact⟨0,F,Nat.zero_le _,rfl,HP.out,Turn.refl _ _,Grow.refl⟩
 case round=>
  obtain⟨k,F',hk,rfl,hP,hT,hG⟩:=hrel;have HK:=LH hP;have HT:=LH hT;have HG:=LH hG;have hs:=hT.size;clear hP hT hG;by_cases hlt:k<r.length
  ·obtain⟨b,off,rfl,hb,hc⟩:=HS.out.at_ hlt
   have nF:=HA.out b off rfl (fun h=>by rw [h] at hlt;simp at hlt);have d0:=(HT.out.cell (o:=off+k*2+0) hb nF).trans (hc 0 (.int .i64 r[k].1) rfl);have d1:=(HT.out.cell (o:=off+k*2+1) hb nF).trans (hc 1 (.int .i64 r[k].2) rfl);simp only [Nat.add_zero] at d0;have hx:=hf.roll.2 _ (List.getElem_mem hlt);have hxl:=hf.lt _ (List.getElem_mem hlt);have e1:=sumR_take_succ hlt;have e2:=sumR_take_le hf.roll (k+1);have e3:=hf.sum;have e4:=addR_take hf.roll hlt;obtain⟨x,hxe⟩ : ∃x,x=r[k]:=⟨_,rfl⟩;rw [←hxe] at d0 d1 hx hxl e1 e4;obtain⟨n,hn1⟩:=Int.eq_ofNat_of_zero_le (show 0≤x.1 by omega);have hlen: (r.take k).length≤r.length:=List.length_take_le' _ _;rw [hn1] at d0 hx hxl e4
   have HC:Hid (∀W,PoolAt W g K l (r.take k) F'→Calls Tryz.prog 169 #[.pointer (some ⟨g,0,none⟩),.int .i64 (n:Nat),.int .i64 x.2] W (PAddPost W g K l (r.take (k+1)) F' (.int .i64 0))):=LH fun W hW=>by
    have:=pool_Add W g K l (r.take k) F' hW n (by omega) (by exact_mod_cast hxl) x.2 (by omega) (by omega) (by omega)
    rwa [e4] at this
   clear hc e1 e2 e3 e4 hxe hn1;go_wp2_with fail;refine(HC.out _ (HK.out.below ((Below.refl _ _).alloc (Nat.le_refl _) _))).mono ?_;rintro e w2 ⟨F2,rfl,hP2,hT2,hG2⟩;have KP2:=LH hP2;have HT2:Hid (Turn F w w2):=LH ((HT.out.alloc (.cells #[.int .i64 (n:Nat),.int .i64 x.2] 216)).trans hT2 HG.out);have HG2:Hid (Grow w F F2):=LH (HG.out.trans hG2 (Nat.le_trans hs (by simp)));clear hP2 hT2 hG2;go_wp2_with fail;go_roundw
   case rel=>exact⟨k+1,F2,by omega,by go_num,KP2.out,HT2.out,HG2.out⟩
   case measure=>simp [intOf];omega
  ·obtain rfl:k=r.length:=by omega
   rw [List.take_length] at HK;go_wp2_with fail
   go_end0
   exact⟨F',rfl,HK.out,HT.out,HG.out⟩
theorem totalFrom_ok {n:Int} {l:List Nd} (h: (totalFrom n l).2=true) (hn:0≤n) (hm:n≤most) : (totalFrom n l).1=n+sumR l∧n+sumR l≤most:=by
 induction l generalizing n with
 |nil=>simp [totalFrom,sumR];exact hm
 |cons x l ih=>
  simp only [totalFrom] at h⊢
  split at h
  ·rename_i hc
   rw [if_pos hc];have h1:=addOf_le n x.2 hc.1;have h2:=ih h h1.1 hc.2
   have h3: (addOf n x.2).1=n+x.2:=by
    have:=hc.1;unfold addOf at this⊢
    split
    ·rfl
    ·rename_i hn;rw [if_neg hn] at this;cases this
   simp only [sumR];omega
  ·simp at h
theorem rises_roll {l last:Int} {r:List Nd} (h:risesFrom l last r=true) : (∀x∈r,last<x.1∧isNode l x.1=true∧1≤x.2)∧r.Pairwise (fun a b=>a.1<b.1):=by
 induction r generalizing last with
 |nil=>exact⟨by simp,.nil⟩
 |cons x r ih=>
  simp only [risesFrom,Bool.and_eq_true,decide_eq_true_eq] at h;obtain⟨⟨⟨h1,h2⟩,h3⟩,h4⟩:=h;obtain⟨i1,i2⟩:=ih h4;refine⟨fun y hy=> ?_,List.pairwise_cons.2 ⟨fun y hy=>(i1 y hy).1,i2⟩⟩;rcases List.mem_cons.1 hy with rfl|hy
  ·exact⟨h1,h2,h3⟩
  ·have:=i1 y hy;exact⟨by omega,this.2⟩
theorem isNode_lt {l:Nat} {id:Int} (h:isNode l id=true) :1≤id∧id<2*2^l:=by
 simp only [isNode,decide_eq_true_eq,Int.toNat_natCast] at h;exact h.2
theorem right_fits {l:Nat} {r:List Nd} (h:rightOf l r=true) :Fits l r∧(totalOf r).1=sumR r:=by
 simp only [rightOf,Bool.and_eq_true] at h;obtain⟨⟨h1,h2⟩,_⟩:=h;obtain⟨i1,i2⟩:=rises_roll h1;have h3:=totalFrom_ok h2 (by omega) (by decide);refine⟨⟨⟨i2,fun x hx=>⟨(isNode_lt (i1 x hx).2.1).1,(i1 x hx).2.2⟩⟩,fun x hx=>(isNode_lt (i1 x hx).2.1).2,by unfold most at h3;omega⟩,?_⟩;unfold totalOf;rw [h3.1];omega
theorem pool_Load (w:World) (K l:Nat) (A:Option Addr) (cap:Nat) (r:List Nd) (h:isPool K l=true) (hR:rightOf l r=true) (hS:Sl w w.heap.size encN A r) (hI:ints r) (hn:r.length<67108864) :
 Calls Tryz.prog 277 #[.int .i64 K,.int .i64 l,.slice A r.length cap] w (NewPost K l r w):=by
 have HC:=LH (pool_New · K l h);have HR:=LH (roll_Right · l A cap r · hI (by unfold maxLen;omega));have HF:=LH hR;have HS:=LH hS;have HT:=LH (right_fits hR).1;clear h hR hS
 go_enter Tryz.func277,Tryz.ntmps277
 go_wp2_with fail;refine(HC.out _).mono ?_;rintro e w1 ⟨g,F,rfl,hP,hF,hb1⟩;have B1:Below w.heap.size w w1:=Below.then_ bE hb1;have s1:=B1.size;have S1:=LH (HS.out.keep hb1.size fun p hp=>hb1.cell hp);have KP:=LH hP;have KF:=LH hF;clear hP hF;go_wp2_with fail;refine(HR.out _ S1.out).mono ?_;rintro e w2 ⟨rfl,hb2⟩;have B2:Below w.heap.size w w2:=Below.then_ bE hb2;have s2:=B2.size;rw [HF.out];have KP2:=LH (KP.out.below hb2);have S2:=LH (S1.out.keep hb2.size fun p hp=>hb2.cell hp)
 have HA:Hid (∀b o,A=some ⟨b,o,none⟩→r≠ []→b<w.heap.size):=LH fun b o hA hr=>by
  rcases HS.out with h| ⟨b',o',hA',hb,_⟩
  ·exact absurd h hr
  ·rw [hA] at hA';cases hA';exact hb
 go_wp2_with fail;refine(pool_put _ g K l F A cap r KP2.out HT.out S2.out (fun b o hA hr0 hf=>by have h1:=HA.out b o hA hr0;have h2:=KF.out b hf;omega) hn).mono ?_;rintro e w3 ⟨F3,rfl,hP3,hT3,hG3⟩
 have HP:Hid (NewPost K l r w (.returned (.tuple #[.pointer (some ⟨g,0,none⟩),.int .i64 0])) w3):=LH ⟨g,F3,rfl,hP3,fun b hb=>by
  rcases hG3 b hb with h|h
  ·exact KF.out b h
  ·have:=B2.size;omega,B2.trans (hT3.below KF.out (B2.size))⟩
 clear hP3 hT3 hG3;go_wp2_with fail
 go_ret2
 exact HP.out
section
attribute [local go_sem] Oper.semAt_some
def KeepN (A B:World) :Prop:=A.heap.size≤B.heap.size∧∀(b:Nat) (cs:Array Value) (fr:Nat×Nat),A.heap[b]? =some (.cells cs 216 fr)→B.heap[b]? =some (.cells cs 216 fr)
theorem keepN_t {A B C:World} (h:KeepN A B) (k:KeepN B C) :KeepN A C:=⟨Nat.le_trans h.1 k.1,fun b cs fr hb=>k.2 b cs fr (h.2 b cs fr hb)⟩
theorem keepN_b (W:World) (l:Nat) (o o':Obj) (h:W.heap[l]? =some o) (hc:o.isCells=false) :KeepN W (W.putObj l o'):=by
 refine⟨(grownBy_putObj' W l o').size,fun b cs fr hb=> ?_⟩
 have hne:b≠l:=by
  rintro rfl;rw [h] at hb
  cases hb
  simp [Obj.isCells] at hc
 rw [World.putObj_heap_other hne];exact hb
theorem KeepN.of_below {A B:World} (h:Below A.heap.size A B) :KeepN A B:=⟨h.size,fun b cs fr hb=>(h.block b (lB hb)).trans hb⟩
theorem KeepN.own {base:Nat} {A B:World} {v:Value} {l:List Nd} (h:KeepN A B) (ho:Own A base 216 encN v l) :Own B base 216 encN v l:=
 ho.of_block fun g hv=>by
  rcases ho with ⟨rfl,_⟩ | ⟨g1,o1,c1,u1,rfl,_,hh1,_⟩
  ·cases hv
  ·have:g1=g:=by simpa [Value.ownBlock] using hv
   subst this;rw [hh1];exact h.2 _ _ _ hh1
theorem pool_Each (w:World) (g:Nat) :Calls Tryz.prog 310 #[.pointer (some ⟨g,0,none⟩)] w fun e w'=>e=.returned (.func (.func 325) #[] #[.pointer (some ⟨w.heap.size,0,none⟩)])∧w.alloc (.cells #[.pointer (some ⟨g,0,none⟩)] 117) =w':=by
 go_enter Tryz.func310,Tryz.ntmps310
 go_wp2_with fail;go_ret;exact⟨rfl,rfl⟩
theorem each_stops (n Bs g K l:Nat) (r:List Nd) (F0:Nat→Prop) (w:World) (hn:1≤n) (hBs:w.heap[Bs]? =some (.cells #[.pointer (some ⟨g,0,none⟩)] 117 (0,0))) (hP:PoolAt w g K l r F0) (hr:r.length≤67108864) :
 SeqStopsK Fence.wide n Tryz.prog 325 #[.pointer (some ⟨Bs,0,none⟩)] (fun x:Nd=> #[Value.int .i64 x.1,Value.int .i64 x.2]) KeepN (fun ys=>ys=r) (fun pre=>pre <+: r) r.length w:=fun q J Jx W hW hJ hJx hY h0=>by
 have kb:=bB hBs hW;have HP:=LH (hP.below hW);have cb:=bC kb;have HY:=LH hY;have HJ:=LH hJ;clear kb hBs hP hY hJ;refine callsIn_of_wp Tryz.func325 rfl trivial ?_ rfl;simp only [Tryz.ntmps325,List.size_toArray,List.length_cons,List.length_nil,Nat.reduceAdd,Nat.reduceSub,Array.replicate_succ,Array.replicate_zero,List.push_toArray,List.append_toArray,List.nil_append,List.cons_append]
 gi_wp2_with fail
 refine⟨trivial,?_⟩;refine(callsIn_wide.2 (pool_Snap _ g K l r F0 HP.out hr)).mono ?_;rintro e w1 ⟨v,rfl,ho,hb⟩;have HO:=LH ho;have J0:Hid (J [] w1):=LH (HJ.out _ _ _ none h0 (grownBy_of_below hb none) (fun _ h=>by cases h));have hs:=hb.size;obtain⟨A,cap,rfl,_⟩:=ho.form;clear ho hb h0
 gi_wp2_with fail
 gi_loopw [8] (fun i wr=>∃k:Nat,k≤r.length∧i=.int .i64 k∧Own wr W.heap.size 216 encN (.slice A r.length cap) r∧J (r.take k) wr∧W.heap.size≤wr.heap.size) (fun i _=>r.length - (intOf i).toNat)
 case atStart=>exact⟨0,Nat.zero_le _,rfl,HO.out,J0.out,hs⟩
 case round=>
  obtain⟨k,hk,rfl,hown,hJk,hsz⟩:=hrel;have KO:=LH hown;have KJ:=LH hJk;clear hown hJk;by_cases hlt:k<r.length
  ·obtain⟨b,off,rfl,hT,hc⟩:=KO.out.slT.at_ hlt
   have d0:=hc 0 (.int .i64 r[k].1) rfl;have d1:=hc 1 (.int .i64 r[k].2) rfl;simp only [Nat.add_zero] at d0;have hts:=List.take_succ_eq_append_getElem hlt;obtain⟨x,hx⟩ : ∃x,x=r[k]:=⟨_,rfl⟩;rw [←hx] at d0 d1 hts;have HS:=LH hts;have hA:Below wr.heap.size wr (wr.alloc (.cells #[.int .i64 x.1,.int .i64 x.2] 216)):=(Below.refl _ _).alloc (Nat.le_refl _) _;have hJ2:=HJ.out _ _ _ none KJ.out (grownBy_of_below hA none) (fun _ h=>by cases h);obtain⟨fn,tmps,assign,body,hy,hR⟩:=HY.out (r.take k) x _ hJ2 (by rw [List.length_take];omega);have KA:=LH (KO.out.below hA);clear hc hts hx hJ2 hA hT
   gi_wp2_with fail
   refine hR.mono ?_;rintro e w3 (⟨rfl,hJ3,hk3⟩ | ⟨rfl,hJx3⟩)
   ·have K3:=LH (hk3.own KA.out)
    have z3:=hk3.1;rw [←HS.out] at hJ3;have J3:=LH hJ3;clear hJ3 hk3
    gi_wp2_with fail
    go_roundw
    case rel=>exact⟨k+1,by omega,by go_num,K3.out,J3.out,by simp at z3;omega⟩
    case measure=>simp [intOf];omega
   ·rw [←HS.out] at hJx3
    have J3:=LH hJx3;clear hJx3
    gi_wp2_with fail
    refine bR (results_none rfl _ _ _) rfl ?_;exact⟨⟨_,rfl⟩,.inr ⟨_,List.take_prefix _ _,J3.out⟩⟩
  ·obtain rfl:k=r.length:=by omega
   rw [List.take_length] at KJ
   gi_wp2_with fail
   go_end0
   exact⟨⟨_,rfl⟩,.inl ⟨_,rfl,KJ.out⟩⟩
end
section
attribute [local go_sem] Oper.semAt_some
theorem fold_Cap (w:World) (n k:Int) (hn0:0≤n) (hn:n≤9223372036854775807) (hk:1≤k) (hk2:k≤9223372036854775807) :Calls Tryz.prog 299 #[.int .i64 n,.int .i64 k] w fun e w'=>e=.returned (.int .i64 (n / k))∧Below w.heap.size w w':=by
 have HD:=LH (show divOf n k= (n / k,true) by simp only [divOf];rw [if_neg (by omega)])
 go_enter Tryz.func299,Tryz.ntmps299
 go_wp2_with fail;refine(reckon_Div _ n k hn hk2).mono ?_;rintro e w1 ⟨rfl,hb1⟩;have B1:Below w.heap.size w w1:=Below.then_ bE hb1;have s1:=B1.size;rw [HD.out];unfold okV;go_wp2_with fail;go_ret;exact⟨rfl,bE⟩
theorem press_may (w:World) (k:Int) (h1:1≤k) (h2:k≤1048576) :Calls Tryz.prog 138 #[.int .i64 k] w fun e w'=>e=.returned (.bool true)∧Below w.heap.size w w':=by
 have h3:decide (k≤1048576) =true:=by simpa using h2
 go_enter Tryz.func138,Tryz.ntmps138
 go_wp2_with fail;go_ret;exact⟨ret_bool (by simp [h2]),bE⟩
theorem press_wrong (w:World) (g:Nat) (k:Int) (h1:1≤k) (h2:k≤1048576) :Calls Tryz.prog 261 #[.pointer (some ⟨g,0,none⟩),.int .i64 k] w fun e w'=>e=.returned (.int .i64 0)∧Below w.heap.size w w':=by
 go_enter Tryz.func261,Tryz.ntmps261
 go_wp2_with fail;refine(press_may _ k h1 h2).mono ?_;rintro e w1 ⟨rfl,hb1⟩;have B1:Below w.heap.size w w1:=Below.then_ bE hb1;have s1:=B1.size;go_wp2_with fail;go_ret;exact⟨rfl,bE⟩
def heavy (l:Int) (most:Int) (x:Nd) :Bool:=(kidsOf l x.1).2.2 && decide (most<x.2)
def lightOf (l:Int) (r:List Nd) (k:Int) :Bool:= !r.any (heavy l (sumR r / k))
theorem lt_of_cell {W:World} {b o:Nat} {v:Value} (h:W.cell? ⟨b,o,none⟩ =some v) :b<W.heap.size:=by
 rcases Nat.lt_or_ge b W.heap.size with h'|h'
 ·exact h'
 ·simp [World.cell?,Array.getElem?_eq_none h'] at h
theorem press_Light (w:World) (g K l:Nat) (r:List Nd) (F:Nat→Prop) (k:Int) (hP:PoolAt w g K l r F) (h1:1≤k) (h2:k≤1048576) (hr:r.length≤67108864) :
 Calls Tryz.prog 278 #[.pointer (some ⟨g,0,none⟩),.int .i64 k] w fun e w'=>e=.returned (.bool (lightOf l r k))∧Below w.heap.size w w':=by
 have hs0:=sumR_nonneg hP.fits.roll;have hs1:=hP.fits.sum;have HP:=LH hP;clear hP;refine(callsIn_wide (n:=3)).1 ?_;refine callsIn_of_wp_marks Tryz.func278 rfl trivial ?_ rfl;simp only [Tryz.ntmps278,List.size_toArray,List.length_cons,List.length_nil,Nat.reduceAdd,Nat.reduceSub,Array.replicate_succ,Array.replicate_zero,List.push_toArray,List.append_toArray,List.nil_append,List.cons_append]
 gi_wp2_with fail
 refine⟨trivial,?_⟩;refine(callsIn_wide.2 (press_wrong _ g k h1 h2)).mono ?_;rintro e w1 ⟨rfl,hb1⟩;have B1:Below w.heap.size w w1:=Below.then_ bE hb1;have s1:=B1.size;have z1_0:w.heap.size<w1.heap.size:=by have:=hb1.size;(try simp at this);omega
 have y1_0:w.heap.size≤w1.heap.size:=Nat.le_of_lt z1_0;have c1_0:=czB hb1 (w.heap.size);have f1_0:=fzB hb1 (w.heap.size);have z1_1:w.heap.size+1<w1.heap.size:=by have:=hb1.size;(try simp at this);omega
 have y1_1:w.heap.size+1≤w1.heap.size:=Nat.le_of_lt z1_1;have c1_1:=czB hb1 (w.heap.size+1);have f1_1:=fzB hb1 (w.heap.size+1);have P1:=LH (HP.out.below B1)
 gi_wp2_with fail
 refine⟨trivial,?_⟩;refine(callsIn_wide.2 (pool_Total _ g K l r F P1.out)).mono ?_;rintro e w2 ⟨rfl,hb2⟩;have B2:Below w.heap.size w w2:=Below.then_ bE hb2;have s2:=B2.size;have z2_0:w.heap.size<w2.heap.size:=by have:=hb2.size;(try simp at this);omega
 have y2_0:w.heap.size≤w2.heap.size:=Nat.le_of_lt z2_0;have c2_0:=czB hb2 (w.heap.size);have f2_0:=fzB hb2 (w.heap.size);have z2_1:w.heap.size+1<w2.heap.size:=by have:=hb2.size;(try simp at this);omega
 have y2_1:w.heap.size+1≤w2.heap.size:=Nat.le_of_lt z2_1;have c2_1:=czB hb2 (w.heap.size+1);have f2_1:=fzB hb2 (w.heap.size+1);have P2:=LH (HP.out.below B2)
 gi_wp2_with fail
 refine⟨trivial,?_⟩;refine(callsIn_wide.2 (fold_Cap _ (sumR r) k hs0 (by omega) h1 (by omega))).mono ?_;rintro e w3 ⟨rfl,hb3⟩;have B3:Below w.heap.size w w3:=Below.then_ bE hb3;have s3:=B3.size;have z3_0:w.heap.size<w3.heap.size:=by have:=hb3.size;(try simp at this);omega
 have y3_0:w.heap.size≤w3.heap.size:=Nat.le_of_lt z3_0;have c3_0:=czB hb3 (w.heap.size);have f3_0:=fzB hb3 (w.heap.size);have z3_1:w.heap.size+1<w3.heap.size:=by have:=hb3.size;(try simp at this);omega
 have y3_1:w.heap.size+1≤w3.heap.size:=Nat.le_of_lt z3_1;have c3_1:=czB hb3 (w.heap.size+1);have f3_1:=fzB hb3 (w.heap.size+1);have P3:=LH (HP.out.below B3)
 gi_wp2_with fail
 refine⟨trivial,?_⟩;refine(callsIn_wide.2 (pool_Each _ g)).mono ?_;rintro e w4 ⟨rfl,rfl⟩
 gi_wp2_with fail
 have hB0:Below w.heap.size w ((w3.alloc (.cells #[.int .i64 (sumR r / k)] 3)).alloc (.cells #[.pointer (some ⟨g,0,none⟩)] 117)):=bE;have kb:=heap_new_at (w3.alloc (.cells #[.int .i64 (sumR r / k)] 3)) (.cells #[.pointer (some ⟨g,0,none⟩)] 117) (w3.heap.size+1) (by simp);have x0: ((w3.alloc (.cells #[.int .i64 (sumR r / k)] 3)).alloc (.cells #[.pointer (some ⟨g,0,none⟩)] 117)).cell? ⟨w.heap.size,0,none⟩ =some (.pointer (some ⟨g,0,none⟩)):=by go_simp
 have x1: ((w3.alloc (.cells #[.int .i64 (sumR r / k)] 3)).alloc (.cells #[.pointer (some ⟨g,0,none⟩)] 117)).cell? ⟨w.heap.size+1,0,none⟩ =some (.bool false):=by go_simp
 have x2: ((w3.alloc (.cells #[.int .i64 (sumR r / k)] 3)).alloc (.cells #[.pointer (some ⟨g,0,none⟩)] 117)).cell? ⟨w3.heap.size,0,none⟩ =some (.int .i64 (sumR r / k)):=by go_simp
 have x3: ((w3.alloc (.cells #[.int .i64 (sumR r / k)] 3)).alloc (.cells #[.pointer (some ⟨g,0,none⟩)] 117)).frozen? ⟨w.heap.size+1,0,none⟩ =false:=by go_simp
 have zz:w.heap.size+1<w3.heap.size:=z3_1;generalize (w3.alloc (.cells #[.int .i64 (sumR r / k)] 3)).alloc (.cells #[.pointer (some ⟨g,0,none⟩)] 117) =W0 at hB0 kb x0 x1 x2 x3⊢;clear P1 P2 P3 hb1 hb2 hb3 B1 B2 B3 s1 s2 s3 z1_0 y1_0 c1_0 f1_0 z1_1 y1_1 c1_1 f1_1 z2_0 y2_0 c2_0 f2_0 z2_1 y2_1 c2_1 f2_1 z3_0 y3_0 c3_0 f3_0 z3_1 y3_1 c3_1 f3_1;have zs:=hB0.size
 refine wpIn_rangeFunc_ownG rfl (by decide) (gf:=325) (lb:= #[.pointer (some ⟨w3.heap.size+1,0,none⟩)]) rfl trivial (enters_of Tryz.func325 (by kernel_rfl) rfl)
  (each_stops (3 - 1) (w3.heap.size+1) g K l r F W0 (by decide) kb (HP.out.below hB0) hr) keepN_t (fun W q o o' _ h hc _=>keepN_b W q o o' h hc) (Below.refl _ _) (fun _=>rfl)
  (fun pre W=>((pre.any (heavy l (sumR r / k)) =false)∧W.cell? ⟨w.heap.size,0,none⟩ =some (.pointer (some ⟨g,0,none⟩))∧W.cell? ⟨w.heap.size+1,0,none⟩ =some (.bool false)∧W.cell? ⟨w3.heap.size,0,none⟩ =some (.int .i64 (sumR r / k))∧W.frozen? ⟨w.heap.size+1,0,none⟩ =false)∧Below w.heap.size w W)
  (fun c pre W=>(c=.ret∧pre.any (heavy l (sumR r / k)) =true∧W.cell? ⟨w.heap.size+1,0,none⟩ =some (.bool false))∧Below w.heap.size w W)
  (OwnFrom.and (Own.from (fun s A B row hs hg hr=>⟨hs.1,cell_kept hs.2.1 hg hr,cell_kept hs.2.2.1 hg hr,cell_kept hs.2.2.2.1 hg hr,(frozen_kept hs.2.2.1 hg hr).trans hs.2.2.2.2⟩) _) (ownFrom_below (Nat.le_refl _) zs))
  (fun c=>OwnFrom.and (Own.from (fun s A B row hs hg hr=>⟨hs.1,hs.2.1,cell_kept hs.2.2 hg hr⟩) _) (ownFrom_below (Nat.le_refl _) zs))
  ⟨⟨rfl,x0,x1,x2,x3⟩,hB0⟩
  (fun x=>{tmps:= #[.pointer (some ⟨g,0,none⟩),.int .i64 k,.pointer (some ⟨w.heap.size,0,none⟩),undef,.pointer (some ⟨w.heap.size+1,0,none⟩),.pointer (some ⟨w3.heap.size,0,none⟩),.int .i64 x.1,.int .i64 x.2,undef,undef,undef,
    .pointer (some ⟨g,0,none⟩),.int .i64 k,.int .i64 0,.bool false,.pointer (some ⟨g,0,none⟩),.int .i64 (sumR r),.int .i64 k,.int .i64 (sumR r / k),.pointer (some ⟨g,0,none⟩),.func (.func 325) #[] #[.pointer (some ⟨w3.heap.size+1,0,none⟩)],.int .i64 x.1,.int .i64 x.2,
    undef,undef,undef,undef,undef,undef,undef,undef,undef,undef,undef,undef,undef,undef],defers:= []}) ?assign ?body ?done ?stop
 case assign=>
  intro q x W K hK
  gi_wp2
  exact hK
 case body=>
  rintro q pre x W ⟨⟨hp,c0,c1,c2,f1⟩,hB⟩ _;have HPW:=LH (HP.out.below hB);have hk:=LH (twig_Kids · l x.1);have he:Hid (heavy l (sumR r / k) x= ((kidsOf l x.1).2.2 && decide (sumR r / k<x.2))):=LH rfl;have HPre:=LH hp;have zW:=hB.size;have zc0:=lt_of_cell c0;have zc1:=lt_of_cell c1;have HB:=LH hB;clear hp hB;generalize kidsOf l x.1=t at hk he;obtain⟨t1,t2,t3⟩:=t
  gi_wp2_with fail
  refine⟨trivial,?_⟩;refine(CallsIn.inRound q (callsIn_wide.2 (pool_L _ g K l r F HPW.out))).mono ?_;rintro e w5 ⟨rfl,hb5⟩
  gi_wp2_with fail
  refine⟨trivial,?_⟩;refine(CallsIn.inRound q (callsIn_wide.2 (hk.out _))).mono ?_;rintro e w6 ⟨rfl,hb6⟩;have hb:=hb5.trans (hb6.mono hb5.size);have hbw:=HB.out.trans (hb.mono zW);have d1:=(hb.cell (p:=⟨w.heap.size+1,0,none⟩) (by simp only;omega)).trans c1;have d0:=(hb.cell (p:=⟨w.heap.size,0,none⟩) (by simp only;omega)).trans c0;have z3:=lt_of_cell c2;have d2:=(hb.cell (p:=⟨w3.heap.size,0,none⟩) z3).trans c2;have g1:=(hb.frozen (p:=⟨w.heap.size+1,0,none⟩) (by simp only;omega)).trans f1;have KW:Hid (KeepsFrom W0.heap.size W w6):=LH ((KeepsOthers.of_grownBy (grownBy_of_below hb none) (fun _ _ h=>by cases h)).from _);have KN:=LH (KeepN.of_below hb);have HBW:=LH hbw;clear hb5 hb6 hb hbw c0 c1 c2 f1;unfold endsV
  cases t3
  ·gi_wp2_with fail
   exact⟨KW.out,KN.out,⟨by rw [List.any_append,HPre.out];simp [he.out],d0,d1,d2,g1⟩,HBW.out⟩
  ·by_cases hx:sumR r / k<x.2
   ·gi_wp2_with fail
    exact⟨KW.out.trans ((KeepsOthers.setCell _ _ _).from _),⟨rfl,by rw [List.any_append];simp [he.out,hx],World.cell?_setCell_same' _ _ _ (by rw [d1];rfl)⟩,HBW.out.setCell (p:=⟨w.heap.size+1,0,none⟩) (by simp only;omega) _⟩
   ·gi_wp2_with fail
    exact⟨KW.out,KN.out,⟨by rw [List.any_append,HPre.out];simp [he.out,hx],d0,d1,d2,g1⟩,HBW.out⟩
 case done=>
  rintro D ys W hD hys ⟨⟨hp,c0,c1,c2,f1⟩,hB⟩ hK;have hys':ys=r:=hys;rw [hys'] at hp;clear hys hys';have zc1:=lt_of_cell c1;have hl:lightOf l r k=true:=by unfold lightOf;rw [hp];rfl
  have zW:=hB.size
  gi_wp2
  have hK':=(KeepsOthers.setCell W ⟨w.heap.size+1,0,none⟩ (.bool true)).same D _ hK rfl;refine⟨by simp,.inl ⟨_,_,rfl,run_takeDeferred hK',?_⟩⟩;have hc5:=cell_kept (World.cell?_setCell_same' W ⟨w.heap.size+1,0,none⟩ (.bool true) (by rw [c1];rfl)) (grownBy_putObj' _ D (.deferred none)) (fun r e=>by cases e;exact⟨_,hK',rfl⟩);refine⟨.bool true,?_,by rw [hl],(hB.setCell (p:=⟨w.heap.size+1,0,none⟩) (by simp only;omega) _).trans (belowK_b (w:=w) (Nat.le_refl _) _ D _ _ (by omega) hK' rfl rfl)⟩;simp [results,Tryz.f278,go_sem,hc5]
 case stop=>
  rintro D c pre W hD hpre ⟨⟨rfl,hp,c1⟩,hB⟩ hK
  have hl:lightOf l r k=false:=by
   unfold lightOf;obtain⟨x,hx,hh⟩:=List.any_eq_true.1 hp;rw [List.any_eq_true.2 ⟨x,hpre.subset hx,hh⟩];rfl
  gi_wp2
  refine⟨by simp,.inl ⟨_,_,rfl,run_takeDeferred hK,?_⟩⟩;have hc5:=cell_kept c1 (grownBy_putObj' _ D (.deferred none)) (fun r e=>by cases e;exact⟨_,hK,rfl⟩);refine⟨.bool false,?_,by rw [hl],hB.trans (belowK_b (w:=w) (Nat.le_refl _) W D _ _ (by omega) hK rfl rfl)⟩;simp [results,Tryz.f278,go_sem,hc5]
end
section
open Go.RowKit
def headPost (P:Program) (ops:Array Oper) (Q:Exit→Act→World→Prop) (l:List Oper) :Exit→Act→World→Prop
 | .normal,a,w=>wpList P ops Q l a w
 | .panic c,a,w=>Q (.panic c) a w
 | .exit i,a,w=>Q (.exit i) a w
 | .goto i,a,w=>Q (.goto i) a w
 | .ret,a,w=>Q .ret a w
 | .outgrown,a,w=>Q .outgrown a w
def tailB (l:List Oper) (n:Nat) :Bool:=
 decide (n<l.length) &&
 ((List.range n).all fun i=>match l[i]? with
   |some o=>o.after.all (fun e=> !Region.binds .any e || decide (e.on<i)) && (match o.guard with|some (j,_)=>decide (j<n) |none=>true)
   |none=>false) &&
 ((List.range n).all fun i=>Region.waitsFor .any l.toArray n i || (List.range n).any fun j=>decide (i<j) && Region.waitsFor .any l.toArray j i) &&
 ((List.range l.length).all fun t=>decide (t≤n) || Region.waitsFor .any l.toArray t (t - 1)) &&
 Region.seqB .any l.toArray (l.length - n) n (Array.replicate n true ++ Array.replicate (l.length - n) false) &&
 Region.lexB .any (l.take n).toArray
section
variable {P:Program} {Q:Exit→Act→World→Prop} {l:List Oper} {n:Nat}
theorem upon_head {o:Oper} {a:Act} {K:Act→World→Prop} {r:Result Next} {ops:Array Oper} {lt:List Oper} (h:o.upon P a K (headPost P ops Q lt) r) :o.upon P a K Q r:=by
 cases r with
 |ok x w=>
  cases x with
  |enter f args=>
   refine Calls.mono h fun e w' he=> ?_
   cases e with
   |returned v=>exact he
   |panicked c=>exact he
   |outgrown=>obtain⟨a',w'',h'⟩:=he;exact⟨a',w'',h'⟩
  |_=>exact h
 |halt x w=>cases x <;> exact h
theorem any_more {ops:Array Oper} : ∀(g m:Nat) (listed:Array Bool) (a:Act) (w:World),wpAny P .any ops Q g listed a w→wpAny P .any ops Q (g+m) listed a w
 |0,0,_,_,_,h=>h
 |0,m+1,listed,a,w,h=>by
  rw [Nat.zero_add];exact⟨fun _=>h.2,fun i hi=>by rw [h.1] at hi;cases hi⟩
 |g+1,m,listed,a,w,h=>by
  rw [show g+1+m= (g+m) +1 by omega];exact⟨h.1,fun i hi=>wpOp_mono (fun a' w' h'=>any_more g m _ a' w' h') (h.2 i hi)⟩
structure HeadRel (l:List Oper) (n:Nat) (lh listed:Array Bool) :Prop where
 sh:lh.size=n
 sl:listed.size=l.length
 nl:n≤l.length
 same: ∀i,i<n→∀d,listed.getD i d=lh.getD i d
 tail: ∀t,n≤t→t<l.length→listed.getD t true=false
 down: ∀j o,j<n→l[j]? =some o→lh.getD j false=true→∀e∈o.after,Region.binds .any e=true→lh.getD e.on false=true
theorem HeadRel.set {lh listed:Array Bool} (h:HeadRel l n lh listed) {i:Nat} (hi:i<n) (hd: ∀o,l[i]? =some o→∀e∈o.after,Region.binds .any e=true→lh.getD e.on false=true) :HeadRel l n (lh.setIfInBounds i true) (listed.setIfInBounds i true):=by
 refine⟨by simp [h.sh],by simp [h.sl],h.nl,fun j hj d=> ?_,fun t ht ht'=>by rw [getD_set_ne true (by omega)];exact h.tail t ht ht',fun j o hj ho hlj e he hb=> ?_⟩
 case refine_2=>
  have up: ∀q,lh.getD q false=true→(lh.setIfInBounds i true).getD q false=true:=fun q hq=>by
   by_cases hiq:i=q
   ·subst hiq
    have:i<lh.size:=by rw [h.sh];exact hi
    simp [this]
   ·rw [getD_set_ne false hiq];exact hq
  by_cases hij:i=j
  ·subst hij
   exact up _ (hd o ho e he hb)
  ·rw [getD_set_ne false hij] at hlj
   exact up _ (h.down j o hj ho hlj e he hb)
 by_cases hij:i=j
 ·subst hij
  have h1:i<lh.size:=by rw [h.sh];exact hi
  have h2:i<listed.size:=by rw [h.sl];have:=h.nl;omega
  simp [h1,h2]
 ·rw [getD_set_ne d hij,getD_set_ne d hij]
  exact h.same j hj d
theorem wanted_head {o:Oper} {a:Act} (hg: (match o.guard with|some (j,_)=>decide (j<n) |none=>true) =true) :
 Region.wanted o (yielded (l.take n).toArray a.tmps) =Region.wanted o (yielded l.toArray a.tmps):=by
 unfold Region.wanted
 split
 ·rfl
 ·rename_i j b hj
  rw [hj] at hg;have hlt:j<n:=by simpa using hg
  simp [yielded,hlt]
theorem lift_head (hB:tailB l n=true) : ∀(f:Nat) (lh listed:Array Bool) (a:Act) (w:World),HeadRel l n lh listed→
 wpAny P .any (l.take n).toArray (headPost P l.toArray Q (l.drop n)) f lh a w→wpAny P .any l.toArray Q (f+ (l.length - n)) listed a w:=by
 simp only [tailB,Bool.and_eq_true,decide_eq_true_eq] at hB;obtain⟨⟨⟨⟨⟨hn,hhead⟩,hsink⟩,hchain⟩,hseq⟩,_⟩:=hB
 have hop: ∀i,i<n→∃o,l[i]? =some o∧(∀e∈o.after,Region.binds .any e=true→e.on<i)∧(match o.guard with|some (j,_)=>decide (j<n) |none=>true) =true:=by
  intro i hi;have h1:=List.all_eq_true.1 hhead i (List.mem_range.2 hi)
  split at h1
  ·rename_i o ho
   simp only [Bool.and_eq_true] at h1;refine⟨o,ho,fun e he hb=> ?_,h1.2⟩;have h2:=Array.all_eq_true'.1 h1.1 e he;simp only [hb,Bool.not_true,Bool.false_or,decide_eq_true_eq] at h2;exact h2
  ·cases h1
 have hpre: ∀i,i<n→(l.take n).toArray[i]? =l.toArray[i]? :=by
  intro i hi;simp [hi]
 have done: ∀(f:Nat) (lh listed:Array Bool) (a:Act) (w:World),HeadRel l n lh listed→(∀i,i<n→lh.getD i true=true)→headPost P l.toArray Q (l.drop n) .normal a w→
  wpAny P .any l.toArray Q (f+ (l.length - n)) listed a w:=by
  intro f lh listed a w hr hall h
  have he:listed=Array.replicate n true ++ Array.replicate (l.length - n) false:=by
   apply Array.ext
   ·simp [hr.sl];omega
   ·intro i h1 h2
    by_cases hi:i<n
    ·have e1:=hr.same i hi true
     rw [hall i hi] at e1;simp [h1] at e1
     simp [hi,e1]
    ·have e1:=hr.tail i (by omega) (by rw [←hr.sl];exact h1)
     simp [h1] at e1
     rw [Array.getElem_append_right (by simp;omega)];simp [e1]
  subst he;rw [Nat.add_comm];refine any_more _ f _ a w ?_;have:=wpAny_of_seq (md:=.any) (P:=P) (Q':=Q) (ops:=l.toArray) (l.drop n) n _ a w (fun j=>by simp [List.getElem?_drop]) (by simpa using hseq) h
  simpa using this
 have least: ∀(lh:Array Bool),lh.size=n→(¬∀i,i<n→lh.getD i true=true)→Region.ready .any (l.take n).toArray lh≠ []:=by
  intro lh hsz hnot hnil
  have hex: ∃i,i<n∧lh.getD i true=false:=by
   refine Classical.byContradiction fun hc=>hnot fun i hi=> ?_
   cases hv:lh.getD i true with
   |true=>rfl
   |false=>exact absurd ⟨i,hi,hv⟩ hc
  have key: ∀m i,i≤m→i<n→lh.getD i true=false→False:=by
   intro m
   induction m using Nat.strongRecOn with
   |_ m ih=>
    intro i him hi hv;obtain⟨o,ho,he,_⟩:=hop i hi
    have hin:i∈Region.ready .any (l.take n).toArray lh:=by
     refine mem_ready.2 ⟨hv,o,by rw [hpre i hi];simpa using ho,fun e hem hb=> ?_⟩;have hlt:=he e hem hb
     cases hv2:lh.getD e.on false with
     |true=>rfl
     |false=>
      exfalso
      have:lh.getD e.on true=false:=by
       have:e.on<lh.size:=by omega
       simp [this] at hv2⊢
       exact hv2
      exact ih e.on (by omega) e.on (Nat.le_refl _) (by omega) this
    rw [hnil] at hin
    cases hin
  obtain⟨i,hi,hv⟩:=hex;exact key i i (Nat.le_refl _) hi hv
 have inHead: ∀(lh listed:Array Bool),HeadRel l n lh listed→(¬∀i,i<n→lh.getD i true=true)→∀i∈Region.ready .any l.toArray listed,i<n:=by
  intro lh listed hr hnot i hi;obtain⟨hu,o,ho,hall⟩:=mem_ready.1 hi;rcases Nat.lt_or_ge i n with hlt|hge
  ·exact hlt
  ·exfalso
   have hil:i<l.length:=by
    have:=(Array.getElem?_eq_some_iff.1 ho).1
    simpa using this
   by_cases hin:i=n
   ·subst hin
    have done_: ∀m j,j<i→i - j≤m→lh.getD j false=true:=by
     intro m
     induction m with
     |zero=>intro j hj hm;omega
     |succ m ih=>
      intro j hj hm;have hs:=List.all_eq_true.1 hsink j (List.mem_range.2 hj);simp only [Bool.or_eq_true] at hs;rcases hs with hs|hs
      ·obtain⟨o',ho',e,he,hb,hon⟩:=Region.waitsFor_spec hs
       have:o'=o:=Option.some.inj (ho'.symm.trans ho);subst this;have h1:=hall e he hb;rw [hon,hr.same j hj false] at h1;exact h1
      ·obtain⟨j',hj',hw⟩:=List.any_eq_true.1 hs
       simp only [Bool.and_eq_true,decide_eq_true_eq] at hw;have hlt:=List.mem_range.1 hj';obtain⟨o',ho',e,he,hb,hon⟩:=Region.waitsFor_spec hw.2;have h1:=hr.down j' o' hlt (by simpa using ho') (ih j' hlt (by omega)) e he hb;rw [hon] at h1;exact h1
    refine hnot fun j hj=> ?_;have h1:=done_ i j hj (by omega);have:j<lh.size:=by rw [hr.sh];exact hj
    simp [this] at h1⊢
    exact h1
   ·have h1:=List.all_eq_true.1 hchain i (List.mem_range.2 hil)
    simp only [Bool.or_eq_true,decide_eq_true_eq] at h1;rcases h1 with h1|h1
    ·omega
    ·obtain⟨o',ho',e,he,hb,hon⟩:=Region.waitsFor_spec h1
     have:o'=o:=Option.some.inj (ho'.symm.trans ho);subst this;have h2:=hall e he hb;have h3:=hr.tail (i - 1) (by omega) (by omega);rw [hon] at h2;have:i - 1<listed.size:=by rw [hr.sl];omega
     simp [this] at h2 h3
     rw [h2] at h3
     cases h3
 intro f
 induction f with
 |zero=>
  intro lh listed a w hr h;by_cases hall: ∀i,i<n→lh.getD i true=true
  ·exact done 0 lh listed a w hr hall h.2
  ·exact absurd h.1 (least lh hr.sh hall)
 |succ f ih=>
  intro lh listed a w hr h;by_cases hall: ∀i,i<n→lh.getD i true=true
  ·refine done (f+1) lh listed a w hr hall (h.1 ?_)
   cases hc:Region.ready .any (l.take n).toArray lh with
   |nil=>rfl
   |cons i r=>
    exfalso
    have hi:i∈Region.ready .any (l.take n).toArray lh:=by rw [hc];simp
    obtain⟨hu,o,ho,_⟩:=mem_ready.1 hi
    have hin:i<n:=by
     have:=(Array.getElem?_eq_some_iff.1 ho).1;simp at this
     omega
    rw [hall i hin] at hu
    cases hu
  ·rw [show f+1+ (l.length - n) = (f+ (l.length - n)) +1 by omega]
   refine⟨fun h0=> ?_,fun i hi=> ?_⟩
   ·exfalso
    refine least lh hr.sh hall ?_
    cases hc:Region.ready .any (l.take n).toArray lh with
    |nil=>rfl
    |cons i r=>
     exfalso
     have hi:i∈Region.ready .any (l.take n).toArray lh:=by rw [hc];simp
     obtain⟨hu,o,ho,hedge⟩:=mem_ready.1 hi
     have hin:i<n:=by
      have:=(Array.getElem?_eq_some_iff.1 ho).1;simp at this
      omega
     obtain⟨o',ho',he',_⟩:=hop i hin
     have:i∈Region.ready .any l.toArray listed:=by
      rw [hpre i hin] at ho;have hoo:o=o':=Option.some.inj (ho.symm.trans (by simpa using ho'));subst hoo;exact mem_ready.2 ⟨by rw [hr.same i hin];exact hu,o,ho,fun e hem hb=>by rw [hr.same e.on (by have:=he' e hem hb;omega)];exact hedge e hem hb⟩
     rw [h0] at this
     cases this
   ·have hin:=inHead lh listed hr hall i hi
    obtain⟨hu,o,ho,hedge⟩:=mem_ready.1 hi;obtain⟨o',ho',he',hg'⟩:=hop i hin;have hoo:o=o':=Option.some.inj (ho.symm.trans (by simpa using ho'));subst hoo
    have hi':i∈Region.ready .any (l.take n).toArray lh:=
     mem_ready.2 ⟨by rw [←hr.same i hin];exact hu,o,by rw [hpre i hin];exact ho,fun e hem hb=>by rw [←hr.same e.on (by have:=he' e hem hb;omega)];exact hedge e hem hb⟩
    have hdn: ∀o,l[i]? =some o→∀e∈o.after,Region.binds .any e=true→lh.getD e.on false=true:=fun o2 ho2 e hem hb=>by
     have:o2=o:=Option.some.inj (ho2.symm.trans (by simpa using ho));subst this;rw [←hr.same e.on (by have:=he' e hem hb;omega)];exact hedge e hem hb
    have h1:=h.2 i hi';unfold wpOp at h1⊢;rw [hpre i hin] at h1;rw [ho] at h1⊢;simp only [wanted_head hg'] at h1;simp only
    split at h1
    ·rename_i hw
     rw [if_pos hw];rcases h1 with h1| ⟨h1,h2⟩
     ·left
      exact upon_head (Oper.wp_mono (fun a' w' h'=>ih _ _ a' w' (hr.set hin hdn) h') h1)
     ·right
      obtain⟨a',w',h'⟩:=h2;exact⟨h1,a',w',h'⟩
    ·rename_i hw
     rw [if_neg hw];exact ih _ _ _ _ (hr.set hin hdn) h1
theorem wp_region_tail {id:Nat} {a:Act} {w:World} {l:List Oper} (n:Nat) (hm:P.follows .mixedOrders=true) (hB:tailB l n=true)
 (h:wpQuiet P (l.take n).toArray (fun w'=>∃x,w'=ext w x) (fun a'=>∀w',(∃x,w'=ext w x)→wpList P l.toArray Q (l.drop n) a' w') (l.take n) a) : (Code.region id l.toArray true).wp P Q a w:=by
 have hB0:=hB;simp only [tailB,Bool.and_eq_true,decide_eq_true_eq] at hB;obtain⟨⟨⟨⟨⟨hn,_⟩,_⟩,_⟩,_⟩,hlex⟩:=hB;simp only [Region.lexB,Bool.and_eq_true] at hlex;refine wp_region_any hm ?_;have hlen: (l.take n).length=n:=by simp;omega
 have h1:=wpAnyQ_lex (C:=fun w'=>∃x,w'=ext w x) (md:=.any) hlex.1 (l.take n) 0 (Array.replicate (l.take n).toArray.size false) a (by simp) (by simpa using hlex.2) h;rw [List.size_toArray,hlen] at h1;have h2:=wpAny_of_quiet (Q':=headPost P l.toArray Q (l.drop n)) (fun a' w' hw' hq=>hq w' hw') n _ a {w with drawn:=w.drawn+1} ⟨⟨#[],w.drawn+1⟩,by simp [ext]⟩ h1;have h3:=lift_head hB0 n (Array.replicate n false) (Array.replicate l.length false) a _ ⟨by simp,by simp,Nat.le_of_lt hn,fun i hi d=>by simp [hi,Nat.lt_trans hi hn],fun t _ ht=>by simp [ht],fun j o hj _ hl=>by simp [hj] at hl⟩ h2;rw [show n+ (l.length - n) =l.toArray.size by simp;omega] at h3
 simpa using h3
end
end
@[go_sem] theorem run_field_conf0 (w:World) (a b c:Int) : (Instr.field 24 (.agg #[.int .i64 a,.int .i64 b,.int .i64 c]) 0).run Tryz.prog w=.ok (.int .i64 a) w:=by kernel_rfl
@[go_sem] theorem run_field_conf1 (w:World) (a b c:Int) : (Instr.field 24 (.agg #[.int .i64 a,.int .i64 b,.int .i64 c]) 1).run Tryz.prog w=.ok (.int .i64 b) w:=by kernel_rfl
def isDig (l k K:Int) :Bool:=isPool K l && decide (1≤k∧k≤1048576)
def DigAt (w:World) (g K l:Nat) (k:Int) (r:List Nd) (F:Nat→Prop) :Prop:=
 1≤k∧k≤1048576∧∃p F0,F=footP g F0∧w.heap[g]? =some (.cells #[.int .i64 k,.pointer (some ⟨p,0,none⟩)] 121 (0,0))∧PoolAt w p K l r F0
theorem DigAt.keep {w w':World} {g K l:Nat} {k:Int} {r:List Nd} {F:Nat→Prop} (h:DigAt w g K l k r F) (hk: ∀b,F b→w'.heap[b]? =w.heap[b]?) :DigAt w' g K l k r F:=by
 obtain⟨h1,h2,p,F0,rfl,h3,h4⟩:=h;exact⟨h1,h2,p,F0,rfl,(hk g (.inl rfl)).trans h3,h4.keep fun q hq=>hk q (.inr hq)⟩
theorem DigAt.lt {w:World} {g K l:Nat} {k:Int} {r:List Nd} {F:Nat→Prop} (h:DigAt w g K l k r F) : ∀b,F b→b<w.heap.size:=by
 obtain⟨h1,h2,p,F0,rfl,h3,h4⟩:=h;rintro q (rfl|hq)
 ·exact lB h3
 ·exact h4.lt q hq
theorem DigAt.below {w w':World} {g K l:Nat} {k:Int} {r:List Nd} {F:Nat→Prop} (h:DigAt w g K l k r F) (hb:Below w.heap.size w w') :DigAt w' g K l k r F:=h.keep fun b hf=>hb.block b (h.lt b hf)
theorem DigAt.fits {w:World} {g K l:Nat} {k:Int} {r:List Nd} {F:Nat→Prop} (h:DigAt w g K l k r F) :Fits l r:=by
 obtain⟨h1,h2,p,F0,rfl,h3,h4⟩:=h;exact h4.fits
theorem DigAt.l_le {w:World} {g K l:Nat} {k:Int} {r:List Nd} {F:Nat→Prop} (h:DigAt w g K l k r F) :1≤l∧l≤48:=by
 obtain⟨h1,h2,p,F0,rfl,h3,h4⟩:=h;exact⟨h4.1,h4.2.1⟩
theorem pool_Kind (w:World) (g K l:Nat) (r:List Nd) (F:Nat→Prop) (h:PoolAt w g K l r F) :Calls Tryz.prog 123 #[.pointer (some ⟨g,0,none⟩)] w fun e w'=>e=.returned (.int .i64 K)∧Below w.heap.size w w':=by
 obtain⟨h1,h2,h3,p,F0,rfl,h4⟩:=h;rcases h4 with ⟨rfl,h16,hh,hd⟩ | ⟨rfl,hh,hd⟩
 ·have H:=LH hh
  clear hh hd
  go_enter Tryz.func123,Tryz.ntmps123
  go_wp2_with fail;refine(pool_isArray _ g p _ H.out).mono ?_;rintro e w1 ⟨rfl,hb1⟩;have B1:Below w.heap.size w w1:=Below.then_ bE hb1;have s1:=B1.size;go_wp2_with fail;go_ret;exact⟨rfl,bE⟩
 ·have H:=LH hh
  clear hh hd
  go_enter Tryz.func123,Tryz.ntmps123
  go_wp2_with fail;refine(pool_isArray_no _ g _ H.out).mono ?_;rintro e w1 ⟨rfl,hb1⟩;have B1:Below w.heap.size w w1:=Below.then_ bE hb1;have s1:=B1.size;go_wp2_with fail;go_ret;exact⟨rfl,bE⟩
theorem digest_New_no (w:World) (l k K:Int) (h:isDig l k K=false) :Calls Tryz.prog 148 #[.agg #[.int .i64 l,.int .i64 k,.int .i64 K]] w fun e w'=>e=.returned (.tuple #[.pointer none,.int .i64 2])∧Below w.heap.size w w':=by
 cases hp:isPool K l
 ·have HC:=LH (pool_New_no · K l hp)
  clear hp h
  go_enter Tryz.func148,Tryz.ntmps148
  go_wp2_with fail;refine(HC.out _).mono ?_;rintro e w1 ⟨rfl,hb1⟩;have B1:Below w.heap.size w w1:=Below.then_ bE hb1;have s1:=B1.size;have z1_0:w.heap.size<w1.heap.size:=by have:=hb1.size;(try simp at this);omega
  have y1_0:w.heap.size≤w1.heap.size:=Nat.le_of_lt z1_0;have c1_0:=czB hb1 (w.heap.size);have f1_0:=fzB hb1 (w.heap.size);go_wp2_with fail
  go_ret2
  exact⟨rfl,bE⟩
 ·have hk: ¬(1≤k∧k≤1048576):=by simpa [isDig,hp] using h
  have hp':=hp;simp only [isPool,decide_eq_true_eq] at hp';obtain⟨n,rfl⟩:=Int.eq_ofNat_of_zero_le (show 0≤l by omega);obtain⟨m,rfl⟩:=Int.eq_ofNat_of_zero_le (show 0≤K by omega);have HC:=LH (pool_New · m n hp);clear hp h hp';by_cases hk1:k<1
  ·clear hk
   go_enter Tryz.func148,Tryz.ntmps148
   go_wp2_with fail;refine(HC.out _).mono ?_;rintro e w1 ⟨g,F,rfl,_,_,hb1⟩;have B1:Below w.heap.size w w1:=Below.then_ bE hb1;have s1:=B1.size;have z1_0:w.heap.size<w1.heap.size:=by have:=hb1.size;(try simp at this);omega
   have y1_0:w.heap.size≤w1.heap.size:=Nat.le_of_lt z1_0;have c1_0:=czB hb1 (w.heap.size);have f1_0:=fzB hb1 (w.heap.size);go_wp2_with fail
   go_ret2
   exact⟨rfl,bE⟩
  ·have hk2:1048576<k:=by omega
   clear hk
   go_enter Tryz.func148,Tryz.ntmps148
   go_wp2_with fail;refine(HC.out _).mono ?_;rintro e w1 ⟨g,F,rfl,_,_,hb1⟩;have B1:Below w.heap.size w w1:=Below.then_ bE hb1;have s1:=B1.size;have z1_0:w.heap.size<w1.heap.size:=by have:=hb1.size;(try simp at this);omega
   have y1_0:w.heap.size≤w1.heap.size:=Nat.le_of_lt z1_0;have c1_0:=czB hb1 (w.heap.size);have f1_0:=fzB hb1 (w.heap.size);go_wp2_with fail
   go_ret2
   exact⟨rfl,bE⟩
def DigPost (K l:Nat) (k:Int) (r:List Nd) (w:World) (e:Ending) (w':World) :Prop:=∃g F,e=.returned (.tuple #[.pointer (some ⟨g,0,none⟩),.int .i64 0])∧DigAt w' g K l k r F∧(∀b,F b→w.heap.size≤b)∧Below w.heap.size w w'
theorem digest_New (w:World) (l K:Nat) (k:Int) (h:isDig l k K=true) :Calls Tryz.prog 148 #[.agg #[.int .i64 l,.int .i64 k,.int .i64 K]] w (DigPost K l k [] w):=by
 simp only [isDig,Bool.and_eq_true,decide_eq_true_eq] at h;obtain⟨hp,hk1,hk2⟩:=h;have HC:=LH (pool_New · K l hp);clear hp
 go_enter Tryz.func148,Tryz.ntmps148
 go_wp2_with fail;refine(HC.out _).mono ?_;rintro e w1 ⟨g,F,rfl,hP,hF,hb1⟩;have B1:Below w.heap.size w w1:=Below.then_ bE hb1;have s1:=B1.size;have z1_0:w.heap.size<w1.heap.size:=by have:=hb1.size;(try simp at this);omega
 have y1_0:w.heap.size≤w1.heap.size:=Nat.le_of_lt z1_0;have c1_0:=czB hb1 (w.heap.size);have f1_0:=fzB hb1 (w.heap.size);have HP:=LH hP;simp only [World.size_alloc] at hF;have HF:=LH hF;clear hP hF;go_wp2_with fail
 go_ret2
 refine⟨w1.heap.size,footP w1.heap.size F,rfl,⟨hk1,hk2,g,F,rfl,heap_new_at w1 _ _ rfl,HP.out.below ((Below.refl _ _).alloc (Nat.le_refl _) _)⟩,?_,bE⟩;rintro b (rfl|hb)
 ·exact s1
 ·have:=HF.out b hb;omega
def loadErr (l k K:Int) (r:List Nd) :Int:=if isDig l k K=false then 2 else if rightOf l r=false then 10 else if 8*k<r.length then 13 else if lightOf l r k=false then 13 else 0
theorem digest_Load (w:World) (l K:Nat) (k:Int) (A:Option Addr) (cap:Nat) (r:List Nd) (h:loadErr l k K r=0) (hS:Sl w w.heap.size encN A r) (hI:ints r) (hn:r.length<67108864) :
 Calls Tryz.prog 224 #[.agg #[.int .i64 l,.int .i64 k,.int .i64 K],.slice A r.length cap] w (DigPost K l k r w):=by
 have hd:isDig l k K=true:=by
  cases hd:isDig l k K
  ·simp only [loadErr] at h;rw [if_pos hd] at h;cases h
  ·rfl
 have hr:rightOf l r=true:=by
  cases hr:rightOf l r
  ·simp only [loadErr] at h;rw [if_neg (by simp [hd]),if_pos hr] at h;cases h
  ·rfl
 have h8: ¬8*k<r.length:=by
  intro h8;simp only [loadErr] at h;rw [if_neg (by simp [hd]),if_neg (by simp [hr]),if_pos h8] at h
  cases h
 have hl:lightOf l r k=true:=by
  cases hl:lightOf l r k
  ·simp only [loadErr] at h;rw [if_neg (by simp [hd]),if_neg (by simp [hr]),if_neg h8,if_pos hl] at h;cases h
  ·rfl
 have HC:=LH (digest_New · l K k hd);have HR:=LH (roll_Right · l A cap r · hI (by unfold maxLen;omega));have HS:=LH hS;have hpl:isPool K l=true:=by simp only [isDig,Bool.and_eq_true] at hd;exact hd.1
 have HL:=LH (pool_Load · K l A cap r hpl hr · hI hn);simp only [isDig,Bool.and_eq_true,decide_eq_true_eq] at hd;obtain⟨_,hk1,hk2⟩:=hd;rw [hr] at HR;have HLF:=LH hl;clear h hS hr hI hpl hl
 go_enter Tryz.func224,Tryz.ntmps224
 go_wp2_with fail;refine(HC.out _).mono ?_;rintro e w1 ⟨g,F,rfl,_,_,hb1⟩;have B1:Below w.heap.size w w1:=Below.then_ bE hb1;have s1:=B1.size;have z1_0:w.heap.size<w1.heap.size:=by have:=hb1.size;(try simp at this);omega
 have y1_0:w.heap.size≤w1.heap.size:=Nat.le_of_lt z1_0;have c1_0:=czB hb1 (w.heap.size);have f1_0:=fzB hb1 (w.heap.size);go_wp2_with fail;refine(HR.out _ (HS.out.keep s1 fun p hp=>B1.cell hp)).mono ?_;rintro e w2 ⟨rfl,hb2⟩;have B2:Below w.heap.size w w2:=Below.then_ bE hb2;have s2:=B2.size;have z2_0:w.heap.size<w2.heap.size:=by have:=hb2.size;(try simp at this);omega
 have y2_0:w.heap.size≤w2.heap.size:=Nat.le_of_lt z2_0;have c2_0:=czB hb2 (w.heap.size);have f2_0:=fzB hb2 (w.heap.size);go_wp2_with fail;refine(HL.out _ (HS.out.keep s2 fun p hp=>B2.cell hp)).mono ?_;rintro e w3 ⟨gp,Fp,rfl,hP,hF,hb3⟩;have B3:Below w.heap.size w w3:=Below.then_ bE hb3;have s3:=B3.size;have z3_0:w.heap.size<w3.heap.size:=by have:=hb3.size;(try simp at this);omega
 have y3_0:w.heap.size≤w3.heap.size:=Nat.le_of_lt z3_0;have c3_0:=czB hb3 (w.heap.size);have f3_0:=fzB hb3 (w.heap.size);have KP:=LH hP;have KF:=LH hF;clear hP hF;go_wp2_with fail;refine(press_Light _ gp K l r Fp k KP.out hk1 hk2 (by omega)).mono ?_;rintro e w4 ⟨rfl,hb4⟩;have B4:Below w.heap.size w w4:=Below.then_ bE hb4;have s4:=B4.size;have z4_0:w.heap.size<w4.heap.size:=by have:=hb4.size;(try simp at this);omega
 have y4_0:w.heap.size≤w4.heap.size:=Nat.le_of_lt z4_0;have c4_0:=czB hb4 (w.heap.size);have f4_0:=fzB hb4 (w.heap.size);rw [HLF.out];have KP4:=LH (KP.out.below hb4);clear KP;go_wp2_with fail
 go_ret2
 refine⟨w4.heap.size,footP w4.heap.size Fp,rfl,⟨hk1,hk2,gp,Fp,rfl,heap_new_at w4 _ _ rfl,KP4.out.below ((Below.refl _ _).alloc (Nat.le_refl _) _)⟩,?_,bE⟩;rintro b (rfl|hb)
 ·exact s4
 ·have:=KF.out b hb;omega
theorem digest_N (w:World) (g K l:Nat) (k:Int) (r:List Nd) (F:Nat→Prop) (h:DigAt w g K l k r F) :Calls Tryz.prog 32 #[.pointer (some ⟨g,0,none⟩)] w fun e w'=>e=.returned (.int .i64 (sumR r))∧Below w.heap.size w w':=by
 obtain⟨h1,h2,p,F0,rfl,hh,hP⟩:=h;have c:=bC hh;have z:=lB hh;have HP:=LH hP;clear hh hP
 go_enter Tryz.func32,Tryz.ntmps32
 go_wp2_with fail;refine(pool_Total _ p K l r F0 HP.out).mono ?_;rintro e w1 ⟨rfl,hb1⟩;have B1:Below w.heap.size w w1:=Below.then_ bE hb1;have s1:=B1.size;go_wp2_with fail;go_ret;exact⟨rfl,bE⟩
theorem digest_Nodes (w:World) (g K l:Nat) (k:Int) (r:List Nd) (F:Nat→Prop) (h:DigAt w g K l k r F) (hn:r.length≤67108864) :Calls Tryz.prog 89 #[.pointer (some ⟨g,0,none⟩)] w (OwnPost 216 encN r w):=by
 obtain⟨h1,h2,p,F0,rfl,hh,hP⟩:=h;have c:=bC hh;have z:=lB hh;have HP:=LH hP;clear hh hP
 go_enter Tryz.func89,Tryz.ntmps89
 go_wp2_with fail;refine(pool_Snap _ p K l r F0 HP.out hn).mono ?_;rintro e w1 ⟨v,rfl,ho,hb⟩;have HO:=LH ho;clear ho;go_wp2_with fail;go_ret;exact⟨_,rfl,HO.out,hb⟩
theorem digest_Conf (w:World) (g K l:Nat) (k:Int) (r:List Nd) (F:Nat→Prop) (h:DigAt w g K l k r F) :Calls Tryz.prog 59 #[.pointer (some ⟨g,0,none⟩)] w fun e w'=>e=.returned (.agg #[.int .i64 l,.int .i64 k,.int .i64 K])∧Below w.heap.size w w':=by
 obtain⟨h1,h2,p,F0,rfl,hh,hP⟩:=h;have c:=bC hh;have z:=lB hh;have hPA:=hP.below ((Below.refl w.heap.size w).alloc (Nat.le_refl _) (.cells #[.int .i64 0,.int .i64 0,.int .i64 0] 24));have HP:=LH hPA;clear hh hP hPA
 go_enter Tryz.func59,Tryz.ntmps59
 go_wp2_with fail;refine wp_region_tail 18 (by kernel_rfl) (by kernel_rfl) ?_;simp only [List.take_succ_cons,List.take_zero,List.drop_succ_cons,List.drop_zero]
 repeat (go_big_quiet_step (first| (go_at_call 122;exact quiet_ext (pool_L _ p K l r F0 (HP.out.below (ext_below _ _)))) | (go_at_call 123;exact quiet_ext (pool_Kind _ p K l r F0 (HP.out.below (ext_below _ _))))))
 refine wpQuiet_nil ?_;intro w1 hb1;replace hb1:=bX hb1;have B1:Below w.heap.size w w1:=Below.then_ bE hb1;have s1:=B1.size;have z1_0:w.heap.size<w1.heap.size:=by have:=hb1.size;(try simp at this);omega
 have y1_0:w.heap.size≤w1.heap.size:=Nat.le_of_lt z1_0;have c1_0:=czB hb1 (w.heap.size);have f1_0:=fzB hb1 (w.heap.size);go_wp2_with fail;exact bR (v:=.agg #[.int .i64 l,.int .i64 k,.int .i64 K]) (by simp only [results,Tryz.results59];go_simp) rfl ⟨rfl,bE⟩
def weighR (l:Int) (f:Int→Int→Bool) :List Nd→Int
 | []=>0
 |x :: r=>(if f (endsOf l x.1).1 (endsOf l x.1).2.1=true then x.2 else 0) +weighR l f r
def lowOf (l:Int) (r:List Nd) (y:Int) :Int:=weighR l (fun _ hi=>decide (hi≤y)) r
def highOf (l:Int) (r:List Nd) (y:Int) :Int:=weighR l (fun lo _=>decide (lo≤y)) r
theorem weighR_append (l:Int) (f:Int→Int→Bool) (a b:List Nd) :weighR l f (a ++ b) =weighR l f a+weighR l f b:=by
 induction a with
 |nil=>simp [weighR]
 |cons x a ih=>simp only [List.cons_append,weighR,ih];omega
theorem weighR_le {l:Int} {f:Int→Int→Bool} {r:List Nd} (h:Roll r) :0≤weighR l f r∧weighR l f r≤sumR r:=by
 induction r with
 |nil=>simp [weighR,sumR]
 |cons x r ih=>
  have:=ih h.tail;have hx:=h.2 x (by simp);simp only [weighR,sumR]
  split <;> omega
theorem rank_Low1 (w:World) (lo hi y:Int) (b:Nat) (hb:w.cell? ⟨b,0,none⟩ =some (.int .i64 y)) :Calls Tryz.prog 125 #[.int .i64 lo,.int .i64 hi,.pointer (some ⟨b,0,none⟩)] w fun e w'=>e=.returned (.bool (decide (hi≤y)))∧Below w.heap.size w w':=by
 go_enter Tryz.func125,Tryz.ntmps125
 go_wp2_with fail;go_ret;exact⟨rfl,bE⟩
theorem weigh_Low (w:World) (g K l:Nat) (k:Int) (r:List Nd) (F:Nat→Prop) (y:Int) (b:Nat) (h:DigAt w g K l k r F) (hn:r.length≤67108864) (hb:w.cell? ⟨b,0,none⟩ =some (.int .i64 y)) :
 Calls Tryz.prog 124 #[.pointer (some ⟨g,0,none⟩),.func (.func 125) #[] #[.pointer (some ⟨b,0,none⟩)]] w fun e w'=>e=.returned (.int .i64 (lowOf l r y))∧Below w.heap.size w w':=by
 have hf:=h.fits;have hll:=h.l_le;have HD:=LH h;have zb:=lt_of_cell hb;have HBc:=LH hb;clear h hb
 go_enter Tryz.func124,Tryz.ntmps124
 go_wp2_with fail;refine(digest_Conf _ g K l k r F HD.out).mono ?_;rintro e w1 ⟨rfl,hb1⟩;have B1:Below w.heap.size w w1:=Below.then_ bE hb1;have s1:=B1.size;go_wp2_with fail;refine(digest_Nodes _ g K l k r F (HD.out.below B1) hn).mono ?_;rintro e w2 ⟨v,rfl,ho,hb2⟩;have B2:=B1.trans (hb2.mono s1);have s2:=hb2.size;obtain⟨A,cap,rfl,_,_,hS,_⟩:=ho.form;have HS:=LH hS;have HB2:=LH B2;have HBc2:=LH ((B2.cell (p:=⟨b,0,none⟩) zb).trans HBc.out);have zb2:b<w2.heap.size:=by have:=B2.size;omega
 clear ho hS hb1 hb2 B1 B2;go_wp2_with fail
 go_loopw [5,18] (fun n i wr=>∃q:Nat,q≤r.length∧i=.int .i64 q∧n=.int .i64 (lowOf l (r.take q) y)∧Below w2.heap.size w2 wr) (fun _ i _=>r.length - (intOf i).toNat)
 case atStart=>exact⟨0,Nat.zero_le _,rfl,rfl,Below.refl _ _⟩
 case round=>
  obtain⟨q,hq,rfl,rfl,hB⟩:=hrel;have hs:=hB.size;have hBw:Below w.heap.size w wr:=HB2.out.trans (hB.mono HB2.out.size);by_cases hlt:q<r.length
  ·obtain⟨c,off,rfl,hc,hcl⟩:=(HS.out.below hB).at_ hlt
   have d0:=hcl 0 (.int .i64 r[q].1) rfl;have d1:=hcl 1 (.int .i64 r[q].2) rfl;simp only [Nat.add_zero] at d0;have hx:=hf.roll.2 _ (List.getElem_mem hlt);have hxl:=hf.lt _ (List.getElem_mem hlt);have e1:=sumR_take_succ hlt;have e2:=sumR_take_le hf.roll (q+1);have e3:=hf.sum;have e5:=weighR_le (l:=l) (f:=fun _ hi=>decide (hi≤y)) (hf.roll.take q)
   have e6:lowOf l (r.take (q+1)) y=lowOf l (r.take q) y+lowOf l [r[q]] y:=by
    unfold lowOf;rw [List.take_succ_eq_append_getElem hlt,weighR_append]
   have hp:=pow_48 (n:=l) hll.2;obtain⟨x,hxe⟩ : ∃x,x=r[q]:=⟨_,rfl⟩;rw [←hxe] at d0 d1 hx hxl e1 e6;have e7:lowOf l [x] y=if decide ((endsOf l x.1).2.1≤y) =true then x.2 else 0:=by simp only [lowOf,weighR];simp
   have n0:0≤lowOf l (r.take q) y:=e5.1;have n1:lowOf l (r.take q) y+x.2≤72057594037927935:=by have:=e5.2;unfold lowOf;omega
   have E6:=LH e6;have E7:=LH e7;have hx1:x.1≤562949953421312:=by omega
   generalize lowOf l (r.take q) y=m at n0 n1 E6⊢;clear hcl e1 e2 e3 e5 e6 e7 hxe hxl hp;go_wp2_with fail;refine(twig_Ends _ l x.1 (by omega)).mono ?_;rintro e w3 ⟨rfl,hb3⟩;have B3:Below w.heap.size w w3:=Below.then_ bE hb3;have s3:=B3.size;have z3_0:wr.heap.size<w3.heap.size:=by have:=hb3.size;(try simp at this);omega
   have y3_0:wr.heap.size≤w3.heap.size:=Nat.le_of_lt z3_0;have c3_0:=czB hb3 (wr.heap.size);have f3_0:=fzB hb3 (wr.heap.size);generalize endsOf l x.1=t at E7⊢;obtain⟨t1,t2,t3⟩:=t;unfold endsV;have cb3:=(hb3.cell (p:=⟨b,0,none⟩) (by simp only [World.size_alloc];omega)).trans (((Below.refl wr.heap.size wr).alloc (Nat.le_refl _) (.cells #[.int .i64 x.1,.int .i64 x.2] 216)).cell (p:=⟨b,0,none⟩) (by simp only;omega) |>.trans ((hB.cell (p:=⟨b,0,none⟩) zb2).trans HBc2.out));have W3:Below w2.heap.size w2 w3:=(hB.alloc hs _).trans (hb3.mono (Nat.le_trans hs (by simp)));have z3:=hb3.size;go_wp2_with fail;refine(rank_Low1 _ t1 t2 y b cb3).mono ?_;rintro e w4 ⟨rfl,hb4⟩;have z4:wr.heap.size<w4.heap.size:=Nat.lt_of_lt_of_le z3_0 hb4.size;have c4:=fun o=>(hb4.cell (p:=⟨wr.heap.size,o,none⟩) z3_0).trans (c3_0 o);have W4:=W3.trans (hb4.mono (by have:=W3.size;exact this));by_cases hle:t2≤y
   ·have E8:=LH (show lowOf l (r.take (q+1)) y=m+x.2 by rw [E6.out,E7.out,if_pos (by simpa using hle)])
    go_wp2_with fail;go_roundw
    case rel=>exact⟨q+1,by omega,by go_num,by rw [E8.out],W4⟩
    case measure=>simp [intOf];omega
   ·have E8:=LH (show lowOf l (r.take (q+1)) y=m by rw [E6.out,E7.out,if_neg (by simpa using hle)];omega)
    go_wp2_with fail;go_roundw
    case rel=>exact⟨q+1,by omega,by go_num,by rw [E8.out],W4⟩
    case measure=>simp [intOf];omega
  ·obtain rfl:q=r.length:=by omega
   rw [List.take_length];go_wp2_with fail;go_ret;exact⟨rfl,HB2.out.trans (hB.mono HB2.out.size)⟩
theorem rank_Low (w:World) (g K l:Nat) (k:Int) (r:List Nd) (F:Nat→Prop) (y:Int) (h:DigAt w g K l k r F) (hn:r.length≤67108864) :
 Calls Tryz.prog 60 #[.pointer (some ⟨g,0,none⟩),.int .i64 y] w fun e w'=>e=.returned (.int .i64 (lowOf l r y))∧Below w.heap.size w w':=by
 have HD:=LH (h.below ((Below.refl w.heap.size w).alloc (Nat.le_refl _) (.cells #[.int .i64 y] 3)));clear h
 go_enter Tryz.func60,Tryz.ntmps60
 go_wp2_with fail;refine(weigh_Low _ g K l k r F y w.heap.size HD.out hn (by go_simp)).mono ?_;rintro e w1 ⟨rfl,hb1⟩;have B1:Below w.heap.size w w1:=Below.then_ bE hb1;have s1:=B1.size;go_wp2_with fail;go_ret;exact⟨rfl,bE⟩
theorem rank_High1 (w:World) (lo hi y:Int) (b:Nat) (hb:w.cell? ⟨b,0,none⟩ =some (.int .i64 y)) :Calls Tryz.prog 126 #[.int .i64 lo,.int .i64 hi,.pointer (some ⟨b,0,none⟩)] w fun e w'=>e=.returned (.bool (decide (lo≤y)))∧Below w.heap.size w w':=by
 go_enter Tryz.func126,Tryz.ntmps126
 go_wp2_with fail;go_ret;exact⟨rfl,bE⟩
theorem weigh_High (w:World) (g K l:Nat) (k:Int) (r:List Nd) (F:Nat→Prop) (y:Int) (b:Nat) (h:DigAt w g K l k r F) (hn:r.length≤67108864) (hb:w.cell? ⟨b,0,none⟩ =some (.int .i64 y)) :
 Calls Tryz.prog 124 #[.pointer (some ⟨g,0,none⟩),.func (.func 126) #[] #[.pointer (some ⟨b,0,none⟩)]] w fun e w'=>e=.returned (.int .i64 (highOf l r y))∧Below w.heap.size w w':=by
 have hf:=h.fits;have hll:=h.l_le;have HD:=LH h;have zb:=lt_of_cell hb;have HBc:=LH hb;clear h hb
 go_enter Tryz.func124,Tryz.ntmps124
 go_wp2_with fail;refine(digest_Conf _ g K l k r F HD.out).mono ?_;rintro e w1 ⟨rfl,hb1⟩;have B1:Below w.heap.size w w1:=Below.then_ bE hb1;have s1:=B1.size;go_wp2_with fail;refine(digest_Nodes _ g K l k r F (HD.out.below B1) hn).mono ?_;rintro e w2 ⟨v,rfl,ho,hb2⟩;have B2:=B1.trans (hb2.mono s1);have s2:=hb2.size;obtain⟨A,cap,rfl,_,_,hS,_⟩:=ho.form;have HS:=LH hS;have HB2:=LH B2;have HBc2:=LH ((B2.cell (p:=⟨b,0,none⟩) zb).trans HBc.out);have zb2:b<w2.heap.size:=by have:=B2.size;omega
 clear ho hS hb1 hb2 B1 B2;go_wp2_with fail
 go_loopw [5,18] (fun n i wr=>∃q:Nat,q≤r.length∧i=.int .i64 q∧n=.int .i64 (highOf l (r.take q) y)∧Below w2.heap.size w2 wr) (fun _ i _=>r.length - (intOf i).toNat)
 case atStart=>exact⟨0,Nat.zero_le _,rfl,rfl,Below.refl _ _⟩
 case round=>
  obtain⟨q,hq,rfl,rfl,hB⟩:=hrel;have hs:=hB.size;have hBw:Below w.heap.size w wr:=HB2.out.trans (hB.mono HB2.out.size);by_cases hlt:q<r.length
  ·obtain⟨c,off,rfl,hc,hcl⟩:=(HS.out.below hB).at_ hlt
   have d0:=hcl 0 (.int .i64 r[q].1) rfl;have d1:=hcl 1 (.int .i64 r[q].2) rfl;simp only [Nat.add_zero] at d0;have hx:=hf.roll.2 _ (List.getElem_mem hlt);have hxl:=hf.lt _ (List.getElem_mem hlt);have e1:=sumR_take_succ hlt;have e2:=sumR_take_le hf.roll (q+1);have e3:=hf.sum;have e5:=weighR_le (l:=l) (f:=fun lo _=>decide (lo≤y)) (hf.roll.take q)
   have e6:highOf l (r.take (q+1)) y=highOf l (r.take q) y+highOf l [r[q]] y:=by
    unfold highOf;rw [List.take_succ_eq_append_getElem hlt,weighR_append]
   have hp:=pow_48 (n:=l) hll.2;obtain⟨x,hxe⟩ : ∃x,x=r[q]:=⟨_,rfl⟩;rw [←hxe] at d0 d1 hx hxl e1 e6;have e7:highOf l [x] y=if decide ((endsOf l x.1).1≤y) =true then x.2 else 0:=by simp only [highOf,weighR];simp
   have n0:0≤highOf l (r.take q) y:=e5.1;have n1:highOf l (r.take q) y+x.2≤72057594037927935:=by have:=e5.2;unfold highOf;omega
   have E6:=LH e6;have E7:=LH e7;have hx1:x.1≤562949953421312:=by omega
   generalize highOf l (r.take q) y=m at n0 n1 E6⊢;clear hcl e1 e2 e3 e5 e6 e7 hxe hxl hp;go_wp2_with fail;refine(twig_Ends _ l x.1 (by omega)).mono ?_;rintro e w3 ⟨rfl,hb3⟩;have B3:Below w.heap.size w w3:=Below.then_ bE hb3;have s3:=B3.size;have z3_0:wr.heap.size<w3.heap.size:=by have:=hb3.size;(try simp at this);omega
   have y3_0:wr.heap.size≤w3.heap.size:=Nat.le_of_lt z3_0;have c3_0:=czB hb3 (wr.heap.size);have f3_0:=fzB hb3 (wr.heap.size);generalize endsOf l x.1=t at E7⊢;obtain⟨t1,t2,t3⟩:=t;unfold endsV;have cb3:=(hb3.cell (p:=⟨b,0,none⟩) (by simp only [World.size_alloc];omega)).trans (((Below.refl wr.heap.size wr).alloc (Nat.le_refl _) (.cells #[.int .i64 x.1,.int .i64 x.2] 216)).cell (p:=⟨b,0,none⟩) (by simp only;omega) |>.trans ((hB.cell (p:=⟨b,0,none⟩) zb2).trans HBc2.out));have W3:Below w2.heap.size w2 w3:=(hB.alloc hs _).trans (hb3.mono (Nat.le_trans hs (by simp)));have z3:=hb3.size;go_wp2_with fail;refine(rank_High1 _ t1 t2 y b cb3).mono ?_;rintro e w4 ⟨rfl,hb4⟩;have z4:wr.heap.size<w4.heap.size:=Nat.lt_of_lt_of_le z3_0 hb4.size;have c4:=fun o=>(hb4.cell (p:=⟨wr.heap.size,o,none⟩) z3_0).trans (c3_0 o);have W4:=W3.trans (hb4.mono (by have:=W3.size;exact this));by_cases hle:t1≤y
   ·have E8:=LH (show highOf l (r.take (q+1)) y=m+x.2 by rw [E6.out,E7.out,if_pos (by simpa using hle)])
    go_wp2_with fail;go_roundw
    case rel=>exact⟨q+1,by omega,by go_num,by rw [E8.out],W4⟩
    case measure=>simp [intOf];omega
   ·have E8:=LH (show highOf l (r.take (q+1)) y=m by rw [E6.out,E7.out,if_neg (by simpa using hle)];omega)
    go_wp2_with fail;go_roundw
    case rel=>exact⟨q+1,by omega,by go_num,by rw [E8.out],W4⟩
    case measure=>simp [intOf];omega
  ·obtain rfl:q=r.length:=by omega
   rw [List.take_length];go_wp2_with fail;go_ret;exact⟨rfl,HB2.out.trans (hB.mono HB2.out.size)⟩
theorem rank_High (w:World) (g K l:Nat) (k:Int) (r:List Nd) (F:Nat→Prop) (y:Int) (h:DigAt w g K l k r F) (hn:r.length≤67108864) :
 Calls Tryz.prog 61 #[.pointer (some ⟨g,0,none⟩),.int .i64 y] w fun e w'=>e=.returned (.int .i64 (highOf l r y))∧Below w.heap.size w w':=by
 have HD:=LH (h.below ((Below.refl w.heap.size w).alloc (Nat.le_refl _) (.cells #[.int .i64 y] 3)));clear h
 go_enter Tryz.func61,Tryz.ntmps61
 go_wp2_with fail;refine(weigh_High _ g K l k r F y w.heap.size HD.out hn (by go_simp)).mono ?_;rintro e w1 ⟨rfl,hb1⟩;have B1:Below w.heap.size w w1:=Below.then_ bE hb1;have s1:=B1.size;go_wp2_with fail;go_ret;exact⟨rfl,bE⟩
theorem ref2_Power (w:World) (n:Nat) (hn:n≤62) :Calls Tryz.prog 46 #[.int .i64 n] w fun e w'=>e=.returned (.int .i64 (2^n))∧Below w.heap.size w w':=by
 go_enter Tryz.func46,Tryz.ntmps46
 go_wp2_with fail
 go_loop [3,4] (fun p i=>∃j q:Nat,j≤n∧i=.int .i64 j∧p=.int .i64 q∧q=2^j) (fun _ i=>n - (intOf i).toNat)
 case atStart=>exact⟨0,1,by omega,rfl,rfl,rfl⟩
 case round=>
  obtain⟨j,q,hj,rfl,rfl,hq⟩:=hrel;by_cases hlt:j<n
  ·have h1:2^j≤2^61:=Nat.pow_le_pow_right (by decide) (by omega)
   have h2:q≤2305843009213693952:=by rw [hq];simpa using h1
   have HQ:=LH hq;clear hq h1;go_wp2_with fail
   go_round
   case rel=>exact⟨j+1,2*q,by omega,by go_num,by go_num,by rw [HQ.out,Nat.pow_succ,Nat.mul_comm]⟩
   case measure=>simp [intOf];omega
  ·obtain rfl:j=n:=by omega
   have HQ:=LH hq;clear hq;go_wp2_with fail;go_ret;exact⟨ret_int (by rw [HQ.out];simp),bE⟩
def lastR (l:List Nd) (k:Nat) :Int:=if k=0 then 0 else (l[k - 1]?.getD (0,0)).1
def refDig (k l:Int) (A:Option Addr) (n cap:Nat) :Value:=.agg #[.int .i64 k,.int .i64 l,.slice A n cap]
def refLoadV (l k K:Int) (A:Option Addr) (r:List Nd) (cap:Nat) :Value:=if loadErr l k K r=0 then .tuple #[refDig k l A r.length cap,.int .i64 0] else .tuple #[refDig 0 0 none 0 0,.int .i64 (loadErr l k K r)]
theorem slice_of_trod {α:Type} [Inhabited α] {size:Nat} (E:Enc α size) (ok:α→Prop) {t e:TypeId} (ht: (Tryz.prog).underlying t=some (.slice e)) (hC: (Tryz.prog).cellsOf e=size) (hs:0<size)
 {H:Type} {enc:TypeId×Value→H} {w:World} {base:Nat} {spare:Nat→Bool} {held:Bool} {fuel:Nat} {cs:List Value} {x:DataW H×List MemPlace}
 (el: ∀(fuel:Nat) (cs:List Value) (x:DataW H×List MemPlace),DataW.trod enc Tryz.prog w base spare held fuel e cs=some x→∃o:α,cs=E.enc o∧ok o) (h:DataW.trod enc Tryz.prog w base spare held fuel t cs=some x) :
 ∃(l:List α) (A:Option Addr) (cap:Nat),cs= [.slice A l.length cap]∧Sl w w.heap.size E A l∧(∀o∈l,ok o)∧l.length≤maxLen:=by
 rcases Deep.open_slice ht h with ⟨hcs,_⟩ | ⟨a,len,cap,m,n,D,Pl,hcs,_,hl,hm,hmm,_,hx⟩
 ·exact⟨[],none,0,hcs,.nil,by simp,by simp⟩
 ·subst hcs
  have hle:len≤m:=by rw [hmm];split <;> omega
  have each: ∀i,i<len→∃o:α,ok o∧∀j u,(E.enc o)[j]? =some u→w.cell? (a.add (i*size+j)) =some u:=by
   intro i hi;obtain⟨cs',hc,ht'⟩:=hx i (by omega);rw [hC] at hc;obtain⟨o,rfl,hk⟩:=el _ _ _ ht';obtain⟨_,hcl,hat⟩:=World.cells?_some hc;refine⟨o,hk,fun j u hj=> ?_⟩;have hj6:j<size:=by have:=(List.getElem?_eq_some_iff.1 hj).1;rwa [E.len] at this
   rw [←Go.Deep.add_add,hat j hj6,hj]
  obtain⟨f,hF⟩:=Deep.choose_lt each;refine⟨(List.range len).map f,some a,cap,by simp,?_,?_,by simp;omega⟩
  ·by_cases h0:len=0
   ·subst h0;exact .inl rfl
   ·obtain⟨b,off,spot⟩:=a
    obtain⟨u0,hu0⟩ : ∃u,(E.enc (f 0))[0]? =some u:=⟨_,List.getElem?_eq_getElem (by rw [E.len];exact hs)⟩;have hc0:=(hF 0 (by omega)).2 0 _ hu0;have hspot:spot=none:=by simpa [Addr.add] using World.cell?_spot hc0
    subst hspot
    have hb:b<w.heap.size:=by
     simp only [add_plain,Nat.zero_mul,Nat.add_zero] at hc0;exact lt_of_cell hc0
    refine .inr ⟨b,off,rfl,hb,fun i x hi j u hj=> ?_⟩
    have hlt:i<len:=by
     have:=(List.getElem?_eq_some_iff.1 hi).1
     simpa using this
    simp [hlt] at hi
    subst hi;have:=(hF i hlt).2 j u hj;rw [add_plain,←Nat.add_assoc] at this;exact this
  ·intro o ho
   obtain⟨i,hi,rfl⟩:=List.mem_map.1 ho;exact(hF i (List.mem_range.1 hi)).1
theorem i64_of_wf {n:Int} (h: (Lit.int .i64 n).wf=true) :i64 n:=by
 simp only [Lit.wf,Bool.and_eq_true,decide_eq_true_eq] at h;have hmn:IntKind.i64.min= -9223372036854775808:=by decide
 have hmx:IntKind.i64.max=9223372036854775807:=by decide
 rw [hmn,hmx] at h;exact h
section
variable {H:Type} {enc:TypeId×Value→H} {w:World} {base:Nat} {spare:Nat→Bool} {held:Bool} {fuel:Nat} {cs:List Value} {x:DataW H×List MemPlace}
theorem conf_of_trod (h:DataW.trod enc Tryz.prog w base spare held fuel 24 cs=some x) : ∃l k K:Int,cs= [.int .i64 l,.int .i64 k,.int .i64 K]∧i64 l∧i64 k∧i64 K:=by
 obtain⟨xs,n,_,_,hlen,hxl,hf⟩:=DataW.trod_struct Tryz.underlying24 h;have hC: (Tryz.prog).cellsOf 24=3:=by kernel_rfl
 have hCi: (Tryz.prog).cellsOf 3=1:=by kernel_rfl
 rw [hC] at hlen
 match cs,hlen with
 | [c0,c1,c2],_=>
  match xs,hxl with
  | [y0,y1,y2],_=>
   have g0:DataW.trod enc Tryz.prog w base spare held n 3 (([c0,c1,c2].drop 0).take ((Tryz.prog).cellsOf 3)) =some y0:=hf 0 _ rfl;have g1:DataW.trod enc Tryz.prog w base spare held n 3 (([c0,c1,c2].drop 1).take ((Tryz.prog).cellsOf 3)) =some y1:=hf 1 _ rfl;have g2:DataW.trod enc Tryz.prog w base spare held n 3 (([c0,c1,c2].drop 2).take ((Tryz.prog).cellsOf 3)) =some y2:=hf 2 _ rfl;simp only [hCi] at g0 g1 g2;obtain⟨k,e0,_,k0⟩:=DataW.trod_int Tryz.underlying3 g0;obtain⟨i,e1,_,k1⟩:=DataW.trod_int Tryz.underlying3 g1;obtain⟨j,e2,_,k2⟩:=DataW.trod_int Tryz.underlying3 g2;simp at e0 e1 e2
   subst e0 e1 e2;exact⟨k,i,j,rfl,i64_of_wf k0,i64_of_wf k1,i64_of_wf k2⟩
end
def loadedV (l k K:Int) (A:Option Addr) (n cap:Nat) :Value:=.agg #[.int .i64 l,.int .i64 k,.int .i64 K,.slice A n cap]
theorem u8_of_wf {n:Int} (h: (Lit.int .u8 n).wf=true) :0≤n∧n<256:=by
 simp only [Lit.wf,Bool.and_eq_true,decide_eq_true_eq] at h;have hmn:IntKind.u8.min=0:=by decide
 have hmx:IntKind.u8.max=255:=by decide
 rw [hmn,hmx] at h;omega
section
variable {H:Type} {enc:TypeId×Value→H} {w:World} {base:Nat} {spare:Nat→Bool} {held:Bool} {fuel:Nat} {cs:List Value} {x:DataW H×List MemPlace}
theorem step_of_trod (h:DataW.trod enc Tryz.prog w base spare held fuel 37 cs=some x) :
 ∃(a b c d e f:Int),cs= [.int .i64 a,.int .i64 b,.int .i64 c,.int .i64 d,.int .i64 e,.int .u8 f]∧i64 a∧i64 b∧i64 c∧i64 d∧i64 e∧0≤f∧f<256:=by
 obtain⟨xs,n,_,_,hlen,hxl,hf⟩:=DataW.trod_struct Tryz.underlying37 h;have hC: (Tryz.prog).cellsOf 37=6:=by kernel_rfl
 have hCi: (Tryz.prog).cellsOf 3=1:=by kernel_rfl
 have hCu: (Tryz.prog).cellsOf 5=1:=by kernel_rfl
 rw [hC] at hlen
 match cs,hlen with
 | [c0,c1,c2,c3,c4,c5],_=>
  match xs,hxl with
  | [y0,y1,y2,y3,y4,y5],_=>
   have g0:DataW.trod enc Tryz.prog w base spare held n 3 (([c0,c1,c2,c3,c4,c5].drop 0).take ((Tryz.prog).cellsOf 3)) =some y0:=hf 0 _ rfl;have g1:DataW.trod enc Tryz.prog w base spare held n 3 (([c0,c1,c2,c3,c4,c5].drop 1).take ((Tryz.prog).cellsOf 3)) =some y1:=hf 1 _ rfl;have g2:DataW.trod enc Tryz.prog w base spare held n 3 (([c0,c1,c2,c3,c4,c5].drop 2).take ((Tryz.prog).cellsOf 3)) =some y2:=hf 2 _ rfl;have g3:DataW.trod enc Tryz.prog w base spare held n 3 (([c0,c1,c2,c3,c4,c5].drop 3).take ((Tryz.prog).cellsOf 3)) =some y3:=hf 3 _ rfl;have g4:DataW.trod enc Tryz.prog w base spare held n 3 (([c0,c1,c2,c3,c4,c5].drop 4).take ((Tryz.prog).cellsOf 3)) =some y4:=hf 4 _ rfl;have g5:DataW.trod enc Tryz.prog w base spare held n 5 (([c0,c1,c2,c3,c4,c5].drop 5).take ((Tryz.prog).cellsOf 5)) =some y5:=hf 5 _ rfl;rw [hCi] at g0 g1 g2 g3 g4;rw [hCu] at g5;obtain⟨a,e0,_,k0⟩:=DataW.trod_int Tryz.underlying3 g0;obtain⟨b,e1,_,k1⟩:=DataW.trod_int Tryz.underlying3 g1;obtain⟨c,e2,_,k2⟩:=DataW.trod_int Tryz.underlying3 g2;obtain⟨d,e3,_,k3⟩:=DataW.trod_int Tryz.underlying3 g3;obtain⟨e,e4,_,k4⟩:=DataW.trod_int Tryz.underlying3 g4;obtain⟨f,e5,_,k5⟩:=DataW.trod_int Tryz.underlying5 g5;simp at e0 e1 e2 e3 e4 e5
   subst e0 e1 e2 e3 e4 e5;exact⟨a,b,c,d,e,f,rfl,i64_of_wf k0,i64_of_wf k1,i64_of_wf k2,i64_of_wf k3,i64_of_wf k4,u8_of_wf k5⟩
end
def stepV (a b c d e f:Int) :Value:=.agg #[.int .i64 a,.int .i64 b,.int .i64 c,.int .i64 d,.int .i64 e,.int .u8 f]
end Go.Proofs.YtmdidmclfbfmiaaGreatDoor
