/-
  Texts of this proof, one behind the other: Base, Mem, Turn, Wave, TurnedB, WaveSpoil, Arith, Roll, Make, Dense, Vary, Rises, VaryLaw, Seal, Ref22.
-/
import Derived.Test.YtlgnakobjkhmhaaGreatDoorRows
import Derived.WalkKit
import Derived.WalkLawsBesides
import Derived.ProofKit
import Derived.OpenShut
import Derived.Below
import Derived.Lib.Hide
import Derived.BigQuiet
import Derived.Deep.DeepMust
import Derived.Outline
import Derived.Maps.AppendAt
import Derived.Deep.AppendLies
import Derived.Laws.OwnMore
import Derived.Deep.SlicePairs
import Derived.Deep.Fields
import Derived.ChangeSame
import Derived.OwnWalk
import Derived.Deep.RegionHeld3
import Derived.Deep.RegionLaw
import Derived.Deep.DrawnRows
import Derived.Lib.ConvBytes
import Derived.Laws.BytesArg
import Derived.Test.YtlgnakobjkhmhaaGreatDoorShelf
import Derived.Lib.ItoaNum
import Derived.Laws.BitsLemmas
import Derived.Laws.IdiomStrings
import Derived.Laws.Concat
import Derived.RegionTactic
import Derived.ChangeAlike
set_option linter.unusedVariables false
set_option linter.unusedSimpArgs false
set_option maxRecDepth 100000
set_option maxHeartbeats 16000000
namespace Go.Proofs.YtlgnakobjkhmhaaGreatDoor
open Go.ChangeShapes Go.WideShapes Go.ChangeAt Go.RowKit
theorem ret_bool {a b:Bool} (h:a=b) :Ending.returned (.bool a) =.returned (.bool b):=by rw [h]
theorem ret_int {k:IntKind} {a b:Int} (h:a=b) :Ending.returned (.int k a) =.returned (.int k b):=by rw [h]
theorem Below.then_ {w W w1:World} (h:Below w.heap.size w W) (hb:Below W.heap.size W w1) :Below w.heap.size w w1:=h.trans (hb.mono h.size)
theorem Below.allocW {w w':World} (h:Below w.heap.size w w') (o:Obj) :Below w.heap.size w (w'.alloc o):=h.alloc h.size o
structure Ext where
 new:Array Obj
 drawn:Nat
instance:Inhabited Ext:=⟨⟨#[],0⟩⟩
def ext (W:World) (x:Ext) :World:={W with heap:=W.heap ++ x.new,drawn:=x.drawn}
theorem Below.ext_of {W w':World} (h:Below W.heap.size W w') : ∃x,w'=ext W x:=by
 refine⟨⟨w'.heap.extract W.heap.size w'.heap.size,w'.drawn⟩,?_⟩
 have hh:w'.heap=W.heap ++ w'.heap.extract W.heap.size w'.heap.size:=by
  have hs:=h.size
  apply Array.ext_getElem?
  intro i;rw [Array.getElem?_append]
  split
  ·rename_i hi;exact h.block i hi
  ·rename_i hi
   rw [Array.getElem?_extract];have e:W.heap.size+ (i - W.heap.size) =i:=by omega
   simp only [e,Nat.min_self]
   split
   ·rfl
   ·rw [Array.getElem?_eq_none (by omega)]
 cases w' with
 |mk heap tape drawn os output=>
  have h1:=h.os;have h2:=h.tape;have h3:=h.output;simp only at h1 h2 h3 hh;simp only [ext];rw [←hh,h1,h2,h3]
theorem ext_below (W:World) (x:Ext) :Below W.heap.size W (ext W x):=by
 refine⟨rfl,rfl,rfl,by simp [ext],fun k hk=> ?_⟩;simp [ext,Array.getElem?_append,hk]
@[go_sem] theorem ext_cell (W:World) (x:Ext) (b o:Nat) (s:Option Nat) (h:b<W.heap.size) : (ext W x).cell? ⟨b,o,s⟩ =W.cell? ⟨b,o,s⟩:=
 (ext_below W x).cell (p:=⟨b,o,s⟩) h
theorem ext_ext (W:World) (x y:Ext) :ext (ext W x) y=ext W ⟨x.new ++ y.new,y.drawn⟩:=by
 simp [ext]
theorem rX {P:Program} {id:Nat} {Q:Exit→Act→World→Prop} {a:Act} {w:World} {l:List Oper} (hm:P.follows .mixedOrders=true) (hB:Region.lexB .any l.toArray=true)
 (h:wpQuiet P l.toArray (fun w'=>∃x,w'=ext w x) (fun a'=>∀w',(∃x,w'=ext w x)→Q .normal a' w') l a) : (Code.region id l.toArray true).wp P Q a w:=
 wp_region_quiet (C:=fun w'=>∃x,w'=ext w x) hm hB ⟨⟨#[],w.drawn+1⟩,by simp [ext]⟩ (by simpa using h)
theorem quiet_ext {P:Program} {f:FuncId} {args:Array Value} {w:World} {x:Ext} {v:Value}
 (h:Calls P f args (ext w x) fun e w'=>e=.returned v∧Below (ext w x).heap.size (ext w x) w') :Calls P f args (ext w x) fun e w''=>e=.returned v∧∃y,w''=ext w y:=
 h.mono fun _ _ ⟨he,hb⟩=>⟨he,by obtain⟨y,hy⟩:=Below.ext_of hb;rw [hy,ext_ext];exact⟨_,rfl⟩⟩
theorem bX {W w':World} (h: ∃x,w'=ext W x) :Below W.heap.size W w':=by
 obtain⟨x,rfl⟩:=h;exact ext_below W x
theorem Below.extW {w w':World} (h:Below w.heap.size w w') (x:Ext) :Below w.heap.size w (ext w' x):=h.trans ((ext_below w' x).mono h.size)
theorem bE {w w2:World} {n:Nat} (h:Below n w w2:=by repeat (first|with_reducible exact Below.refl _ _|with_reducible assumption| ((with_reducible refine Below.setCell ?_ ?_ _);rotate_left; · (first|omega|exact Nat.le_refl _| (simp <;> omega))) | (with_reducible refine Below.allocW ?_ _) | (with_reducible refine Below.drew ?_) | (with_reducible refine Below.extW ?_ _))) :Below n w w2:=h
theorem bR:type_of% @Go.bodyPost_ret:=@Go.bodyPost_ret
theorem LH {p:Prop} (h:p) :Hid p:=Lib.hid h
theorem czB {w w2:World} {n:Nat} (h:Below n w w2) (b:Nat) (k:b<n:=by first|omega| (simp <;> omega)) (o:Nat) :w2.cell? ⟨b,o,none⟩ =w.cell? ⟨b,o,none⟩:=h.cell (p:=⟨b,o,none⟩) k
theorem fzB {w w2:World} {n:Nat} (h:Below n w w2) (b:Nat) (k:b<n:=by first|omega| (simp <;> omega)) (o:Nat) :w2.frozen? ⟨b,o,none⟩ =w.frozen? ⟨b,o,none⟩:=h.frozen (p:=⟨b,o,none⟩) k
structure Enc (α:Type) (size:Nat) where
 enc:α→List Value
 len: ∀x,(enc x).length=size
 one: ∀x,∀u∈enc x,u.oneCell'=true
def Sl {α:Type} {size:Nat} (w:World) (B:Nat) (E:Enc α size) (A:Option Addr) (l:List α) :Prop:=
 l= []∨∃b off,A=some ⟨b,off,none⟩∧b<B∧∀i x,l[i]? =some x→∀j u,(E.enc x)[j]? =some u→w.cell? ⟨b,off+i*size+j,none⟩ =some u
theorem add_plain (g o k:Nat) : (⟨g,o,none⟩ :Addr).add k= ⟨g,o+k,none⟩:=by
 unfold Addr.add
 split
 ·rename_i h;subst h;rfl
 ·rfl
theorem Sl.nil {α:Type} {size:Nat} {w:World} {B:Nat} {E:Enc α size} {A:Option Addr} :Sl w B E A []:=.inl rfl
theorem Sl.keep {α:Type} {size:Nat} {w w':World} {B B':Nat} {E:Enc α size} {A:Option Addr} {l:List α} (h:Sl w B E A l) (hB:B≤B')
 (hk: ∀p:Addr,p.block<B→w'.cell? p=w.cell? p) :Sl w' B' E A l:=by
 rcases h with h| ⟨b,off,hA,hb,hc⟩
 ·exact .inl h
 ·exact .inr ⟨b,off,hA,Nat.lt_of_lt_of_le hb hB,fun i x hi j u hj=>(hk ⟨b,_,none⟩ hb).trans (hc i x hi j u hj)⟩
theorem Sl.drew {α:Type} {size:Nat} {w:World} {B:Nat} {E:Enc α size} {A:Option Addr} {l:List α} (h:Sl w B E A l) :Sl w.drew B E A l:=h
theorem Sl.below {α:Type} {size:Nat} {w w':World} {B:Nat} {E:Enc α size} {A:Option Addr} {l:List α} (h:Sl w B E A l) (hb:Below B w w') :Sl w' B E A l:=
 h.keep (Nat.le_refl _) fun _ hp=>hb.cell hp
theorem Sl.at_ {α:Type} {size:Nat} {w:World} {B:Nat} {E:Enc α size} {A:Option Addr} {l:List α} (h:Sl w B E A l) {k:Nat} (hk:k<l.length) :
 ∃b off,A=some ⟨b,off,none⟩∧b<B∧∀j u,(E.enc l[k])[j]? =some u→w.cell? ⟨b,off+k*size+j,none⟩ =some u:=by
 rcases h with h| ⟨b,off,hA,hb,hc⟩
 ·subst h;simp at hk
 ·exact⟨b,off,hA,hb,fun j u hj=>hc k _ (List.getElem?_eq_getElem hk) j u hj⟩
def Own {α:Type} {size:Nat} (w:World) (base:Nat) (e:TypeId) (E:Enc α size) (v:Value) (l:List α) :Prop:=
 (v=.slice none 0 0∧l= [])∨
 ∃g off cap cur,v=.slice (some ⟨g,off,none⟩) l.length cap∧base≤g∧w.heap[g]? =some (.cells cur e (0,0))∧l.length≤cap∧cap≤maxLen∧off+cap*size≤cur.size∧
  ∀j u,(l.flatMap E.enc)[j]? =some u→cur[off+j]? =some u
theorem flat_len {α:Type} {size:Nat} (E:Enc α size) (l:List α) : (l.flatMap E.enc).length=l.length*size:=by
 induction l with
 |nil=>simp
 |cons x l ih=>simp [ih,E.len,Nat.add_mul,Nat.add_comm]
theorem flat_get {α:Type} {size:Nat} (E:Enc α size) (l:List α) (i j:Nat) (x:α) (u:Value) (hi:l[i]? =some x) (hj: (E.enc x)[j]? =some u) :
 (l.flatMap E.enc)[i*size+j]? =some u:=by
 induction l generalizing i with
 |nil=>simp at hi
 |cons y l ih=>
  have hl:=E.len y
  cases i with
  |zero=>
   simp at hi;subst hi
   have hlt:j< (E.enc y).length:=(List.getElem?_eq_some_iff.1 hj).1;rw [List.flatMap_cons,Nat.zero_mul,Nat.zero_add,List.getElem?_append_left hlt];exact hj
  |succ i=>
   simp at hi
   have:=ih i hi;rw [List.flatMap_cons,List.getElem?_append_right (by rw [hl,Nat.add_mul];omega),hl];rw [←this]
   congr 1
   rw [Nat.add_mul];omega
theorem flat_inv {α:Type} {size:Nat} (E:Enc α size) (l:List α) (j:Nat) (u:Value) (h: (l.flatMap E.enc)[j]? =some u) : ∃k x q,l[k]? =some x∧(E.enc x)[q]? =some u∧j=k*size+q:=by
 induction l generalizing j with
 |nil=>simp at h
 |cons y l ih=>
  have hl:=E.len y;rw [List.flatMap_cons] at h;by_cases hlt:j< (E.enc y).length
  ·rw [List.getElem?_append_left hlt] at h
   exact⟨0,y,j,rfl,h,by omega⟩
  ·rw [List.getElem?_append_right (by omega),hl] at h
   obtain⟨k,x,q,hk,hq,hj⟩:=ih _ h;exact⟨k+1,x,q,by simpa using hk,hq,by rw [Nat.add_mul];omega⟩
theorem grownBy_of_below {a w:World} (h:Below a.heap.size a w) (row:Option Nat) :a.grownBy w row:=⟨h.os,h.tape,h.output,h.size,fun i hi _=>h.block i hi⟩
section
variable {α β:Type} {size s1 s2:Nat} {w w':World} {base e e1 e2:Nat} {E:Enc α size} {v:Value} {l:List α}
theorem lB {g:Nat} {o:Obj} (h:w.heap[g]? =some o) :g<w.heap.size:=by
 rcases Nat.lt_or_ge g w.heap.size with hlt|hge
 ·exact hlt
 ·rw [Array.getElem?_eq_none hge] at h;cases h
theorem Own.nil (w:World) (base:Nat) (e:TypeId) (E:Enc α size) :Own w base e E (.slice none 0 0) []:=.inl ⟨rfl,rfl⟩
theorem Own.of_block (h:Own w base e E v l) (hb: ∀g,v.ownBlock=some g→w'.heap[g]? =w.heap[g]?) :Own w' base e E v l:=by
 rcases h with h| ⟨g,off,cap,cur,rfl,hg,hh,r⟩
 ·exact .inl h
 ·exact .inr ⟨g,off,cap,cur,rfl,hg,(hb g rfl).trans hh,r⟩
theorem Own.lt (h:Own w base e E v l) : ∀k,v.ownBlock=some k→base≤k∧k<w.heap.size:=by
 intro k hk;rcases h with ⟨rfl,_⟩ | ⟨g,off,cap,cur,rfl,hg,hh,r⟩
 ·cases hk
 ·have:g=k:=by simpa [Value.ownBlock] using hk
  subst this;exact⟨hg,lB hh⟩
theorem Own.alloc (h:Own w base e E v l) (o:Obj) :Own (w.alloc o) base e E v l:=h.of_block fun g hg=>Below.heap_alloc w o g (h.lt g hg).2
theorem Own.drew (h:Own w base e E v l) :Own w.drew base e E v l:=h
theorem Own.kept {row:Option Nat} (h:Own w base e E v l) (hg:w.grownBy w' row) (hne:v.ownBlock=none∨v.ownBlock≠row) :Own w' base e E v l:=
 h.of_block fun g hv=>hg.block g (h.lt g hv).2 (by
  rcases hne with hne|hne
  ·rw [hv] at hne;cases hne
  ·rw [←hv];exact hne)
theorem Own.below (h:Own w base e E v l) (hb:Below w.heap.size w w') :Own w' base e E v l:=h.of_block fun g hv=>hb.block g (h.lt g hv).2
theorem Own.setCell (h:Own w base e E v l) {p:Addr} (hp:v.ownBlock≠some p.block) (u:Value) :Own (w.setCell p u) base e E v l:=
 h.of_block fun g hv=>Below.heap_setCell _ _ _ _ (fun he=>hp (by rw [hv,he]))
theorem Own.base_le (h:Own w base e E v l) {b:Nat} (hb:b≤base) :Own w b e E v l:=by
 rcases h with h| ⟨g,off,cap,cur,hv,hg,r⟩
 ·exact .inl h
 ·exact .inr ⟨g,off,cap,cur,hv,Nat.le_trans hb hg,r⟩
theorem Own.form (h:Own w base e E v l) :
 ∃A cap,v=.slice A l.length cap∧l.length≤cap∧cap≤maxLen∧Sl w w.heap.size E A l∧(A=none∨∃g off,A=some ⟨g,off,none⟩∧base≤g):=by
 rcases h with ⟨rfl,rfl⟩ | ⟨g,off,cap,cur,rfl,hg,hh,h1,h2,h3,h4⟩
 ·exact⟨none,0,rfl,by simp,by simp,.nil,.inl rfl⟩
 ·refine⟨some ⟨g,off,none⟩,cap,rfl,h1,h2,.inr ⟨g,off,rfl,lB hh,fun i x hi j u hj=> ?_⟩,.inr ⟨g,off,rfl,hg⟩⟩
  rw [cell_of_row _ _ _ _ _ _ hh,Nat.add_assoc];exact h4 _ u (flat_get E l i j x u hi hj)
theorem Own.not_at (h:Own w base e E v l) (b:Nat) (hb:w.heap.size≤b) :v.ownBlock≠some b:=fun he=>by
 have:=(h.lt b he).2;omega
theorem own_ne {E1:Enc α s1} {E2:Enc β s2} {v1 v2:Value} {l1:List α} {l2:List β} {b1 b2:Nat} (h1:Own w b1 e1 E1 v1 l1) (h2:Own w b2 e2 E2 v2 l2) (hne:e1≠e2) :
 v1.ownBlock=none∨v1.ownBlock≠v2.ownBlock:=by
 rcases h1 with ⟨rfl,_⟩ | ⟨g1,o1,c1,u1,rfl,_,hh1,_⟩
 ·exact .inl rfl
 ·right
  rcases h2 with ⟨rfl,_⟩ | ⟨g2,o2,c2,u2,rfl,_,hh2,_⟩
  ·simp [Value.ownBlock]
  ·intro he
   have:g1=g2:=by simpa [Value.ownBlock] using he
   subst this;rw [hh1] at hh2
   injection hh2 with hh2
   injection hh2 with _ ht
   exact hne ht
theorem Own.ne_block (h:Own w base e E v l) {g t:Nat} {cs:Array Value} {fr:Nat×Nat} (hb:w.heap[g]? =some (.cells cs t fr)) (hne:e≠t) :v.ownBlock≠some g:=by
 rcases h with ⟨rfl,_⟩ | ⟨g1,o1,c1,u1,rfl,_,hh1,_⟩
 ·simp [Value.ownBlock]
 ·intro he
  have:g1=g:=by simpa [Value.ownBlock] using he
  subst this;rw [hh1] at hb
  injection hb with hb
  injection hb with _ ht
  exact hne ht
theorem Own.lit (W:World) (E:Enc α size) (l:List α) (e:TypeId) (hb:base≤W.heap.size) (hm:l.length≤maxLen) :
 Own (W.alloc (.cells (l.flatMap E.enc).toArray e)) base e E (.slice (some ⟨W.heap.size,0,none⟩) l.length l.length) l:=
 .inr ⟨W.heap.size,0,l.length,_,rfl,hb,heap_alloc_new W _,Nat.le_refl _,hm,by rw [List.size_toArray,flat_len];omega,fun j u hj=>by simpa using hj⟩
theorem Own.cut {A:Option Addr} {n cap:Nat} (h:Own w base e E (.slice A n cap) l) {lo hi mx:Nat} (h1:lo≤hi) (h2:hi≤l.length) (h3:hi≤mx) (h4:mx≤cap) :
 Own w base e E (.slice (if mx=lo then A else A.map (·.add (lo*size))) (hi - lo) (mx - lo)) ((l.take hi).drop lo):=by
 rcases h with ⟨hv,rfl⟩ | ⟨g,off,cap',cur,hv,hg,hh,k1,k2,k3,k4⟩
 ·cases hv
  have e1:hi=0:=by simpa using h2
  have e2:mx=0:=by omega
  have e3:lo=0:=by omega
  subst e1 e2 e3;exact .inl ⟨by simp,by simp⟩
 ·cases hv
  have hlen: ((l.take hi).drop lo).length=hi - lo:=by simp;omega
  have hcell: ∀j u,(((l.take hi).drop lo).flatMap E.enc)[j]? =some u→cur[off+lo*size+j]? =some u:=by
   intro j u hj
   have e1:l.flatMap E.enc= (l.take lo).flatMap E.enc ++ (((l.take hi).drop lo).flatMap E.enc ++ (l.drop hi).flatMap E.enc):=by
    rw [←List.flatMap_append,←List.flatMap_append]
    congr 1
    have e2:l.take lo= (l.take hi).take lo:=by rw [List.take_take];congr 1;omega
    rw [←List.append_assoc,e2,List.take_append_drop,List.take_append_drop]
   have:=k4 (lo*size+j) u (by
    rw [e1,List.getElem?_append_right (by rw [flat_len,List.length_take];rw [Nat.min_eq_left (by omega)];omega),flat_len,List.length_take,Nat.min_eq_left (by omega)];rw [show lo*size+j - lo*size=j by omega,List.getElem?_append_left (List.getElem?_eq_some_iff.1 hj).1];exact hj)
   rwa [←Nat.add_assoc] at this
  by_cases hml:mx=lo
  ·have:hi=lo:=by omega
   subst hml this;rw [if_pos rfl];refine .inr ⟨g,off,0,cur,by rw [hlen];simp,hg,hh,by rw [hlen];simp,by simp,?_,fun j u hj=> ?_⟩
   ·have:=Nat.le_trans (Nat.le_add_right off (cap*size)) k3
    simpa using this
   ·have: (l.take hi).drop hi= []:=List.eq_nil_of_length_eq_zero (by rw [hlen];simp)
    rw [this] at hj;simp at hj
  ·rw [if_neg hml]
   refine .inr ⟨g,off+lo*size,mx - lo,cur,by rw [hlen];simp [add_plain],hg,hh,by rw [hlen];omega,by omega,?_,hcell⟩;have:lo*size+ (mx - lo) *size≤cap*size:=by rw [←Nat.add_mul];exact Nat.mul_le_mul_right _ (by omega)
   omega
end
theorem grown_cell {w w':World} {row:Option Nat} (hg:w.grownBy w' row) (b:Nat) (hb:b<w.heap.size) (hne:row≠some b) (o:Nat) :w'.cell? ⟨b,o,none⟩ =w.cell? ⟨b,o,none⟩:=
 hg.cell_far ⟨b,o,none⟩ hb (Ne.symm hne)
theorem grown_frozen {w w':World} {row:Option Nat} (hg:w.grownBy w' row) (b:Nat) (hb:b<w.heap.size) (hne:row≠some b) (o:Nat) :w'.frozen? ⟨b,o,none⟩ =w.frozen? ⟨b,o,none⟩:=
 hg.frozen_far ⟨b,o,none⟩ hb (Ne.symm hne)
structure SliceTy (P:Program) (t e:TypeId) (size bytes:Nat) (z:Value) :Prop where
 ht:P.underlying t=some (.slice e)
 hinfo: (P.info? e).map (fun i=>(i.zero,i.size,i.bytes)) =some (some z,size,bytes)
 hzs:z.cells.size=size
 hsz:0<size
theorem flat_one {α:Type} {size:Nat} (E:Enc α size) (l:List α) : ∀u∈l.flatMap E.enc,u.oneCell'=true:=by
 intro u hu;obtain⟨x,_,hx⟩:=List.mem_flatMap.1 hu;exact E.one x u hx
section
variable {P:Program} {t e:TypeId} {size bytes:Nat} {z:Value} {α:Type} {E:Enc α size}
theorem app_run (T:SliceTy P t e size bytes z) (ty:TypeId) (W:World) (base:Nat) (v:Value) (l:List α) (hown:Own W base e E v l) (A:Option Addr) (c:Nat) (l2:List α) (B:Nat) (hsrc:Sl W B E A l2)
 (hn: (l.length+l2.length) *bytes≤140737488355328) (hm:l.length+l2.length≤maxLen) (hbase:base≤W.heap.size) :
 ∃v' w',(Builtin.append_ #[t,t] ty #[v,.slice A l2.length c]).run P W=.ok v' w'∧Own w' base e E v' (l ++ l2)∧W.grownBy w' v.ownBlock∧
  (v'.ownBlock=v.ownBlock∨v'.ownBlock=some W.heap.size)∧(l2≠ []→v'≠.slice none 0 0):=by
 obtain⟨i,hi,e1⟩:=Option.map_eq_some_iff.1 T.hinfo;simp only [Prod.mk.injEq] at e1;obtain⟨hz,hsize,hby⟩:=e1;subst hsize hby;have ht:=T.ht;have h63:l.length+l2.length≤9223372036854775807:=by simp only [maxLen] at hm;omega
 rcases hl2:l2 with _| ⟨y,l3⟩
 ·-- nothing is appended
  subst hl2
  have h0: (Builtin.append_ #[t,t] ty #[v,.slice A ([] :List α).length c]).run P W=.ok v W:=by
   have hfirst: ∀k,(Builtin.firstCells k 0 (.slice A 0 c)).run P W=.ok #[] W:=by
    intro k
    cases A with
    |none=>simp [Builtin.firstCells]
    |some a=>simp [Builtin.firstCells,loadCells,loadCellsFrom]
   rcases hown with ⟨rfl,_⟩ | ⟨g,off,cap,cur,rfl,_,_,hlc,_⟩
   ·simp [Builtin.append_,run_underlying ht,sizeOf,typeInfo,hi,Builtin.lenOf,hfirst]
   ·simp [Builtin.append_,run_underlying ht,sizeOf,typeInfo,hi,Builtin.lenOf,hfirst,hlc,storeCells]
  refine⟨v,W,h0,by simpa using hown,⟨rfl,rfl,rfl,Nat.le_refl _,fun _ _ _=>rfl⟩,.inl rfl,fun h=>absurd rfl h⟩
 ·rw [←hl2]
  have hne:0<l2.length:=by rw [hl2];simp
  obtain⟨b,o,rfl,hb,hc⟩ : ∃b off,A=some ⟨b,off,none⟩∧b<B∧∀k x,l2[k]? =some x→∀j u,(E.enc x)[j]? =some u→W.cell? ⟨b,off+k*i.size+j,none⟩ =some u:=by
   rcases hsrc with h|h
   ·rw [h] at hne;simp at hne
   ·exact h
  have hl: (l2.flatMap E.enc).length=l2.length*i.size:=flat_len E l2
  have hnews: ∀j u,(l2.flatMap E.enc)[j]? =some u→W.cell? ((⟨b,o,none⟩ :Addr).add j) =some u:=by
   intro j u hj;obtain⟨k,x,q,hk,hq,hjk⟩:=flat_inv E l2 j u hj;have:=hc k x hk q u hq;rw [add_plain,hjk,←Nat.add_assoc];exact this
  have grown: ∀(old:Nat),old<l.length+l2.length→
   Own (W.drew.alloc (.cells ((l.flatMap E.enc).toArray ++ (l2.flatMap E.enc).toArray ++ Builtin.zeroCells z.cells (grownCap W (l.length+l2.length) old e - (l.length+l2.length))) e)) base e E
    (.slice (some ⟨W.heap.size,0,none⟩) (l.length+l2.length) (grownCap W (l.length+l2.length) old e)) (l ++ l2):=by
   intro old ho;have hge:=grownCap_ge W (l.length+l2.length) old e;refine .inr ⟨W.heap.size,0,_,_,by rw [List.length_append],hbase,heap_alloc_new W.drew _,by rw [List.length_append];exact hge,grownCap_le_maxLen W _ old e hm,?_,fun j u hj=> ?_⟩
   ·simp only [Array.size_append,List.size_toArray,size_zeroCells,T.hzs,flat_len,←Nat.add_mul]
    refine Nat.le_of_eq ?_;rw [Nat.zero_add]
    congr 1
    omega
   ·have hlt:=(List.getElem?_eq_some_iff.1 hj).1
    rw [List.flatMap_append] at hj hlt;rw [Nat.zero_add,Array.getElem?_append_left (by simpa using hlt)]
    simpa using hj
  have gfr: ∀(cs:Array Value) (row:Option Nat),W.grownBy (W.drew.alloc (.cells cs e)) row:=fun cs row=>⟨rfl,rfl,rfl,by simp,fun k hk _=>heap_alloc_old W.drew _ hk⟩;rcases hown with ⟨rfl,rfl⟩ | ⟨g,off,cap,cur,rfl,hbg,hg,hnc,hcm,hcs,hcur⟩
  ·have hr:=run_append_nil (P:=P) W t ty e i z ht hi hz ⟨b,o,none⟩ l2.length c _ hl hnews hne (by omega) (by have hb:=hn;simp only [List.length_nil,Nat.zero_add] at hb;omega)
   have hgr:=grown 0 (by simpa using hne);simp only [List.length_nil,Nat.zero_add,List.nil_append,List.flatMap_nil] at hgr⊢;refine⟨_,_,hr,?_,gfr _ _,.inr rfl,fun _=>by simp⟩
   simpa using hgr
  ·by_cases hroom:l.length+l2.length≤cap
   ·have hfit:off+l.length*i.size+ (l2.flatMap E.enc).length≤cur.size:=by
     have:=Nat.mul_le_mul_right i.size hroom;rw [Nat.add_mul] at this;rw [hl];omega
    have hf:=run_firstCells_some (P:=P) W i.size l2.length ⟨b,o,none⟩ l2.length c _ hl hnews;have hst:=run_storeCells_at P g (off+l.length*i.size) e (l2.flatMap E.enc) 0 cur W hg (by simpa using hfit) (flat_one E l2);simp only [Nat.add_zero] at hst
    have hr: (Builtin.append_ #[t,t] ty #[.slice (some ⟨g,off,none⟩) l.length cap,.slice (some ⟨b,o,none⟩) l2.length c]).run P W=
     .ok (.slice (some ⟨g,off,none⟩) (l.length+l2.length) cap) (W.setRow g (cur.toList.take (off+l.length*i.size) ++ l2.flatMap E.enc ++ cur.toList.drop (off+l.length*i.size+ (l2.flatMap E.enc).length)).toArray):=by
     simp [Builtin.append_,run_underlying ht,sizeOf,typeInfo,hi,Builtin.lenOf,hroom,hf,add_plain,hst]
    refine⟨_,_,hr,.inr ⟨g,off,cap,_,by rw [List.length_append],hbg,setRow_heap W g cur _ e _ hg,by rw [List.length_append];exact hroom,hcm,?_,fun j u hj=> ?_⟩,
     ⟨rfl,rfl,rfl,by simp,fun k _ hk=>setRow_other W g k _ (fun e=>hk (by simp [Value.ownBlock,e]))⟩,.inl rfl,fun _=>by simp⟩
    ·simp only [List.size_toArray,List.length_append,List.length_take,List.length_drop,Array.length_toList]
     omega
    ·rw [List.flatMap_append] at hj
     have hlen1: (l.flatMap E.enc).length=l.length*i.size:=flat_len E l;rw [List.getElem?_toArray];by_cases hj1:j< (l.flatMap E.enc).length
     ·rw [List.getElem?_append_left hj1] at hj
      have h4:=hcur j u hj;rw [List.append_assoc,List.getElem?_append_left (by simp only [List.length_take,Array.length_toList];omega),List.getElem?_take_of_lt (by omega),Array.getElem?_toList];exact h4
     ·rw [List.getElem?_append_right (by omega)] at hj
      have hj2:=(List.getElem?_eq_some_iff.1 hj).1;rw [List.append_assoc,List.getElem?_append_right (by simp only [List.length_take,Array.length_toList];omega),List.getElem?_append_left (by simp only [List.length_take,Array.length_toList];omega)];rw [←hj]
      congr 1
      simp only [List.length_take,Array.length_toList];omega
   ·have holds: ∀j u,(l.flatMap E.enc)[j]? =some u→W.cell? ((⟨g,off,none⟩ :Addr).add j) =some u:=by
     intro j u hj;rw [add_plain,cell_of_row _ _ _ _ _ _ hg];exact hcur j u hj
    have hr:=run_append_grow (P:=P) W t ty e i z ht hi hz ⟨g,off,none⟩ l.length cap _ (flat_len E l) holds ⟨b,o,none⟩ l2.length c _ hl hnews (by omega) (by omega) (growslice_fits (by omega) hn);exact⟨_,_,hr,grown cap (by omega),gfr _ _,.inr rfl,fun _=>by simp⟩
theorem wpList_app {w:World} {ops:Array Oper} {rest:List Oper} {o:Oper} {a:Act} {Q:Exit→Act→World→Prop} (T:SliceTy P t e size bytes z) (hgd:o.guard=none) (s x:Operand)
 (ho:o.op=.call {callee:=.builtin .append,args:= #[s,x],argTypes:= #[t,t]}) (E:Enc α size) (base:Nat) (v:Value) (l:List α) (hs:a.eval s=v) (hown:Own w base e E v l)
 (A:Option Addr) (c:Nat) (l2:List α) (B:Nat) (hx:a.eval x=.slice A l2.length c) (hsrc:Sl w B E A l2) (hn: (l.length+l2.length) *bytes≤140737488355328) (hm:l.length+l2.length≤maxLen) (hbase:base≤w.heap.size)
 (h: ∀v' w',Own w' base e E v' (l ++ l2)→w.grownBy w' v.ownBlock→(v'.ownBlock=v.ownBlock∨v'.ownBlock=some w.heap.size)→Below base w w'→(l2≠ []→v'≠.slice none 0 0)→
   wpList P ops Q rest (a.put o.dst v') w') :wpList P ops Q (o :: rest) a w:=by
 refine wpList_plain hgd fun K hK=> ?_;obtain⟨v',w',hr,h2,h3,h4,h5⟩:=app_run T o.type w base v l hown A c l2 B hsrc hn hm hbase;unfold Oper.wp execOp;simp only [ho,resolve,invoke,builtin,Sem.run_bind,Sem.run_pure,Result.andThen_ok,List.map_toArray,List.map_cons,List.map_nil,hs,hx,hr];exact hK _ _ (h v' w' h2 h3 h4 ((Below.refl base w).grown h3 hbase fun k hk=>(hown.lt k hk).1) h5)
theorem step_app {w:World} {ops:Array Oper} {o:Oper} {a:Act} {K:Act→World→Prop} {Q:Exit→Act→World→Prop} {F:Prop} (T:SliceTy P t e size bytes z) (hgd:o.guard=none) (s x:Operand)
 (ho:o.op=.call {callee:=.builtin .append,args:= #[s,x],argTypes:= #[t,t]}) (E:Enc α size) (base:Nat) (v:Value) (l:List α) (hs:a.eval s=v) (hown:Own w base e E v l)
 (A:Option Addr) (c:Nat) (l2:List α) (B:Nat) (hx:a.eval x=.slice A l2.length c) (hsrc:Sl w B E A l2) (hn: (l.length+l2.length) *bytes≤140737488355328) (hm:l.length+l2.length≤maxLen) (hbase:base≤w.heap.size)
 (h: ∀v' w',Own w' base e E v' (l ++ l2)→w.grownBy w' v.ownBlock→(v'.ownBlock=v.ownBlock∨v'.ownBlock=some w.heap.size)→Below base w w'→(l2≠ []→v'≠.slice none 0 0)→K (a.put o.dst v') w') :
 if Region.wanted o (yielded ops a.tmps) =true then Oper.wp P o a w K Q else F:=by
 have hw:Region.wanted o (yielded ops a.tmps) =true:=by simp [Region.wanted,hgd]
 rw [if_pos hw];obtain⟨v',w',hr,h2,h3,h4,h5⟩:=app_run T o.type w base v l hown A c l2 B hsrc hn hm hbase;unfold Oper.wp execOp;simp only [ho,resolve,invoke,builtin,Sem.run_bind,Sem.run_pure,Result.andThen_ok,List.map_toArray,List.map_cons,List.map_nil,hs,hx,hr];exact h v' w' h2 h3 h4 ((Below.refl base w).grown h3 hbase fun k hk=>(hown.lt k hk).1) h5
theorem sl_lit (W:World) (E:Enc α size) (l:List α) (e:TypeId) (b:Nat) (hb:W.heap.size=b) :Sl (W.alloc (.cells (l.flatMap E.enc).toArray e)) (b+1) E (some ⟨b,0,none⟩) l:=by
 subst hb
 exact .inr ⟨W.heap.size,0,rfl,by omega,fun i x hi j u hj=>by
  rw [cell_of_row _ _ _ _ _ _ (heap_alloc_new W _),Nat.zero_add]
  simpa using flat_get E l i j x u hi hj⟩
theorem wpList_push {w:World} {ops:Array Oper} {rest:List Oper} {o:Oper} {a:Act} {Q:Exit→Act→World→Prop} (T:SliceTy P t e size bytes z) (hgd:o.guard=none) (s x:Operand)
 (ho:o.op=.call {callee:=.builtin .append,args:= #[s,x],argTypes:= #[t,t]}) (E:Enc α size) (W:World) (base:Nat) (v:Value) (l:List α) (hs:a.eval s=v) (hown:Own W base e E v l)
 (x0:α) (hx:a.eval x=.slice (some ⟨W.heap.size,0,none⟩) 1 1) (hw:w=W.alloc (.cells (E.enc x0).toArray e)) (hn: (l.length+1) *bytes≤140737488355328) (hm:l.length+1≤maxLen) (hbase:base≤W.heap.size)
 (h: ∀v' w',Own w' base e E v' (l ++ [x0])→W.grownBy w' v.ownBlock→W.heap.size<w'.heap.size→(v'.ownBlock=v.ownBlock∨v'.ownBlock=some (W.heap.size+1))→Below base W w'→v'≠.slice none 0 0→
   wpList P ops Q rest (a.put o.dst v') w') :wpList P ops Q (o :: rest) a w:=by
 subst hw;have hsl:=sl_lit W E [x0] e _ rfl;simp only [List.flatMap_cons,List.flatMap_nil,List.append_nil] at hsl;refine wpList_app T hgd s x ho E base v l hs (hown.alloc _) (some ⟨W.heap.size,0,none⟩) 1 [x0] _ (by simpa using hx) hsl (by simpa using hn) (by simpa using hm) (by simp;omega) fun v' w' h2 h3 h4 h5 h6=> ?_;have hs:=h3.size;simp at hs
 refine h v' w' h2 ⟨h3.os,h3.tape,h3.output,by omega,fun i hi hne=>(h3.block i (by simp;omega) hne).trans (Below.heap_alloc W _ i hi)⟩ (by omega) ?_ ?_ (h6 (by simp))
 ·rcases h4 with h4|h4
  ·exact .inl h4
  ·right;rw [h4];simp
 ·exact((Below.refl base W).alloc hbase _).trans h5
end
structure KeepT (T:List TypeId) (w w':World) :Prop where
 os:w'.os=w.os
 tape:w'.tape=w.tape
 output:w'.output=w.output
 size:w.heap.size≤w'.heap.size
 block: ∀(b:Nat) (o:Obj),w.heap[b]? =some o→(∀cs t fr,o=Obj.cells cs t fr→t∉T)→w'.heap[b]? =some o
theorem KeepT.trans {T:List TypeId} {a b c:World} (h:KeepT T a b) (k:KeepT T b c) :KeepT T a c:=
 ⟨k.os.trans h.os,k.tape.trans h.tape,k.output.trans h.output,Nat.le_trans h.size k.size,fun i o hi ht=>k.block i o (h.block i o hi ht) ht⟩
theorem KeepT.of_below {T:List TypeId} {a b:World} (h:Below a.heap.size a b) :KeepT T a b:=
 ⟨h.os,h.tape,h.output,h.size,fun i _ hi _=>(h.block i (lB hi)).trans hi⟩
theorem KeepT.setCell {T:List TypeId} {a b:World} (h:KeepT T a b) {p:Addr} {cs:Array Value} {t:TypeId} {fr:Nat×Nat} (hb:b.heap[p.block]? =some (.cells cs t fr)) (ht:t∈T) (u:Value) :KeepT T a (b.setCell p u):=
 h.trans ⟨rfl,rfl,rfl,by simp [World.setCell],fun i _ hi hT=>by
  rw [Below.heap_setCell _ _ _ _ (by rintro rfl;rw [hb] at hi;cases hi;exact hT _ _ _ rfl ht)];exact hi⟩
theorem KeepT.grown {T:List TypeId} {a b c:World} {α:Type} {size:Nat} {base e:Nat} {E:Enc α size} {v:Value} {l:List α} (h:KeepT T a b) (ho:Own b base e E v l) (hg:b.grownBy c v.ownBlock) (he:e∈T) :KeepT T a c:=
 h.trans ⟨hg.os,hg.tape,hg.output,hg.size,fun i _ hi hT=>(hg.block i (lB hi) (fun heq=>by
  rcases ho with ⟨rfl,_⟩ | ⟨g1,o1,c1,u1,rfl,_,hh1,_⟩
  ·cases heq
  ·have:i=g1:=by simpa [Value.ownBlock] using heq
   subst this;rw [hh1] at hi
   cases hi
   exact hT _ _ _ rfl he)).trans hi⟩
section
variable {α:Type} {size:Nat} {w:World} {base e:Nat} {E:Enc α size} {l:List α}
theorem Own.upTo {a:Addr} {n cap:Nat} (h:Own w base e E (.slice (some a) n cap) l) {k:Nat} (hk:k≤l.length) :Own w base e E (.slice (some a) k cap) (l.take k):=by
 have hc:l.length≤cap:=by
  rcases h with ⟨hv,_⟩ | ⟨g,off,cap',cur,hv,_,_,h1,_⟩
  ·cases hv
  ·cases hv;exact h1
 have:=h.cut (lo:=0) (hi:=k) (mx:=cap) (Nat.zero_le _) hk (by omega) (Nat.le_refl _);simp only [Nat.sub_zero,List.drop_zero,Nat.zero_mul] at this
 split at this
 ·exact this
 ·simpa [Addr.add] using this
theorem Sl.drop {B b off:Nat} (h:Sl w B E (some ⟨b,off,none⟩) l) (k:Nat) :Sl w B E (some ⟨b,off+k*size,none⟩) (l.drop k):=by
 rcases h with rfl| ⟨b',off',hA,hb,hc⟩
 ·exact .inl (by simp)
 ·cases hA
  refine .inr ⟨b,_,rfl,hb,fun i x hi j u hj=> ?_⟩;rw [List.getElem?_drop] at hi;have:=hc _ x hi j u hj;rw [Nat.add_mul] at this;rw [←this]
  congr 2
  omega
theorem Sl.take {B:Nat} {A:Option Addr} (h:Sl w B E A l) (k:Nat) :Sl w B E A (l.take k):=by
 rcases h with rfl| ⟨b,off,hA,hb,hc⟩
 ·exact .inl (by simp)
 ·refine .inr ⟨b,off,hA,hb,fun i x hi j u hj=>hc i x ?_ j u hj⟩
  rw [List.getElem?_take] at hi
  split at hi
  ·exact hi
  ·cases hi
end
section
variable {α:Type} {size:Nat} {w:World} {base e:Nat} {E:Enc α size} {l:List α}
theorem Own.frozen {b off n cap:Nat} (h:Own w base e E (.slice (some ⟨b,off,none⟩) n cap) l) (j:Nat) :w.frozen? ⟨b,j,none⟩ =false:=by
 rcases h with ⟨hv,_⟩ | ⟨g,o,c,cur,hv,_,hh,_⟩
 ·cases hv
 ·cases hv
  simp [World.frozen?,hh]
theorem idx_ne {size k k' j j':Nat} (hj:j<size) (hj':j'<size) (h:k≠k') :k*size+j≠k'*size+j':=by
 intro he;rcases Nat.lt_or_gt_of_ne h with hlt|hlt
 ·have:=Nat.mul_le_mul_right size (Nat.succ_le_of_lt hlt)
  rw [Nat.succ_mul] at this;omega
 ·have:=Nat.mul_le_mul_right size (Nat.succ_le_of_lt hlt)
  rw [Nat.succ_mul] at this;omega
theorem Own.setElem {b off n cap:Nat} (h:Own w base e E (.slice (some ⟨b,off,none⟩) n cap) l) (k j:Nat) (hk:k<l.length) (hj:j<size) (u:Value) (x':α) (hx:E.enc x'= (E.enc l[k]).set j u) :
 Own (w.setCell ⟨b,off+k*size+j,none⟩ u) base e E (.slice (some ⟨b,off,none⟩) n cap) (l.set k x'):=by
 rcases h with ⟨hv,_⟩ | ⟨g,o,c,cur,hv,hg,hh,h1,h2,h3,h4⟩
 ·cases hv
 ·cases hv
  have hin:off+k*size+j<cur.size:=by
   have e0: (k+1) *size≤cap*size:=Nat.mul_le_mul_right _ (by omega);rw [Nat.add_mul] at e0;omega
  refine .inr ⟨b,off,cap,cur.setIfInBounds (off+k*size+j) u,by rw [List.length_set],hg,?_,by rw [List.length_set];exact h1,h2,by rw [Array.size_setIfInBounds];exact h3,fun q v hq=> ?_⟩
  ·simp [World.setCell,Array.getElem?_modify,hh]
  ·obtain⟨k',x,q',hk',hq',hqe⟩:=flat_inv E _ q v hq
   have hql:q'<size:=by
    have:=(List.getElem?_eq_some_iff.1 hq').1
    rwa [E.len] at this
   rw [List.getElem?_set] at hk';by_cases he:k=k'
   ·subst he
    rw [if_pos rfl,if_pos hk] at hk'
    cases hk'
    rw [hx,List.getElem?_set] at hq';by_cases he2:j=q'
    ·subst he2
     rw [if_pos rfl] at hq'
     split at hq'
     ·cases hq'
      rw [hqe,←Nat.add_assoc,Array.getElem?_setIfInBounds_self_of_lt hin]
     ·cases hq'
    ·rw [if_neg he2] at hq'
     rw [hqe,←Nat.add_assoc,Array.getElem?_setIfInBounds_ne (by omega)];have:=h4 (k*size+q') v (flat_get E l k q' _ v (List.getElem?_eq_getElem hk) hq')
     rwa [←Nat.add_assoc] at this
   ·rw [if_neg he] at hk'
    have hne:=idx_ne hj hql he;rw [hqe,Array.getElem?_setIfInBounds_ne (by omega)];exact h4 _ v (flat_get E l k' q' x v hk' hq')
end
theorem heap_new_at (w:World) (o:Obj) (b:Nat) (hb:b=w.heap.size) : (w.alloc o).heap[b]? =some o:=by subst hb;exact heap_alloc_new w o
theorem heap_new_lt (w:World) (o:Obj) (b:Nat) (hb:b<w.heap.size) : (w.alloc o).heap[b]? =w.heap[b]? :=Below.heap_alloc w o b hb
theorem bC {w:World} {b t:Nat} {cs:Array Value} {fr:Nat×Nat} (h:w.heap[b]? =some (.cells cs t fr)) (o:Nat) :w.cell? ⟨b,o,none⟩ =cs[o]? :=cell_of_row _ _ _ _ _ _ h
theorem bF {w:World} {b t:Nat} {cs:Array Value} (h:w.heap[b]? =some (.cells cs t (0,0))) (o:Nat) :w.frozen? ⟨b,o,none⟩ =false:=by simp [World.frozen?,h]
theorem blk_grown {w w':World} {b t:Nat} {cs:Array Value} {fr:Nat×Nat} {α:Type} {size base e:Nat} {E:Enc α size} {v:Value} {l:List α} (h:w.heap[b]? =some (.cells cs t fr)) (ho:Own w base e E v l) (hg:w.grownBy w' v.ownBlock) (hne:e≠t) :
 w'.heap[b]? =some (.cells cs t fr):=(hg.block b (lB h) (Ne.symm (ho.ne_block h hne))).trans h
theorem blk_grown_not {w w':World} {b:Nat} {o:Obj} {row:Option Nat} (h:w.heap[b]? =some o) (hg:w.grownBy w' row) (hne:row≠some b) :w'.heap[b]? =some o:=(hg.block b (lB h) (Ne.symm hne)).trans h
theorem bB {w w':World} {b:Nat} {o:Obj} (h:w.heap[b]? =some o) (hb:Below w.heap.size w w') :w'.heap[b]? =some o:=(hb.block b (lB h)).trans h
def TypeAt (w:World) (b t:Nat) :Prop:=∃cs fr,w.heap[b]? =some (.cells cs t fr)
theorem TypeAt.of {w:World} {b t:Nat} {cs:Array Value} {fr:Nat×Nat} (h:w.heap[b]? =some (.cells cs t fr)) :TypeAt w b t:=⟨cs,fr,h⟩
theorem TypeAt.setCell {w:World} {b t:Nat} {p:Addr} {u:Value} (h:TypeAt w b t) :TypeAt (w.setCell p u) b t:=by
 obtain⟨cs,fr,h⟩:=h;by_cases hp:p.block=b
 ·exact⟨_,_,by simp only [World.setCell,Array.getElem?_modify];rw [if_pos hp,h];rfl⟩
 ·exact⟨cs,fr,by rw [Below.heap_setCell _ _ _ _ (Ne.symm hp)];exact h⟩
theorem TypeAt.lt {w:World} {b t:Nat} (h:TypeAt w b t) :b<w.heap.size:=by
 obtain⟨cs,fr,h⟩:=h;exact lB h
theorem TypeAt.below {w w':World} {b t:Nat} (h:TypeAt w b t) (hb:Below w.heap.size w w') :TypeAt w' b t:=by
 obtain⟨cs,fr,h⟩:=h;exact⟨cs,fr,bB h hb⟩
theorem Own.setCellT {α:Type} {size:Nat} {w:World} {base e t:Nat} {E:Enc α size} {v:Value} {l:List α} {p:Addr} {u:Value} (h:Own w base e E v l) (hT:TypeAt w p.block t) (hne:e≠t) :Own (w.setCell p u) base e E v l:=by
 obtain⟨cs,fr,hh⟩:=hT;exact h.setCell (h.ne_block hh hne) u
theorem Own.setCellB {α:Type} {size:Nat} {w:World} {base e:Nat} {E:Enc α size} {v:Value} {l:List α} {p:Addr} {u:Value} (h:Own w base e E v l) (hp:p.block<base) :Own (w.setCell p u) base e E v l:=
 h.setCell (fun he=>by have:=(h.lt _ he).1;omega) u
theorem Own.len_le {α:Type} {size:Nat} {w:World} {base e n cap:Nat} {A:Option Addr} {E:Enc α size} {l:List α} (h:Own w base e E (.slice A n cap) l) :n=l.length∧l.length≤cap∧cap≤maxLen:=by
 rcases h with ⟨hv,rfl⟩ | ⟨g,o,c,cur,hv,_,_,h1,h2,_⟩
 ·cases hv;simp
 ·cases hv;exact⟨rfl,h1,h2⟩
theorem Own.sl {α:Type} {size:Nat} {w:World} {base e n cap:Nat} {A:Option Addr} {E:Enc α size} {l:List α} (h:Own w base e E (.slice A n cap) l) :Sl w w.heap.size E A l:=by
 obtain⟨A',cap',hv,_,_,hS,_⟩:=h.form
 cases hv
 exact hS
def SlT {α:Type} {size:Nat} (w:World) (e:TypeId) (E:Enc α size) (A:Option Addr) (l:List α) :Prop:=
 l= []∨∃b off,A=some ⟨b,off,none⟩∧TypeAt w b e∧∀i x,l[i]? =some x→∀j u,(E.enc x)[j]? =some u→w.cell? ⟨b,off+i*size+j,none⟩ =some u
section
variable {α:Type} {size:Nat} {w w':World} {e t:TypeId} {E:Enc α size} {A:Option Addr} {l:List α}
theorem SlT.below (h:SlT w e E A l) (hb:Below w.heap.size w w') :SlT w' e E A l:=by
 rcases h with h| ⟨b,off,hA,hT,hc⟩
 ·exact .inl h
 ·exact .inr ⟨b,off,hA,hT.below hb,fun i x hi j u hj=>(hb.cell (p:=⟨b,_,none⟩) hT.lt).trans (hc i x hi j u hj)⟩
theorem Own.slT {base n cap:Nat} (h:Own w base e E (.slice A n cap) l) :SlT w e E A l:=by
 rcases h with ⟨hv,rfl⟩ | ⟨g,off,cap,cur,hv,hg,hh,h1,h2,h3,h4⟩
 ·exact .inl rfl
 ·cases hv
  refine .inr ⟨g,off,rfl,.of hh,fun i x hi j u hj=> ?_⟩;rw [cell_of_row _ _ _ _ _ _ hh,Nat.add_assoc];exact h4 _ u (flat_get E l i j x u hi hj)
theorem SlT.cell_at {b off:Nat} (h:SlT w e E (some ⟨b,off,none⟩) l) {k:Nat} (hk:k<l.length) (j:Nat) (u:Value) (hj: (E.enc l[k])[j]? =some u) :w.cell? ⟨b,off+k*size+j,none⟩ =some u:=by
 rcases h with h| ⟨b',off',hA,_,hc⟩
 ·subst h;simp at hk
 ·cases hA;exact hc k _ (List.getElem?_eq_getElem hk) j u hj
theorem SlT.at_ (h:SlT w e E A l) {k:Nat} (hk:k<l.length) : ∃b off,A=some ⟨b,off,none⟩∧TypeAt w b e∧∀j u,(E.enc l[k])[j]? =some u→w.cell? ⟨b,off+k*size+j,none⟩ =some u:=by
 rcases h with h| ⟨b,off,hA,hb,hc⟩
 ·subst h;simp at hk
 ·exact⟨b,off,hA,hb,fun j u hj=>hc k _ (List.getElem?_eq_getElem hk) j u hj⟩
end
structure Turn (F:Nat→Prop) (w w':World) :Prop where
 os:w'.os=w.os
 tape:w'.tape=w.tape
 output:w'.output=w.output
 size:w.heap.size≤w'.heap.size
 block: ∀b,b<w.heap.size→¬F b→w'.heap[b]? =w.heap[b]?
def Grow (w:World) (F F':Nat→Prop) :Prop:=∀b,F' b→F b∨w.heap.size≤b
section
variable {F F' F'':Nat→Prop} {w w1 w2:World}
theorem Turn.refl (F:Nat→Prop) (w:World) :Turn F w w:=⟨rfl,rfl,rfl,Nat.le_refl _,fun _ _ _=>rfl⟩
theorem Turn.mono (h:Turn F w w1) (hF: ∀b,b<w.heap.size→F b→F' b) :Turn F' w w1:=⟨h.os,h.tape,h.output,h.size,fun b hb hn=>h.block b hb fun hf=>hn (hF b hb hf)⟩
theorem Turn.trans (h:Turn F w w1) (k:Turn F' w1 w2) (hG:Grow w F F') :Turn F w w2:=
 ⟨k.os.trans h.os,k.tape.trans h.tape,k.output.trans h.output,Nat.le_trans h.size k.size,fun b hb hn=>(k.block b (Nat.lt_of_lt_of_le hb h.size) fun hf=>by
  rcases hG b hf with hf|hf
  ·exact hn hf
  ·omega).trans (h.block b hb hn)⟩
theorem Turn.of_below (h:Below w.heap.size w w1) :Turn F w w1:=⟨h.os,h.tape,h.output,h.size,fun b hb _=>h.block b hb⟩
theorem Turn.below (h:Turn F w w1) {base:Nat} (hF: ∀b,F b→base≤b) (hb:base≤w.heap.size) :Below base w w1:=
 ⟨h.os,h.tape,h.output,h.size,fun b hlt=>h.block b (by omega) fun hf=>by have:=hF b hf;omega⟩
theorem Turn.more (h:Turn F w w1) (k:Below w1.heap.size w1 w2) :Turn F w w2:=h.trans (.of_below k) (fun _ hf=>.inl hf)
theorem Turn.setCell (h:Turn F w w1) {p:Addr} (hp:F p.block∨w.heap.size≤p.block) (u:Value) :Turn F w (w1.setCell p u):=
 ⟨h.os,h.tape,h.output,by simp [World.setCell];exact h.size,fun b hb hn=>by
  rw [Below.heap_setCell _ _ _ _ (by
   rintro rfl;rcases hp with hp|hp
   ·exact hn hp
   ·omega)]
  exact h.block b hb hn⟩
theorem Turn.alloc (h:Turn F w w1) (o:Obj) :Turn F w (w1.alloc o):=h.more ((Below.refl _ _).alloc (Nat.le_refl _) o)
theorem Turn.drew (h:Turn F w w1) :Turn F w w1.drew:=⟨h.os,h.tape,h.output,h.size,h.block⟩
theorem Turn.grown (h:Turn F w w1) {row:Option Nat} (hg:w1.grownBy w2 row) (hr: ∀b,row=some b→F b∨w.heap.size≤b) :Turn F w w2:=
 ⟨hg.os.trans h.os,hg.tape.trans h.tape,hg.output.trans h.output,Nat.le_trans h.size hg.size,fun b hb hn=>(hg.block b (Nat.lt_of_lt_of_le hb h.size) fun he=>by
  rcases hr b he.symm with hf|hf
  ·exact hn hf
  ·omega).trans (h.block b hb hn)⟩
theorem Grow.refl:Grow w F F:=fun _ h=>.inl h
theorem Grow.trans (h:Grow w F F') (k:Grow w1 F' F'') (hs:w.heap.size≤w1.heap.size) :Grow w F F'':=fun b hb=>by
 rcases k b hb with hb|hb
 ·exact h b hb
 ·exact .inr (Nat.le_trans hs hb)
theorem Turn.keep {o:Obj} {b:Nat} (h:Turn F w w1) (hb:w.heap[b]? =some o) (hn: ¬F b) :w1.heap[b]? =some o:=(h.block b (lB hb) hn).trans hb
theorem Turn.own {α:Type} {size base e:Nat} {E:Enc α size} {v:Value} {l:List α} (h:Turn F w w1) (ho:Own w base e E v l) (hn: ∀b,v.ownBlock=some b→¬F b) :Own w1 base e E v l:=
 ho.of_block fun g hv=>h.block g (ho.lt g hv).2 (hn g hv)
theorem Turn.cell {b o:Nat} (h:Turn F w w1) (hb:b<w.heap.size) (hn: ¬F b) :w1.cell? ⟨b,o,none⟩ =w.cell? ⟨b,o,none⟩:=World.cell?_of_block (h.block b hb hn)
end
abbrev Nd:=Int×Int
def Roll (r:List Nd) :Prop:=r.Pairwise (fun a b=>a.1<b.1)∧∀x∈r,1≤x.1∧1≤x.2
def getR:List Nd→Int→Int
 | [],_=>0
 |x :: r,id=>if x.1=id then x.2 else getR r id
def addR:List Nd→Int→Int→List Nd
 | [],id,c=> [(id,c)]
 |x :: r,id,c=>if x.1=id then (id,x.2+c) :: r else if id<x.1 then (id,c) :: x :: r else x :: addR r id c
def delR:List Nd→Int→List Nd
 | [],_=> []
 |x :: r,id=>if x.1=id then r else x :: delR r id
def sumR:List Nd→Int
 | []=>0
 |x :: r=>x.2+sumR r
theorem Roll.tail {x:Nd} {r:List Nd} (h:Roll (x :: r)) :Roll r:=⟨(List.pairwise_cons.1 h.1).2,fun y hy=>h.2 y (List.mem_cons_of_mem _ hy)⟩
theorem Roll.head {x:Nd} {r:List Nd} (h:Roll (x :: r)) : ∀y∈r,x.1<y.1:=(List.pairwise_cons.1 h.1).1
theorem getR_none {r:List Nd} {id:Int} (h: ∀x∈r,x.1≠id) :getR r id=0:=by
 induction r with
 |nil=>rfl
 |cons x r ih=>
  simp only [getR];rw [if_neg (h x (by simp)),ih fun y hy=>h y (by simp [hy])]
theorem getR_mem {r:List Nd} (hr:Roll r) {x:Nd} (hx:x∈r) :getR r x.1=x.2:=by
 induction r with
 |nil=>simp at hx
 |cons y r ih=>
  simp only [getR];rcases List.mem_cons.1 hx with rfl|hx
  ·rw [if_pos rfl]
  ·have:=hr.head x hx
   rw [if_neg (by omega)];exact ih hr.tail hx
theorem getR_pos {r:List Nd} (hr:Roll r) {id:Int} (h:getR r id≠0) : (id,getR r id)∈r:=by
 induction r with
 |nil=>simp [getR] at h
 |cons y r ih=>
  simp only [getR] at h⊢;by_cases hy:y.1=id
  ·rw [if_pos hy];subst hy;simp
  ·rw [if_neg hy] at h⊢
   exact List.mem_cons_of_mem _ (ih hr.tail h)
theorem getR_nonneg {r:List Nd} (hr:Roll r) (id:Int) :0≤getR r id:=by
 by_cases h:getR r id=0
 ·omega
 ·have:=(hr.2 _ (getR_pos hr h)).2
  simp only at this;omega
theorem addR_mem {r:List Nd} {id c:Int} {y:Nd} (h:y∈addR r id c) :y.1=id∨y∈r:=by
 induction r with
 |nil=>simp [addR] at h;subst h;exact .inl rfl
 |cons x r ih=>
  simp only [addR] at h
  split at h
  ·rcases List.mem_cons.1 h with rfl|h
   ·exact .inl rfl
   ·exact .inr (List.mem_cons_of_mem _ h)
  ·split at h
   ·rcases List.mem_cons.1 h with rfl|h
    ·exact .inl rfl
    ·exact .inr h
   ·rcases List.mem_cons.1 h with rfl|h
    ·exact .inr (by simp)
    ·exact(ih h).imp (fun h=>h) (fun h=>List.mem_cons_of_mem _ h)
theorem Roll.cons {x:Nd} {r:List Nd} (h:Roll r) (hx: ∀y∈r,x.1<y.1) (h1:1≤x.1) (h2:1≤x.2) :Roll (x :: r):=by
 refine⟨List.pairwise_cons.2 ⟨hx,h.1⟩,fun y hy=> ?_⟩;rcases List.mem_cons.1 hy with rfl|hy
 ·exact⟨h1,h2⟩
 ·exact h.2 y hy
theorem Roll.add {r:List Nd} (hr:Roll r) {id c:Int} (h1:1≤id) (h2:1≤c) :Roll (addR r id c):=by
 induction r with
 |nil=>exact Roll.cons hr (by simp) h1 h2
 |cons x r ih=>
  have hx:=hr.2 x (by simp);simp only [addR]
  split
  ·rename_i he
   exact Roll.cons hr.tail (fun y hy=>by have:=hr.head y hy;simp only;omega) h1 (by simp only;omega)
  ·split
   ·rename_i hlt
    refine Roll.cons hr (fun y hy=> ?_) h1 h2;rcases List.mem_cons.1 hy with rfl|hy
    ·exact hlt
    ·have:=hr.head y hy;simp only;omega
   ·rename_i hne hge
    refine Roll.cons (ih hr.tail) (fun y hy=> ?_) hx.1 hx.2;rcases addR_mem hy with hy|hy
    ·omega
    ·exact hr.head y hy
theorem getR_add {r:List Nd} (hr:Roll r) (id c j:Int) :getR (addR r id c) j=if j=id then getR r id+c else getR r j:=by
 induction r with
 |nil=>
  simp only [addR,getR];by_cases h:id=j
  ·rw [if_pos h,if_pos h.symm];omega
  ·rw [if_neg h,if_neg (fun e=>h e.symm)]
 |cons x r ih=>
  simp only [addR]
  split
  ·rename_i he
   simp only [getR];by_cases h:j=id
   ·subst h;simp [he]
   ·have h2: ¬x.1=j:=by omega
    rw [if_neg (fun e=>h e.symm),if_neg h,if_neg h2]
  ·rename_i hne
   split
   ·rename_i hlt
    have h0:getR (x :: r) id=0:=getR_none (fun y hy=>by
     rcases List.mem_cons.1 hy with rfl|hy
     ·omega
     ·have:=hr.head y hy;omega)
    show (if id=j then c else getR (x :: r) j) =_
    by_cases h:j=id
    ·rw [if_pos h.symm,if_pos h,h0];omega
    ·rw [if_neg (fun e=>h e.symm),if_neg h]
   ·show (if x.1=j then x.2 else getR (addR r id c) j) =if j=id then (if x.1=id then x.2 else getR r id) +c else (if x.1=j then x.2 else getR r j)
    rw [ih hr.tail];by_cases h:j=id
    ·subst h;rw [if_neg hne,if_pos rfl,if_pos rfl];simp [hne]
    ·rw [if_neg h,if_neg h]
theorem sumR_add (r:List Nd) (id c:Int) :sumR (addR r id c) =sumR r+c:=by
 induction r with
 |nil=>simp [addR,sumR]
 |cons x r ih=>
  simp only [addR]
  split
  ·simp only [sumR];omega
  ·split
   ·simp only [sumR];omega
   ·simp only [sumR,ih];omega
theorem len_add {r:List Nd} (hr:Roll r) (id c:Int) : (addR r id c).length=if getR r id=0 then r.length+1 else r.length:=by
 induction r with
 |nil=>simp [addR,getR]
 |cons x r ih=>
  have hx:=hr.2 x (by simp);simp only [addR,getR]
  split
  ·rw [if_neg (by omega)];simp
  ·split
   ·rw [if_pos (getR_none fun y hy=>by have:=hr.head y hy;omega)];simp
   ·simp only [List.length_cons,ih hr.tail]
    split <;> rfl
theorem delR_sub {r:List Nd} {id:Int} {y:Nd} (h:y∈delR r id) :y∈r:=by
 induction r with
 |nil=>simp [delR] at h
 |cons x r ih=>
  simp only [delR] at h
  split at h
  ·exact List.mem_cons_of_mem _ h
  ·rcases List.mem_cons.1 h with rfl|h
   ·simp
   ·exact List.mem_cons_of_mem _ (ih h)
theorem Roll.del {r:List Nd} (hr:Roll r) (id:Int) :Roll (delR r id):=by
 induction r with
 |nil=>exact hr
 |cons x r ih=>
  have hx:=hr.2 x (by simp);simp only [delR]
  split
  ·exact hr.tail
  ·exact Roll.cons (ih hr.tail) (fun y hy=>hr.head y (delR_sub hy)) hx.1 hx.2
theorem getR_del {r:List Nd} (hr:Roll r) (id j:Int) :getR (delR r id) j=if j=id then 0 else getR r j:=by
 induction r with
 |nil=>simp [delR,getR]
 |cons x r ih=>
  simp only [delR]
  split
  ·rename_i he
   by_cases h:j=id
   ·rw [if_pos h,getR_none fun y hy=>by have:=hr.head y hy;omega]
   ·simp only [getR];rw [if_neg h,if_neg (by omega)]
  ·rename_i hne
   simp only [getR];rw [ih hr.tail];by_cases h:j=id
   ·subst h;rw [if_neg hne,if_pos rfl];simp
   ·rw [if_neg h,if_neg h]
theorem sumR_del {r:List Nd} (hr:Roll r) (id:Int) :sumR (delR r id) =sumR r - getR r id:=by
 induction r with
 |nil=>simp [delR,sumR,getR]
 |cons x r ih=>
  simp only [delR,getR]
  split
  ·simp only [sumR];omega
  ·simp only [sumR,ih hr.tail];omega
theorem sumR_nonneg {r:List Nd} (hr:Roll r) :0≤sumR r:=by
 induction r with
 |nil=>simp [sumR]
 |cons x r ih=>
  have hx:=hr.2 x (by simp);have:=ih hr.tail;simp only [sumR];omega
theorem getR_le_sum {r:List Nd} (hr:Roll r) (id:Int) :getR r id≤sumR r:=by
 have h:=sumR_del hr id;have h2:=sumR_nonneg (hr.del id);omega
theorem len_le_sum {r:List Nd} (hr:Roll r) : (r.length:Int)≤sumR r:=by
 induction r with
 |nil=>simp [sumR]
 |cons x r ih=>
  have hx:=hr.2 x (by simp);have:=ih hr.tail;simp only [sumR,List.length_cons];omega
section
attribute [local go_sem ↓] Go.wp_at_zero Go.wp_at_succ
abbrev It:=Int×ByteArray
structure WS where
 sent:Nat
 taken:Nat
 lost:Nat
 copied:Nat
 spoilt:Nat
 items:List It
def encI:Enc It 2:=⟨fun x=> [.int .i64 x.1,.string x.2],fun _=>rfl,by intro x u hu;simp at hu;rcases hu with rfl|rfl <;> rfl⟩
theorem tyI:SliceTy Tryz.prog 179 193 2 24 (.agg #[.int .i64 0,.string ⟨#[]⟩]):=⟨Tryz.underlying179,by kernel_rfl,rfl,by decide⟩
def waveCells (s:WS) (v:Value) :Array Value:= #[.int .i64 s.sent,.int .i64 s.taken,.int .i64 s.lost,.int .i64 s.copied,.int .i64 s.spoilt,v]
def WaveAt (w:World) (base g:Nat) (s:WS) :Prop:=
 ∃v,w.heap[g]? =some (.cells (waveCells s v) 181 (0,0))∧base≤g∧Own w base 193 encI v s.items
def waveF (w:World) (g b:Nat) :Prop:=b=g∨∃v,w.cell? ⟨g,5,none⟩ =some v∧v.ownBlock=some b
def WTurn (g:Nat) (w w':World) :Prop:=g<w.heap.size∧Turn (waveF w g) w w'∧Grow w (waveF w g) (waveF w' g)
theorem WTurn.trans {g:Nat} {a b c:World} (h:WTurn g a b) (k:WTurn g b c) :WTurn g a c:=⟨h.1,h.2.1.trans k.2.1 h.2.2,h.2.2.trans k.2.2 h.2.1.size⟩
theorem WTurn.of_below {g:Nat} {w w':World} (hg:g<w.heap.size) (hb:Below w.heap.size w w') :WTurn g w w':=
 ⟨hg,.of_below hb,fun b hf=>by
  rcases hf with rfl| ⟨v,h1,h2⟩
  ·exact .inl (.inl rfl)
  ·exact .inl (.inr ⟨v,(hb.cell (p:=⟨g,5,none⟩) hg).symm.trans h1,h2⟩)⟩
theorem waveF_of {w:World} {g b:Nat} {cs:Array Value} {t:TypeId} {fr:Nat×Nat} {v:Value} (hh:w.heap[g]? =some (.cells cs t fr)) (hc:cs[5]? =some v) :waveF w g b↔b=g∨v.ownBlock=some b:=by
 unfold waveF;rw [show w.cell? ⟨g,5,none⟩ =some v by rw [cell_of_row _ _ _ _ _ _ hh];exact hc];refine or_congr Iff.rfl ⟨fun ⟨u,h1,h2⟩=> ?_,fun h=>⟨v,rfl,h⟩⟩
 cases h1
 exact h2
def WavePost (w:World) (base g:Nat) (s':WS) (r:Value) (e:Ending) (w':World) :Prop:=
 e=.returned r∧WaveAt w' base g s'∧Below base w w'∧KeepT [181,193] w w'∧WTurn g w w'
theorem heap_setCell_at {w:World} {g i:Nat} {cs:Array Value} {t:TypeId} (h:w.heap[g]? =some (.cells cs t (0,0))) (u:Value) : (w.setCell ⟨g,i,none⟩ u).heap[g]? =some (.cells (cs.setIfInBounds i u) t (0,0)):=by
 simp [World.setCell,Array.getElem?_modify,h]
theorem store_items {w1:World} {base g:Nat} {s:WS} {v v':Value} {l:List It} (hh:w1.heap[g]? =some (.cells (waveCells s v) 181 (0,0))) (hg:base≤g) (ho:Own w1 base 193 encI v' l) :
 WaveAt (w1.setCell ⟨g,5,none⟩ v') base g {s with items:=l}:=
 ⟨v',heap_setCell_at hh v',hg,ho.setCell (ho.ne_block hh (by decide)) _⟩
theorem WaveAt.count {w:World} {base g:Nat} {s s':WS} (h:WaveAt w base g s) (i:Nat) (u:Value) (hi: ∀v,(waveCells s v).setIfInBounds i u=waveCells s' v) (hs:s'.items=s.items) :WaveAt (w.setCell ⟨g,i,none⟩ u) base g s':=by
 obtain⟨v,hh,hg,ho⟩:=h;exact⟨v,by rw [←hi v];exact heap_setCell_at hh u,hg,by rw [hs];exact ho.setCell (ho.ne_block hh (by decide)) _⟩
theorem WaveAt.below {w w':World} {base g:Nat} {s:WS} (h:WaveAt w base g s) (hb:Below w.heap.size w w') :WaveAt w' base g s:=by
 obtain⟨v,hh,hg,ho⟩:=h;exact⟨v,(hb.block g (lB hh)).trans hh,hg,ho.below hb⟩
theorem WavePost.of_below {w w':World} {base g:Nat} {s:WS} {r:Value} (h:WaveAt w base g s) (hb:base≤w.heap.size) (hB:Below w.heap.size w w') :WavePost w base g s r (.returned r) w':=
 ⟨rfl,h.below hB,hB.mono hb,.of_below hB,.of_below (by obtain⟨v,hh,_⟩:=h;exact lB hh) hB⟩
theorem store_post {w wd w1:World} {base g:Nat} {s:WS} {l0 l:List It} {v v0 v':Value} (hb:base≤w.heap.size) (hh:w.heap[g]? =some (.cells (waveCells s v) 181 (0,0))) (hg:base≤g) (hd:Below w.heap.size w wd)
 (ho:Own wd base 193 encI v0 l0) (hgrow:wd.grownBy w1 v0.ownBlock) (ho1:Own w1 base 193 encI v' l) (hv0: ∀b,v0.ownBlock=some b→v.ownBlock=some b) (hl:v'.ownBlock=v0.ownBlock∨v'.ownBlock=some wd.heap.size) (r:Value) :WavePost w base g {s with items:=l} r (.returned r) (w1.setCell ⟨g,5,none⟩ v'):=by
 have hh1:wd.heap[g]? =some (.cells (waveCells s v) 181 (0,0)):=(hd.block g (lB hh)).trans hh;have hn:=ho.ne_block hh1 (by decide);have hh2:w1.heap[g]? =some (.cells (waveCells s v) 181 (0,0)):=(hgrow.block g (lB hh1) (Ne.symm hn)).trans hh1;have hF: ∀b,waveF w g b↔b=g∨v.ownBlock=some b:=fun b=>waveF_of hh rfl;have hF': ∀b,waveF (w1.setCell ⟨g,5,none⟩ v') g b↔b=g∨v'.ownBlock=some b:=fun b=>waveF_of (heap_setCell_at hh2 v') rfl;refine⟨rfl,store_items hh2 hg ho1,?_,?_,lB hh,?_,?_⟩
 ·exact((hd.mono hb).grown hgrow (Nat.le_trans hb hd.size) fun k hk=>(ho.lt k hk).1).setCell hg _
 ·exact((KeepT.of_below hd).grown ho hgrow (by simp)).setCell hh2 (by simp) _
 ·exact((Turn.of_below hd).grown hgrow fun b hb=>.inl ((hF b).2 (.inr (hv0 b hb)))).setCell (.inl ((hF g).2 (.inl rfl))) _
 ·intro b hf
  rcases (hF' b).1 hf with rfl|hf
  ·exact .inl ((hF b).2 (.inl rfl))
  ·rcases hl with hl|hl
   ·exact .inl ((hF b).2 (.inr (hv0 b (hl ▸ hf))))
   ·right
    rw [hl] at hf;obtain rfl:=Option.some.inj hf;exact hd.size
theorem wave_put (w:World) (base g:Nat) (s:WS) (x:It) (h:WaveAt w base g s) (hlen:s.items.length≤256) (hb:base≤w.heap.size) :
 Calls Tryz.prog 111 #[.pointer (some ⟨g,0,none⟩),.agg #[.int .i64 x.1,.string x.2]] w
  (WavePost w base g (if s.items.length=256 then s else {s with items:=s.items ++ [x]}) (.int .i64 (if s.items.length=256 then 21 else 0))):=by
 obtain⟨v,hh,hg,ho⟩:=h;obtain⟨A,cap,rfl,_,hm,hS,_⟩:=ho.form;have c5:w.cell? ⟨g,5,none⟩ =some (.slice A s.items.length cap):=by rw [cell_of_row _ _ _ _ _ _ hh];rfl
 have lg:g<w.heap.size:=lB hh;by_cases hfull:s.items.length=256
 ·rw [if_pos hfull,if_pos hfull]
  have ht: (256:Int)≤(s.items.length:Int):=by omega
  go_enter Tryz.func111,Tryz.ntmps111
  go_wp2;go_ret;exact WavePost.of_below ⟨_,hh,hg,ho⟩ hb bE
 ·rw [if_neg hfull,if_neg hfull]
  have ht: ¬(256:Int)≤(s.items.length:Int):=by omega
  have HO:=LH ho;clear ho
  go_enter Tryz.func111,Tryz.ntmps111
  go_wp2_with fail;have n1:=HO.out.ne_block hh (by decide);have n2:=HO.out.not_at w.heap.size (Nat.le_refl _);have fg:w.frozen? ⟨g,5,none⟩ =false:=by simp [World.frozen?,hh]
  go_region_law ((refine step_app tyI (by rfl) _ _ (by rfl) encI base _ _ (by rfl) ((HO.out.alloc _).alloc _).drew (some ⟨w.heap.size+1,0,none⟩) 1 [x] _ (by rfl) (sl_lit (w.alloc (Obj.cells #[.int .i64 x.1,.string x.2] 193)) encI [x] _ (w.heap.size+1) (by simp)).drew (by simp;omega) (by simp [maxLen];omega) (by simp;omega) ?_;intro v' w1 ho1 hgrow hlies hb1 _;obtain⟨A',c',rfl,_,_,_,_⟩:=ho1.form;have e5:=(grown_cell hgrow g (by simp;omega) n1 5).trans (by simp [go_sem,c5,lg] :_=some (Value.slice A s.items.length cap));have e6:=(grown_frozen hgrow g (by simp;omega) n1 5).trans (by simp [go_sem,fg,lg] :_=false)))
  all_goals
   rw [show (s.items ++ [x]).length=s.items.length+1 by simp] at ho1 hlies;go_wp2;go_ret;exact store_post hb hh hg (Below.allocW (Below.allocW (Below.refl _ _) _) _).drew ((HO.out.alloc _).alloc _).drew hgrow ho1 (fun _ h=>h) hlies _
@[go_sem] theorem run_field_counted (w:World) (p:Option Addr) : (Instr.field 196 (.agg #[.pointer p]) 0).run Tryz.prog w=.ok (.pointer p) w:=by kernel_rfl
theorem wave_with (w:World) (g:Nat) :Calls Tryz.prog 112 #[.pointer (some ⟨g,0,none⟩)] w fun e w'=>e=.returned (.agg #[.pointer (some ⟨g,0,none⟩)])∧Below w.heap.size w w':=by
 go_enter Tryz.func112,Tryz.ntmps112
 go_wp2;exact bR (v:=.agg #[.pointer (some ⟨g,0,none⟩)]) (by simp only [results,Tryz.results112];go_simp) rfl ⟨rfl,bE⟩
theorem wave_sent (w:World) (g:Nat) (n:Nat) (hn:n<4611686018427387904) (hc:w.cell? ⟨g,0,none⟩ =some (.int .i64 n)) (hf:w.frozen? ⟨g,0,none⟩ =false) :
 Calls Tryz.prog 113 #[.pointer (some ⟨g,0,none⟩)] w fun e w'=>e=.returned (.tuple #[])∧w.setCell ⟨g,0,none⟩ (.int .i64 ((n+1:Nat) :Int)) =w':=by
 go_enter Tryz.func113,Tryz.ntmps113
 go_wp2
 go_end0
 exact⟨rfl,by simp⟩
structure WaveRel (w:World) (base g:Nat) (s':WS) (w':World) :Prop where
 at_:WaveAt w' base g s'
 below:Below base w w'
 keep:KeepT [181,193] w w'
 turn:WTurn g w w'
theorem WavePost.rel {w w':World} {base g:Nat} {s':WS} {r:Value} {e:Ending} (h:WavePost w base g s' r e w') :e=.returned r∧WaveRel w base g s' w':=⟨h.1,h.2.1,h.2.2.1,h.2.2.2.1,h.2.2.2.2⟩
theorem WaveRel.post {w w':World} {base g:Nat} {s':WS} {r:Value} (h:WaveRel w base g s' w') :WavePost w base g s' r (.returned r) w':=⟨rfl,h.at_,h.below,h.keep,h.turn⟩
theorem WaveRel.more {w w1 w2:World} {base g:Nat} {s1:WS} (h:WaveRel w base g s1 w1) (hb:base≤w.heap.size) (k:Below w1.heap.size w1 w2) :WaveRel w base g s1 w2:=
 ⟨h.at_.below k,h.below.trans (k.mono (Nat.le_trans hb h.below.size)),h.keep.trans (.of_below k),h.turn.trans (.of_below (Nat.lt_of_lt_of_le h.turn.1 h.turn.2.1.size) k)⟩
theorem WaveRel.count {w w1:World} {base g:Nat} {s1 s2:WS} (h:WaveRel w base g s1 w1) (i:Nat) (u:Value) (hi: ∀v,(waveCells s1 v).setIfInBounds i u=waveCells s2 v) (hs:s2.items=s1.items) :WaveRel w base g s2 (w1.setCell ⟨g,i,none⟩ u):=by
 have hk:=h.at_.count i u hi hs;obtain⟨v,hh,hg,ho⟩:=h.at_;have hh2: (w1.setCell ⟨g,i,none⟩ u).heap[g]? =some (.cells (waveCells s2 v) 181 (0,0)):=by rw [←hi v];exact heap_setCell_at hh u
 refine⟨hk,h.below.setCell hg _,h.keep.setCell hh (by simp) _,h.turn.1,h.turn.2.1.setCell (h.turn.2.2 g (.inl rfl)) _,fun b hf=>h.turn.2.2 b ((waveF_of hh rfl).2 ((waveF_of hh2 rfl).1 hf))⟩
theorem WaveAt.cell {w:World} {base g:Nat} {s:WS} (h:WaveAt w base g s) (i:Nat) (u:Value) (hi: ∀v,(waveCells s v)[i]? =some u) :w.cell? ⟨g,i,none⟩ =some u:=by
 obtain⟨v,hh,hg,ho⟩:=h;rw [cell_of_row _ _ _ _ _ _ hh,hi]
theorem WaveAt.frozen {w:World} {base g:Nat} {s:WS} (h:WaveAt w base g s) (i:Nat) :w.frozen? ⟨g,i,none⟩ =false:=by
 obtain⟨v,hh,hg,ho⟩:=h;simp [World.frozen?,hh]
def WS.small (s:WS) :Prop:=s.sent<4611686018427387904∧s.taken<4611686018427387904∧s.lost<4611686018427387904∧s.copied<4611686018427387904∧s.spoilt<4611686018427387904
def WS.send (s:WS) (x:It) :WS×Nat:=if s.items.length=256 then (s,21) else ({s with items:=s.items ++ [x],sent:=s.sent+1},0)
theorem wave_Send (w:World) (base g:Nat) (s:WS) (x:It) (h:WaveAt w base g s) (hs:s.small) (hlen:s.items.length≤256) (hb:base≤w.heap.size) :
 Calls Tryz.prog 68 #[.pointer (some ⟨g,0,none⟩),.int .i64 x.1,.string x.2] w (WavePost w base g (s.send x).1 (.int .i64 (s.send x).2)):=by
 have HP:=LH (wave_put w base g s x h hlen hb);have HH:=LH h;clear h;by_cases hfull:s.items.length=256
 ·rw [if_pos hfull,if_pos hfull] at HP
  have e1:s.send x= (s,21):=by simp [WS.send,hfull]
  rw [e1]
  go_enter Tryz.func68,Tryz.ntmps68
  go_wp2_with fail;refine HP.out.mono ?_;intro e w1 hp;obtain⟨rfl,hr⟩:=hp.rel;go_wp2_with fail;go_ret;exact hr.post
 ·rw [if_neg hfull,if_neg hfull] at HP
  have e1:s.send x= ({s with items:=s.items ++ [x],sent:=s.sent+1},0):=by simp [WS.send,hfull]
  rw [e1]
  go_enter Tryz.func68,Tryz.ntmps68
  go_wp2_with fail;refine HP.out.mono ?_;intro e w1 hp;obtain⟨rfl,hr⟩:=hp.rel;go_wp2_with fail;refine(wave_with _ _).mono ?_;rintro e w2 ⟨rfl,hb2⟩;have hr2:=hr.more hb hb2;go_wp2_with fail;refine(wave_sent _ _ s.sent hs.1 (hr2.at_.cell 0 _ (fun _=>rfl)) (hr2.at_.frozen 0)).mono ?_;rintro e w3 ⟨rfl,rfl⟩;go_wp2_with fail;go_ret;exact(hr2.count (s2:={s with items:=s.items ++ [x],sent:=s.sent+1}) 0 _ (fun _=>rfl) rfl).post
def WS.has (s:WS) (i:Int) :Bool:=decide (0≤i) && decide (i<s.items.length)
theorem WS.has_tt {s:WS} {i:Int} (h:s.has i=true) : ∃k:Nat,i=k∧k<s.items.length:=by
 simp [WS.has] at h
 exact⟨i.toNat,by omega,by omega⟩
def WS.at_ (s:WS) (i:Int) :Int×ByteArray×Bool:=if s.has i then ((s.items.getD i.toNat (0,⟨#[]⟩)).1,(s.items.getD i.toNat (0,⟨#[]⟩)).2,true) else (0,⟨#[]⟩,false)
def atV (r:Int×ByteArray×Bool) :Value:=.tuple #[.int .i64 r.1,.string r.2.1,.bool r.2.2]
def WS.cut (s:WS) (k:Nat) :WS:={s with items:=s.items.take k ++ s.items.drop (k+1)}
def WS.wrong (s:WS) (i:Int) :Nat:=if s.has i then 0 else 2
def WS.take (s:WS) (i:Int) :WS:=if s.has i then {s.cut i.toNat with taken:=s.taken+1} else s
def WS.lose (s:WS) (i:Int) :WS×Nat:=if s.has i then ({s.cut i.toNat with lost:=s.lost+1},0) else (s,2)
def WS.copy (s:WS) (i:Int) :WS×Nat:=if s.has i then (if s.items.length=256 then (s,21) else ({s with items:=s.items ++ [s.items.getD i.toNat (0,⟨#[]⟩)],copied:=s.copied+1},0)) else (s,2)
theorem wave_New (w:World) :Calls Tryz.prog 57 #[] w fun e w'=>e=.returned (.pointer (some ⟨w.heap.size,0,none⟩))∧Below w.heap.size w w'∧WaveAt w' w.heap.size w.heap.size ⟨0,0,0,0,0, []⟩:=by
 go_enter Tryz.func57,Tryz.ntmps57
 go_wp2;go_ret;exact⟨rfl,bE,.slice none 0 0,heap_alloc_new w _,Nat.le_refl _,.nil _ _ _ _⟩
end
def xorB (x b:Int) :Int:=bits .xor .u8 x b
def nums (t:ByteArray) :List Int:=t.data.toList.map fun c=>(c.toNat:Int)
def spoilT (t:ByteArray) (a:Nat) (b:Int) :ByteArray:=strOfNums ((nums t).set a (xorB ((nums t).getD a 0) b))
theorem nums_len (t:ByteArray) : (nums t).length=t.size:=by
 unfold nums;rw [List.length_map,Array.length_toList]
 rfl
structure BytesConv (t:ByteArray) (a:Nat) (x y:Int) (t':ByteArray) :Prop where
 conv: ∀W:World,(convert 9 235 (.string t)).run Tryz.prog W=.ok (.slice (some ⟨W.heap.size,0,none⟩) t.size (grownCap W t.size 0 5)) (Lib.bytesWorld W 5 t)
 size: ∀W:World,(Lib.bytesWorld W 5 t).heap.size=W.heap.size+1
 old: ∀(W:World) (b o:Nat),b<W.heap.size→(Lib.bytesWorld W 5 t).cell? ⟨b,o,none⟩ =W.cell? ⟨b,o,none⟩
 oldf: ∀(W:World) (b o:Nat),b<W.heap.size→(Lib.bytesWorld W 5 t).frozen? ⟨b,o,none⟩ =W.frozen? ⟨b,o,none⟩
 cell: ∀W:World,(Lib.bytesWorld W 5 t).cell? ⟨W.heap.size,a,none⟩ =some (.int .u8 x)
 frozen: ∀W:World,(Lib.bytesWorld W 5 t).frozen? ⟨W.heap.size,a,none⟩ =false
 back: ∀(W:World) (c:Nat),(convert 235 9 (.slice (some ⟨W.heap.size,0,none⟩) t.size c)).run Tryz.prog ((Lib.bytesWorld W 5 t).setCell ⟨W.heap.size,a,none⟩ (.int .u8 y)) =.ok (.string t') ((Lib.bytesWorld W 5 t).setCell ⟨W.heap.size,a,none⟩ (.int .u8 y))
 back1: ∀(W:World) (c:Nat),(convert 235 9 (.slice (some ⟨W.heap.size,0,none⟩) t.size c)).run Tryz.prog ((Lib.bytesWorld W 5 t).setCell ⟨W.heap.size,a,none⟩ (.int .u8 y)).drew=.ok (.string t') ((Lib.bytesWorld W 5 t).setCell ⟨W.heap.size,a,none⟩ (.int .u8 y)).drew
 backAny: ∀(W W':World) (c:Nat),(∀j,W'.cell? ⟨W.heap.size,j,none⟩ = ((Lib.bytesWorld W 5 t).setCell ⟨W.heap.size,a,none⟩ (.int .u8 y)).cell? ⟨W.heap.size,j,none⟩)→
  (convert 235 9 (.slice (some ⟨W.heap.size,0,none⟩) t.size c)).run Tryz.prog W'=.ok (.string t') W'
section
attribute [local go_sem ↓] Go.wp_at_zero Go.wp_at_succ
def WS.spoil (s:WS) (i a b:Int) :WS×Nat:=
 if s.has i=true∧0≤a∧a< ((s.items.getD i.toNat (0,⟨#[]⟩)).2.size:Int) then
  ({s with items:=s.items.set i.toNat ((s.items.getD i.toNat (0,⟨#[]⟩)).1,spoilT (s.items.getD i.toNat (0,⟨#[]⟩)).2 a.toNat b),spoilt:=s.spoilt+1},0) else (s,2)
end
def isNode (l id:Int) :Bool:=decide ((1≤l∧l≤48)∧1≤id∧id<2*2^l.toNat)
theorem pow_pos' (n:Nat) : (0:Int) <2^n:=by
 have:=Nat.two_pow_pos n;have h: ((2^n:Nat) :Int) =2^n:=by simp
 omega
theorem pow_le' {n m:Nat} (h:n≤m) : (2:Int) ^n≤2^m:=by
 have:=Nat.pow_le_pow_right (n:=2) (by decide) h;have h1: ((2^n:Nat) :Int) =2^n:=by simp
 have h2: ((2^m:Nat) :Int) =2^m:=by simp
 omega
theorem pow_48 {n:Nat} (h:n≤48) : (2:Int) ^n≤281474976710656:=by
 have:=pow_le' h
 simpa using this
theorem universe_ (w:World) (l:Int) :Calls Tryz.prog 198 #[.int .i64 l] w fun e w'=>e=.returned (.bool (decide (1≤l∧l≤48)))∧Below w.heap.size w w':=by
 by_cases h1:1≤l
 ·go_enter Tryz.func198,Tryz.ntmps198
  go_wp2_with fail;go_ret;exact⟨ret_bool (by simp [h1]),bE⟩
 ·go_enter Tryz.func198,Tryz.ntmps198
  go_wp2_with fail;go_ret;exact⟨ret_bool (by simp;omega),bE⟩
theorem twig_Right (w:World) (l id:Int) :Calls Tryz.prog 145 #[.int .i64 l,.int .i64 id] w fun e w'=>e=.returned (.bool (isNode l id))∧Below w.heap.size w w':=by
 by_cases h1:1≤l∧l≤48
 ·by_cases h2:1≤id
  ·obtain⟨n,rfl⟩:=Int.eq_ofNat_of_zero_le (show 0≤l by omega)
   have hp:=pow_48 (n:=n) (by omega);have hq:=pow_pos' n;have e0:isNode n id=decide (id<2*2^n):=by simp [isNode,h1,h2]
   have E0:=LH e0;have e1:decide (1≤(n:Int)∧(n:Int)≤48) =true:=by simpa using h1
   have E1:=LH e1;clear e0 e1
   go_enter Tryz.func145,Tryz.ntmps145
   go_wp2_with fail;refine(universe_ _ _).mono ?_;rintro e w1 ⟨rfl,hb1⟩;have B1:Below w.heap.size w w1:=Below.then_ bE hb1;have s1:=B1.size;rw [E1.out];go_wp2_with fail;go_ret;exact⟨ret_bool E0.out.symm,bE⟩
  ·have e0:isNode l id=false:=by simp [isNode,h2]
   have E0:=LH e0;have e1:decide (1≤l∧l≤48) =true:=by simpa using h1
   have E1:=LH e1;clear e0 e1
   go_enter Tryz.func145,Tryz.ntmps145
   go_wp2_with fail;refine(universe_ _ _).mono ?_;rintro e w1 ⟨rfl,hb1⟩;have B1:Below w.heap.size w w1:=Below.then_ bE hb1;have s1:=B1.size;rw [E1.out];go_wp2_with fail;go_ret;exact⟨ret_bool E0.out.symm,bE⟩
 ·have e0:isNode l id=false:=by simp [isNode,h1]
  have E0:=LH e0;have e1:decide (1≤l∧l≤48) =false:=by simpa using h1
  have E1:=LH e1;clear e0 e1
  go_enter Tryz.func145,Tryz.ntmps145
  go_wp2_with fail;refine(universe_ _ _).mono ?_;rintro e w1 ⟨rfl,hb1⟩;have B1:Below w.heap.size w w1:=Below.then_ bE hb1;have s1:=B1.size;rw [E1.out];go_wp2_with fail;go_ret;exact⟨ret_bool E0.out.symm,bE⟩
theorem bitLen_log (n:Nat) (h0:n≠0) (h:n<2^64) :Lib.bitLen n=n.log2+1:=by
 have:=Lib.bitLenAux_bounds 64 n h h0;have h1:2^ (Lib.bitLen n - 1)≤n:=this.2.1;have h2:n<2^Lib.bitLen n:=this.2.2;have h3:1≤Lib.bitLen n:=this.1;have h4:=Nat.log2_self_le h0;have h5:n<2^ (n.log2+1):=Nat.lt_log2_self;have h6:n.log2<Lib.bitLen n:=(Nat.pow_lt_pow_iff_right (by decide:1<2)).1 (Nat.lt_of_le_of_lt h4 h2);have h7:Lib.bitLen n - 1<n.log2+1:=(Nat.pow_lt_pow_iff_right (by decide:1<2)).1 (Nat.lt_of_le_of_lt h1 h5);omega
theorem reckon_Log (w:World) (n:Int) (hn:n≤9223372036854775807) :Calls Tryz.prog 199 #[.int .i64 n] w fun e w'=>
 e=.returned (if 1≤n then .tuple #[.int .i64 n.toNat.log2,.bool true] else .tuple #[.int .i64 0,.bool false])∧Below w.heap.size w w':=by
 by_cases h1:1≤n
 ·rw [if_pos h1]
  have hl: (Lib.bitLen n.toNat:Int) =n.toNat.log2+1:=by
   have:=bitLen_log n.toNat (by omega) (by omega);omega
  have hb:n.toNat.log2<64:=(Nat.log2_lt (by omega)).2 (by omega);have HL:=LH hl;clear hl;have h2:0≤n:=by omega
  go_enter Tryz.func199,Tryz.ntmps199
  go_wp2_with fail;refine(Tryz.bits_Len64 _ _ (by omega) (by omega)).mono ?_;rintro e w1 ⟨rfl,rfl⟩;rw [HL.out];go_wp2_with fail
  go_ret2
  exact⟨by simp,bE⟩
 ·rw [if_neg h1]
  go_enter Tryz.func199,Tryz.ntmps199
  go_wp2_with fail
  go_ret2
  exact⟨rfl,bE⟩
theorem twig_Depth (w:World) (n:Int) (hn:n≤9223372036854775807) :Calls Tryz.prog 146 #[.int .i64 n] w fun e w'=>
 e=.returned (if 1≤n then .tuple #[.int .i64 n.toNat.log2,.bool true] else .tuple #[.int .i64 0,.bool false])∧Below w.heap.size w w':=by
 by_cases h1:1≤n
 ·rw [if_pos h1]
  go_enter Tryz.func146,Tryz.ntmps146
  go_wp2_with fail;refine(reckon_Log _ n hn).mono ?_;rintro e w1 ⟨rfl,hb1⟩;have B1:Below w.heap.size w w1:=Below.then_ bE hb1;have s1:=B1.size;rw [if_pos h1];go_wp2_with fail
  go_ret2
  exact⟨rfl,bE⟩
 ·rw [if_neg h1]
  go_enter Tryz.func146,Tryz.ntmps146
  go_wp2_with fail;refine(reckon_Log _ n hn).mono ?_;rintro e w1 ⟨rfl,hb1⟩;have B1:Below w.heap.size w w1:=Below.then_ bE hb1;have s1:=B1.size;rw [if_neg (by omega)];go_wp2_with fail
  go_ret2
  exact⟨rfl,bE⟩
theorem node_facts {n x:Nat} (hn:n≤48) (h1:1≤x) (h2: (x:Int) <2*2^n) : ∃d b t:Nat,x.log2=d∧n - d=b∧d+b=n∧x=2^d+t∧t<2^d∧(t+1) *2^b≤2^n:=by
 have hx:x<2^ (n+1):=by
  have: ((2^ (n+1) :Nat) :Int) =2*2^n:=by rw [Nat.pow_succ];simp;omega
  omega
 have hd:x.log2<n+1:=(Nat.log2_lt (by omega)).2 hx;have h3:=Nat.log2_self_le (show x≠0 by omega);have h4:x<2^ (x.log2+1):=Nat.lt_log2_self;rw [Nat.pow_succ] at h4;refine⟨x.log2,n - x.log2,x - 2^x.log2,rfl,rfl,by omega,by omega,by omega,?_⟩;have h5: (x - 2^x.log2+1)≤2^x.log2:=by omega
 calc (x - 2^x.log2+1) *2^ (n - x.log2)≤2^x.log2*2^ (n - x.log2):=Nat.mul_le_mul_right _ h5
  _=2^n:=by rw [←Nat.pow_add];congr 1;omega
def endsOf (l id:Int) :Int×Int×Bool:=
 if isNode l id=true then ((id - 2^id.toNat.log2) *2^ (l.toNat - id.toNat.log2),(id - 2^id.toNat.log2) *2^ (l.toNat - id.toNat.log2) +2^ (l.toNat - id.toNat.log2) - 1,true) else (0,0,false)
def endsV (r:Int×Int×Bool) :Value:=.tuple #[.int .i64 r.1,.int .i64 r.2.1,.bool r.2.2]
theorem isNode_nat {l id:Int} (h:isNode l id=true) : ∃n x:Nat,l=n∧id=x∧1≤n∧n≤48∧1≤x∧(x:Int) <2*2^n:=by
 simp only [isNode,decide_eq_true_eq] at h;obtain⟨⟨h1,h2⟩,h3,h4⟩:=h;obtain⟨n,rfl⟩:=Int.eq_ofNat_of_zero_le (show 0≤l by omega);obtain⟨x,rfl⟩:=Int.eq_ofNat_of_zero_le (show 0≤id by omega);exact⟨n,x,rfl,rfl,by omega,by omega,by omega,by simpa using h4⟩
theorem twig_Ends (w:World) (l id:Int) (hid:id≤9223372036854775807) :Calls Tryz.prog 99 #[.int .i64 l,.int .i64 id] w fun e w'=>e=.returned (endsV (endsOf l id))∧Below w.heap.size w w':=by
 cases hN:isNode l id
 ·have e1:endsOf l id= (0,0,false):=by simp [endsOf,hN]
  rw [e1];have E1:=LH hN;clear e1 hN
  go_enter Tryz.func99,Tryz.ntmps99
  go_wp2_with fail;refine(twig_Right _ l id).mono ?_;rintro e w1 ⟨rfl,hb1⟩;have B1:Below w.heap.size w w1:=Below.then_ bE hb1;have s1:=B1.size;rw [E1.out];go_wp2_with fail
  go_ret3
  exact⟨rfl,bE⟩
 ·obtain⟨n,x,rfl,rfl,hn1,hn2,hx1,hx2⟩:=isNode_nat hN
  obtain⟨d,b,t,hd,hb,hdb,hxt,htd,hprod⟩:=node_facts hn2 hx1 hx2
  have e1:endsOf n x= ((t:Int) *2^b,(t:Int) *2^b+2^b - 1,true):=by
   simp only [endsOf,hN,if_true,Int.toNat_natCast,hd,hb];have: (x:Int) - 2^d=t:=by rw [hxt];push_cast;omega
   rw [this]
  rw [e1];have E1:=LH hN;have E2:=LH hd;have q1: (n:Int) - (d:Int) = (b:Int):=by omega
  have q2: (x:Int) - 2^d= (t:Int):=by rw [hxt];push_cast;omega
  have q3:=pow_pos' b;have q4:=pow_48 (n:=b) (by omega);have q5:=pow_48 (n:=n) hn2;have q6:=pow_48 (n:=d) (by omega);have q7:=pow_pos' d
  have q8: (t:Int) *2^b+2^b≤2^n:=by
   have h: (((t+1) *2^b:Nat) :Int)≤((2^n:Nat) :Int):=by exact_mod_cast hprod
   push_cast at h
   rw [Int.add_mul,Int.one_mul] at h;exact h
  have q9:0≤(t:Int) *2^b:=Int.mul_nonneg (by omega) (by omega);have q10: (x:Int)≤562949953421312:=by omega
  have Q:=LH (And.intro hxt (And.intro htd hprod));clear e1 hN hd hb hxt htd hprod hx2
  go_enter Tryz.func99,Tryz.ntmps99
  go_wp2_with fail;refine(twig_Right _ n x).mono ?_;rintro e w1 ⟨rfl,hb1⟩;have B1:Below w.heap.size w w1:=Below.then_ bE hb1;have s1:=B1.size;rw [E1.out];go_wp2_with fail;refine(twig_Depth _ x (by omega)).mono ?_;rintro e w2 ⟨rfl,hb2⟩;have B2:Below w.heap.size w w2:=Below.then_ bE hb2;have s2:=B2.size;rw [if_pos (by omega)];simp only [Int.toNat_natCast,E2.out];go_wp2_with fail;refine rX (by kernel_rfl) (by kernel_rfl) ?_
  repeat (go_big_quiet_step (fail))
  refine wpQuiet_nil ?_;intro w3 hb3;replace hb3:=bX hb3;have B3:Below w.heap.size w w3:=Below.then_ bE hb3;have s3:=B3.size;go_wp2_with fail
  go_ret3
  exact⟨rfl,bE⟩
def kidsOf (l id:Int) :Int×Int×Bool:=if isNode l id=true∧id<2^l.toNat then (2*id,2*id+1,true) else (0,0,false)
theorem twig_Kids (w:World) (l id:Int) :Calls Tryz.prog 221 #[.int .i64 l,.int .i64 id] w fun e w'=>e=.returned (endsV (kidsOf l id))∧Below w.heap.size w w':=by
 cases hN:isNode l id
 ·have e1:kidsOf l id= (0,0,false):=by simp [kidsOf,hN]
  rw [e1];have E1:=LH hN;clear e1 hN
  go_enter Tryz.func221,Tryz.ntmps221
  go_wp2_with fail;refine(twig_Right _ l id).mono ?_;rintro e w1 ⟨rfl,hb1⟩;have B1:Below w.heap.size w w1:=Below.then_ bE hb1;have s1:=B1.size;rw [E1.out];go_wp2_with fail
  go_ret3
  exact⟨rfl,bE⟩
 ·obtain⟨n,x,rfl,rfl,hn1,hn2,hx1,hx2⟩:=isNode_nat hN
  have q5:=pow_48 (n:=n) hn2;have q6:=pow_pos' n;have E1:=LH hN;have q7: (x:Int)≤562949953421312:=by omega
  by_cases hk: (x:Int) <2^n
  ·have e1:kidsOf n x= (2* (x:Int),2* (x:Int) +1,true):=by simp [kidsOf,hN,hk]
   rw [e1];clear e1 hN hx2
   go_enter Tryz.func221,Tryz.ntmps221
   go_wp2_with fail;refine(twig_Right _ n x).mono ?_;rintro e w1 ⟨rfl,hb1⟩;have B1:Below w.heap.size w w1:=Below.then_ bE hb1;have s1:=B1.size;rw [E1.out];go_wp2_with fail
   go_ret3
   exact⟨rfl,bE⟩
  ·have e1:kidsOf n x= (0,0,false):=by
    simp only [kidsOf];rw [if_neg];intro h;exact hk (by simpa using h.2)
   rw [e1];clear e1 hN hx2
   go_enter Tryz.func221,Tryz.ntmps221
   go_wp2_with fail;refine(twig_Right _ n x).mono ?_;rintro e w1 ⟨rfl,hb1⟩;have B1:Below w.heap.size w w1:=Below.then_ bE hb1;have s1:=B1.size;rw [E1.out];go_wp2_with fail
   go_ret3
   exact⟨rfl,bE⟩
theorem reckon_counts (w:World) (a b:Int) :Calls Tryz.prog 224 #[.int .i64 a,.int .i64 b] w fun e w'=>e=.returned (.bool (decide (0≤a∧0≤b)))∧Below w.heap.size w w':=by
 by_cases h1:0≤a
 ·go_enter Tryz.func224,Tryz.ntmps224
  go_wp2_with fail;go_ret;exact⟨ret_bool (by simp [h1]),bE⟩
 ·go_enter Tryz.func224,Tryz.ntmps224
  go_wp2_with fail;go_ret;exact⟨ret_bool (by simp;omega),bE⟩
def addOf (a b:Int) :Int×Bool:=if 0≤a∧0≤b∧a+b≤9223372036854775807 then (a+b,true) else (0,false)
def okV (r:Int×Bool) :Value:=.tuple #[.int .i64 r.1,.bool r.2]
theorem reckon_Add (w:World) (a b:Int) (ha:a≤9223372036854775807) (hb:b≤9223372036854775807) :Calls Tryz.prog 266 #[.int .i64 a,.int .i64 b] w fun e w'=>e=.returned (okV (addOf a b))∧Below w.heap.size w w':=by
 by_cases h1:0≤a∧0≤b
 ·have E1:=LH (show decide (0≤a∧0≤b) =true by simpa using h1)
  obtain⟨h1,h2⟩:=h1;by_cases h3:9223372036854775807 - b<a
  ·have e1:addOf a b= (0,false):=by simp only [addOf];rw [if_neg (by omega)]
   rw [e1];clear e1
   go_enter Tryz.func266,Tryz.ntmps266
   go_wp2_with fail;refine(reckon_counts _ a b).mono ?_;rintro e w1 ⟨rfl,hb1⟩;have B1:Below w.heap.size w w1:=Below.then_ bE hb1;have s1:=B1.size;rw [E1.out];go_wp2_with fail
   go_ret2
   exact⟨rfl,bE⟩
  ·have e1:addOf a b= (a+b,true):=by simp only [addOf];rw [if_pos (by omega)]
   rw [e1];clear e1
   go_enter Tryz.func266,Tryz.ntmps266
   go_wp2_with fail;refine(reckon_counts _ a b).mono ?_;rintro e w1 ⟨rfl,hb1⟩;have B1:Below w.heap.size w w1:=Below.then_ bE hb1;have s1:=B1.size;rw [E1.out];go_wp2_with fail
   go_ret2
   exact⟨rfl,bE⟩
 ·have E1:=LH (show decide (0≤a∧0≤b) =false by simpa using h1)
  have e1:addOf a b= (0,false):=by simp only [addOf];rw [if_neg (by omega)]
  rw [e1];clear e1 h1
  go_enter Tryz.func266,Tryz.ntmps266
  go_wp2_with fail;refine(reckon_counts _ a b).mono ?_;rintro e w1 ⟨rfl,hb1⟩;have B1:Below w.heap.size w w1:=Below.then_ bE hb1;have s1:=B1.size;rw [E1.out];go_wp2_with fail
  go_ret2
  exact⟨rfl,bE⟩
def divOf (a b:Int) :Int×Bool:=if a<0∨b<1 then (0,false) else (a / b,true)
theorem reckon_Div (w:World) (a b:Int) (ha:a≤9223372036854775807) (hb:b≤9223372036854775807) :Calls Tryz.prog 268 #[.int .i64 a,.int .i64 b] w fun e w'=>e=.returned (okV (divOf a b))∧Below w.heap.size w w':=by
 by_cases h1:a<0
 ·have e1:divOf a b= (0,false):=by simp only [divOf];rw [if_pos (by omega)]
  rw [e1];clear e1
  go_enter Tryz.func268,Tryz.ntmps268
  go_wp2_with fail
  go_ret2
  exact⟨rfl,bE⟩
 ·by_cases h2:b<1
  ·have e1:divOf a b= (0,false):=by simp only [divOf];rw [if_pos (by omega)]
   rw [e1];clear e1
   go_enter Tryz.func268,Tryz.ntmps268
   go_wp2_with fail
   go_ret2
   exact⟨rfl,bE⟩
  ·have e1:divOf a b= (a / b,true):=by simp only [divOf];rw [if_neg (by omega)]
   rw [e1];clear e1;have q1:0≤a / b:=Int.ediv_nonneg (by omega) (by omega);have q2:a / b≤a:=Int.ediv_le_self _ (by omega)
   go_enter Tryz.func268,Tryz.ntmps268
   go_wp2_with fail;unfold okV
   go_ret2
   exact⟨rfl,bE⟩
def encN:Enc Nd 2:=⟨fun x=> [.int .i64 x.1,.int .i64 x.2],fun _=>rfl,by intro x u hu;simp at hu;rcases hu with rfl|rfl <;> rfl⟩
theorem tyN:SliceTy Tryz.prog 169 172 2 16 (.agg #[.int .i64 0,.int .i64 0]):=⟨Tryz.underlying169,by kernel_rfl,rfl,by decide⟩
def i64 (n:Int) :Prop:= -9223372036854775808≤n∧n≤9223372036854775807
def ints (l:List Nd) :Prop:=∀x∈l,i64 x.1∧i64 x.2
def most:Int:=72057594037927935
def totalFrom (n:Int) :List Nd→Int×Bool
 | []=>(n,true)
 |x :: l=>if (addOf n x.2).2=true∧(addOf n x.2).1≤most then totalFrom (addOf n x.2).1 l else (0,false)
def totalOf (l:List Nd) :Int×Bool:=totalFrom 0 l
theorem drop_cons {α:Type} {l:List α} {k:Nat} (h:k<l.length) :l.drop k=l[k] :: l.drop (k+1):=List.drop_eq_getElem_cons h
theorem addOf_le (a b:Int) (h: (addOf a b).2=true) :0≤(addOf a b).1∧(addOf a b).1≤9223372036854775807:=by
 unfold addOf at h⊢
 split
 ·rename_i hc;exact⟨by simp only;omega,hc.2.2⟩
 ·simp
theorem roll_Total (w:World) (A:Option Addr) (cap:Nat) (l:List Nd) (hS:Sl w w.heap.size encN A l) (hI:ints l) (hm:l.length≤maxLen) :
 Calls Tryz.prog 218 #[.slice A l.length cap] w fun e w'=>e=.returned (okV (totalOf l))∧Below w.heap.size w w':=by
 have HS:=LH hS;have HI:=LH hI;unfold maxLen at hm;clear hS hI
 go_enter Tryz.func218,Tryz.ntmps218
 go_wp2_with fail
 go_loopw [4,11] (fun n i wr=>∃(k:Nat) (m:Int),k≤l.length∧i=.int .i64 k∧n=.int .i64 m∧0≤m∧m≤72057594037927935∧totalOf l=totalFrom m (l.drop k)∧Below w.heap.size w wr) (fun _ i _=>l.length - (intOf i).toNat)
 case atStart=>exact⟨0,0,by omega,rfl,rfl,by omega,by omega,rfl,Below.refl _ _⟩
 case round=>
  obtain⟨k,m,hk,rfl,rfl,hm0,hm1,hT,hB⟩:=hrel;have HT:=LH hT;clear hT;have hs:=hB.size;by_cases hlt:k<l.length
  ·obtain⟨b,off,rfl,hb,hc⟩:=(HS.out.below hB).at_ hlt
   have d0:=hc 0 (.int .i64 l[k].1) rfl;have d1:=hc 1 (.int .i64 l[k].2) rfl;simp only [Nat.add_zero] at d0;have hx:=(HI.out _ (List.getElem_mem hlt)).2;have hN:totalOf l=if (addOf m l[k].2).2=true∧(addOf m l[k].2).1≤most then totalFrom (addOf m l[k].2).1 (l.drop (k+1)) else (0,false):=by rw [HT.out,drop_cons hlt];rfl
   have HN:=LH hN;have HA:=LH (addOf_le m l[k].2);have HC:=LH (reckon_Add · m l[k].2 (by omega) hx.2);clear hc hN hx;obtain⟨x,hx⟩ : ∃x,x=l[k]:=⟨_,rfl⟩;rw [←hx] at d0 d1 HN HA HC;clear hx;generalize addOf m x.2=r at HN HA HC;obtain⟨r1,r2⟩:=r;go_wp2_with fail;refine(HC.out _).mono ?_;rintro e w1 ⟨rfl,hb1⟩;have B1:Below w.heap.size w w1:=Below.then_ bE hb1;have s1:=B1.size;have z1_0:wr.heap.size<w1.heap.size:=by have:=hb1.size;(try simp at this);omega
   have y1_0:wr.heap.size≤w1.heap.size:=Nat.le_of_lt z1_0;have c1_0:=czB hb1 (wr.heap.size);have f1_0:=fzB hb1 (wr.heap.size);unfold okV
   cases r2
   ·go_wp2_with fail
    go_ret2
    exact⟨by rw [HN.out,if_neg (by simp)];rfl,bE⟩
   ·by_cases hle:r1≤72057594037927935
    ·have h0:0≤r1:=(HA.out rfl).1
     go_wp2_with fail;go_roundw
     case rel=>exact⟨k+1,r1,by omega,by go_num,rfl,h0,hle,by rw [HN.out,if_pos ⟨by simp,hle⟩],bE⟩
     case measure=>simp [intOf];omega
    ·go_wp2_with fail
     go_ret2
     exact⟨by rw [HN.out,if_neg (fun h=>by have h2:r1≤72057594037927935:=h.2;omega)];rfl,bE⟩
  ·obtain rfl:k=l.length:=by omega
   have HE:=LH (show totalOf l= (m,true) by rw [HT.out,List.drop_length];rfl);go_wp2_with fail
   go_ret2
   exact⟨by rw [HE.out];rfl,bE⟩
def risesFrom (l last:Int) :List Nd→Bool
 | []=>true
 |x :: r=>decide (last<x.1) && isNode l x.1 && decide (1≤x.2) && risesFrom l x.1 r
def rightOf (l:Int) (r:List Nd) :Bool:=risesFrom l 0 r && (totalOf r).2 && isNode l 1
theorem roll_Right (w:World) (u:Int) (A:Option Addr) (cap:Nat) (l:List Nd) (hS:Sl w w.heap.size encN A l) (hI:ints l) (hm:l.length≤maxLen) :
 Calls Tryz.prog 168 #[.int .i64 u,.slice A l.length cap] w fun e w'=>e=.returned (.bool (rightOf u l))∧Below w.heap.size w w':=by
 have HS:=LH hS;have HI:=LH hI;have HM:=LH hm;unfold maxLen at hm;clear hS hI
 go_enter Tryz.func168,Tryz.ntmps168
 go_wp2_with fail
 go_loopw [5,12] (fun n i wr=>∃(k:Nat) (m:Int),k≤l.length∧i=.int .i64 k∧n=.int .i64 m∧risesFrom u 0 l=risesFrom u m (l.drop k)∧Below w.heap.size w wr) (fun _ i _=>l.length - (intOf i).toNat)
 case atStart=>exact⟨0,0,by omega,rfl,rfl,rfl,Below.refl _ _⟩
 case round=>
  obtain⟨k,m,hk,rfl,rfl,hT,hB⟩:=hrel;have HT:=LH hT;clear hT;have hs:=hB.size;by_cases hlt:k<l.length
  ·obtain⟨b,off,rfl,hb,hc⟩:=(HS.out.below hB).at_ hlt
   have d0:=hc 0 (.int .i64 l[k].1) rfl;have d1:=hc 1 (.int .i64 l[k].2) rfl;simp only [Nat.add_zero] at d0;have hN:risesFrom u 0 l= (decide (m<l[k].1) && isNode u l[k].1 && decide (1≤l[k].2) && risesFrom u l[k].1 (l.drop (k+1))):=by rw [HT.out,drop_cons hlt];rfl
   have HN:=LH hN;clear hc hN;obtain⟨x,hx⟩ : ∃x,x=l[k]:=⟨_,rfl⟩;rw [←hx] at d0 d1 HN;clear hx;by_cases h1:m<x.1
   ·cases h2:isNode u x.1
    ·have H2:=LH h2
     have HR:=LH (show rightOf u l=false by unfold rightOf;rw [HN.out,h2];simp);clear h2;go_wp2_with fail;refine(twig_Right _ u x.1).mono ?_;rintro e w1 ⟨rfl,hb1⟩;have B1:Below w.heap.size w w1:=Below.then_ bE hb1;have s1:=B1.size;have z1_0:wr.heap.size<w1.heap.size:=by have:=hb1.size;(try simp at this);omega
     have y1_0:wr.heap.size≤w1.heap.size:=Nat.le_of_lt z1_0;have c1_0:=czB hb1 (wr.heap.size);have f1_0:=fzB hb1 (wr.heap.size);rw [H2.out];go_wp2_with fail;go_ret;exact⟨ret_bool HR.out.symm,bE⟩
    ·have H2:=LH h2
     by_cases h3:1≤x.2
     ·have HR:=LH (show risesFrom u 0 l=risesFrom u x.1 (l.drop (k+1)) by rw [HN.out,h2];simp [h1,h3])
      clear h2;go_wp2_with fail;refine(twig_Right _ u x.1).mono ?_;rintro e w1 ⟨rfl,hb1⟩;have B1:Below w.heap.size w w1:=Below.then_ bE hb1;have s1:=B1.size;have z1_0:wr.heap.size<w1.heap.size:=by have:=hb1.size;(try simp at this);omega
      have y1_0:wr.heap.size≤w1.heap.size:=Nat.le_of_lt z1_0;have c1_0:=czB hb1 (wr.heap.size);have f1_0:=fzB hb1 (wr.heap.size);rw [H2.out];go_wp2_with fail;go_roundw
      case rel=>exact⟨k+1,x.1,by omega,by go_num,rfl,HR.out,bE⟩
      case measure=>simp [intOf];omega
     ·have HR:=LH (show rightOf u l=false by unfold rightOf;rw [HN.out];simp [h3])
      clear h2;go_wp2_with fail;refine(twig_Right _ u x.1).mono ?_;rintro e w1 ⟨rfl,hb1⟩;have B1:Below w.heap.size w w1:=Below.then_ bE hb1;have s1:=B1.size;have z1_0:wr.heap.size<w1.heap.size:=by have:=hb1.size;(try simp at this);omega
      have y1_0:wr.heap.size≤w1.heap.size:=Nat.le_of_lt z1_0;have c1_0:=czB hb1 (wr.heap.size);have f1_0:=fzB hb1 (wr.heap.size);rw [H2.out];go_wp2_with fail;go_ret;exact⟨ret_bool HR.out.symm,bE⟩
   ·have HR:=LH (show rightOf u l=false by unfold rightOf;rw [HN.out];simp [h1])
    go_wp2_with fail;go_ret;exact⟨ret_bool HR.out.symm,bE⟩
  ·obtain rfl:k=l.length:=by omega
   have HE:=LH (show rightOf u l= ((totalOf l).2 && isNode u 1) by unfold rightOf;rw [HT.out,List.drop_length];simp [risesFrom]);have HC:=LH (roll_Total · A cap l · HI.out HM.out);generalize totalOf l=r at HE HC;obtain⟨r1,r2⟩:=r;go_wp2_with fail;refine(HC.out _ (HS.out.keep hs fun p hp=>hB.cell hp)).mono ?_;rintro e w1 ⟨rfl,hb1⟩;have B1:Below w.heap.size w w1:=Below.then_ bE hb1;have s1:=B1.size;unfold okV
   cases r2
   ·go_wp2_with fail
    go_ret;exact⟨ret_bool HE.out.symm,bE⟩
   ·go_wp2_with fail
    refine(twig_Right _ u 1).mono ?_;rintro e w2 ⟨rfl,hb2⟩;have B2:Below w.heap.size w w2:=Below.then_ bE hb2;have s2:=B2.size;go_wp2_with fail;go_ret;exact⟨ret_bool HE.out.symm,bE⟩
theorem Own.of_row {α:Type} {size base e n:Nat} {w:World} {E:Enc α size} {v:Value} {l:List α} (h:w.ownsRow base e size v n (l.flatMap E.enc)) (hl:l.length=n) (hs:0<size) :Own w base e E v l:=by
 subst hl;obtain⟨h1,h2⟩:=h;rcases h2 with ⟨rfl,h0⟩ | ⟨g,cap,cur,rfl,hg,hh,hle,hm,hsz,hx⟩
 ·exact .inl ⟨rfl,List.length_eq_zero_iff.1 h0⟩
 ·refine .inr ⟨g,0,cap,cur,rfl,hg,hh,hle,hm,by omega,fun j u hj=> ?_⟩
  rw [←hx] at hj;rw [List.getElem?_take] at hj
  split at hj
  ·simpa using hj
  ·cases hj
theorem made_flat {α:Type} {size:Nat} (E:Enc α size) (x:α) (z:Array Value) (n:Nat) (hz:z.toList=E.enc x) (hs:0<size) : (madeCells z (n*size)).toList= (List.replicate n x).flatMap E.enc:=by
 have hzs:z.size=size:=by have:=E.len x;rw [←hz] at this;simpa using this
 apply List.ext_getElem?
 intro j;have hlen: ((List.replicate n x).flatMap E.enc).length=n*size:=by rw [flat_len];simp
 by_cases hj:j<n*size
 ·have hk:j / size<n:=Nat.div_lt_of_lt_mul (by rw [Nat.mul_comm];exact hj)
  have hr:j % size<size:=Nat.mod_lt _ hs;have h1: (List.replicate n x)[j / size]? =some x:=by simp [hk]
  obtain⟨u,h2⟩ : ∃u,(E.enc x)[j % size]? =some u:=⟨_,List.getElem?_eq_getElem (by rw [E.len];exact hr)⟩;have h3:=flat_get E (List.replicate n x) (j / size) (j % size) x _ h1 h2;rw [Nat.mul_comm,Nat.div_add_mod] at h3;rw [h3];simp only [madeCells,Array.toList_map,Array.toList_range,List.getElem?_map,List.getElem?_range hj,Option.map_some]
  congr 1
  rw [hzs];have h4: (z.toList)[j % size]? =some u:=by rw [hz];exact h2
  have h5:j % size<z.size:=by omega
  rw [getElem!_pos z (j % size) h5];simp [h5] at h4
  exact h4
 ·rw [List.getElem?_eq_none (by simp [size_madeCells];omega),List.getElem?_eq_none (by omega)]
section
attribute [local go_sem ↓] Go.wp_at_zero Go.wp_at_succ
def encZ:Enc Int 1:=⟨fun x=> [.int .i64 x],fun _=>rfl,by intro x u hu;simp at hu;subst hu;rfl⟩
theorem tyZ:SliceTy Tryz.prog 26 3 1 8 (.int .i64 0):=⟨Tryz.underlying26,by kernel_rfl,rfl,by decide⟩
def foot2 (g:Nat) (v:Value) :Nat→Prop:=fun b=>b=g∨v.ownBlock=some b
def DenseAt (w:World) (g l:Nat) (r:List Nd) (F:Nat→Prop) :Prop:=
 ∃(v:Value) (C:List Int),w.heap[g]? =some (.cells #[.int .i64 l,.int .i64 r.length,.int .i64 (sumR r),v] 219 (0,0))∧Own w 0 3 encZ v C∧C.length=2*2^l∧(∀i:Nat,i<C.length→C[i]? =some (getR r i))∧
  F=foot2 g v
structure Fits (l:Nat) (r:List Nd) :Prop where
 roll:Roll r
 lt: ∀x∈r,x.1<2*2^l
 sum:sumR r≤72057594037927935
theorem DenseAt.keep {w w':World} {g l:Nat} {r:List Nd} {F:Nat→Prop} (h:DenseAt w g l r F) (hk: ∀b,F b→w'.heap[b]? =w.heap[b]?) :DenseAt w' g l r F:=by
 obtain⟨v,C,hh,ho,hl,hc,rfl⟩:=h;exact⟨v,C,(hk g (.inl rfl)).trans hh,ho.of_block fun b hb=>hk b (.inr hb),hl,hc,rfl⟩
theorem DenseAt.lt {w:World} {g l:Nat} {r:List Nd} {F:Nat→Prop} (h:DenseAt w g l r F) : ∀b,F b→b<w.heap.size:=by
 obtain⟨v,C,hh,ho,hl,hc,rfl⟩:=h;rintro b (rfl|hb)
 ·exact lB hh
 ·exact(ho.lt b hb).2
theorem DenseAt.below {w w':World} {g l:Nat} {r:List Nd} {F:Nat→Prop} (h:DenseAt w g l r F) (hb:Below w.heap.size w w') :DenseAt w' g l r F:=h.keep fun b hf=>hb.block b (h.lt b hf)
theorem dense_L (w:World) (g l:Nat) (r:List Nd) (F:Nat→Prop) (h:DenseAt w g l r F) :Calls Tryz.prog 170 #[.pointer (some ⟨g,0,none⟩)] w fun e w'=>e=.returned (.int .i64 l)∧Below w.heap.size w w':=by
 obtain⟨v,C,hh,_⟩:=h;have c:=bC hh;have z:=lB hh;clear hh
 go_enter Tryz.func170,Tryz.ntmps170
 go_wp2_with fail;go_ret;exact⟨rfl,bE⟩
theorem dense_Total (w:World) (g l:Nat) (r:List Nd) (F:Nat→Prop) (h:DenseAt w g l r F) :Calls Tryz.prog 95 #[.pointer (some ⟨g,0,none⟩)] w fun e w'=>e=.returned (.int .i64 (sumR r))∧Below w.heap.size w w':=by
 obtain⟨v,C,hh,_⟩:=h;have c:=bC hh;have z:=lB hh;clear hh
 go_enter Tryz.func95,Tryz.ntmps95
 go_wp2_with fail;go_ret;exact⟨rfl,bE⟩
theorem infoZ: ((Tryz.prog).info? 3).map (fun i=>(i.zero,i.size,i.bytes)) =some (some (.int .i64 0),1,8):=by kernel_rfl
theorem dense_New (w:World) (n:Nat) (h1:1≤n) (h2:n≤16) :Calls Tryz.prog 203 #[.int .i64 n] w fun e w'=>
 ∃g F,e=.returned (.tuple #[.pointer (some ⟨g,0,none⟩),.int .i64 0])∧DenseAt w' g n [] F∧(∀b,F b→w.heap.size≤b)∧Below w.heap.size w w':=by
 obtain⟨i,hi,hz0,hz1,hz2⟩:=info_parts infoZ;have q1: (1:Int)≤(n:Int):=by omega
 have q2: (n:Int)≤16:=by omega
 have q3: (2:Int) ^n≤65536:=by have:=pow_le' h2;simpa using this
 have q4:=pow_pos' n;have q5:2^n≤65536:=by have:=Nat.pow_le_pow_right (n:=2) (by decide) h2;simpa using this
 have Q5:=LH q5;clear q5
 go_enter Tryz.func203,Tryz.ntmps203
 go_wp2_with ((at_make;refine wpList_make_full _ rfl _ _ 26 rfl w.heap.size 3 i (.int .i64 0) 1 Tryz.underlying26 hi hz0 hz1 _ _ _ _ (2*2^n) rfl rfl ?hL ?hC ?b2 ?b3 ?b4 ?hK))
 case hL=>simp
 case hC=>simp
 case b2=>rw [hz2];have:=Q5.out;omega
 case b3=>have:=Q5.out;simp only [maxLen];omega
 case b4=>exact Nat.le_refl _
 case hK=>
  intro w1 hr hg;have hmf:=made_flat encZ 0 #[.int .i64 0] (2*2^n) rfl (by decide);rw [Nat.mul_one] at hmf;rw [hmf] at hr;have ho:=Own.of_row hr (by simp) (by decide);have HO:=LH ho;have b1:Below w.heap.size w w1:=(Below.refl _ _).grown hg (Nat.le_refl _) (fun k hk=>by cases hk);have z1:=b1.size;clear hr ho hg hmf;go_wp2_with fail
  go_ret2
  have hC: ∀i:Nat,i< (List.replicate (2*2^n) (0:Int)).length→(List.replicate (2*2^n) (0:Int))[i]? =some (getR [] i):=fun i hi=>by simp at hi;simp [hi,getR]
  exact⟨w1.heap.size,_,rfl,⟨_,_,heap_new_at w1 _ _ rfl,(HO.out.base_le (Nat.zero_le _)).alloc _,by simp,hC,rfl⟩,fun b hb=>by
   rcases hb with rfl|hb
   ·exact z1
   ·cases hb;exact Nat.le_refl _,bE⟩
theorem isNode_of {l k:Nat} (h1:1≤l) (h2:l≤48) (h3:1≤k) (h4:k<2*2^l) :isNode l k=true:=by
 simp only [isNode,decide_eq_true_eq,Int.toNat_natCast];refine⟨⟨by omega,by omega⟩,by omega,?_⟩
 exact_mod_cast h4
theorem own_at0 {α:Type} {size:Nat} {w:World} {base e:Nat} {E:Enc α size} {v:Value} {l:List α} (h:Own w base e E v l) (hl:0<l.length) : ∃b off cap,v=.slice (some ⟨b,off,none⟩) l.length cap∧l.length≤cap:=by
 rcases h with ⟨_,rfl⟩ | ⟨g,off,cap,cur,hv,_,_,hc,_⟩
 ·simp at hl
 ·exact⟨g,off,cap,hv,hc⟩
theorem zH {w:World} {g i:Nat} {cs:Array Value} {t:TypeId} (h:w.heap[g]? =some (.cells cs t (0,0))) (u:Value) : (w.setCell ⟨g,i,none⟩ u).heap[g]? =some (.cells (cs.setIfInBounds i u) t (0,0)):=by
 simp [World.setCell,Array.getElem?_modify,h]
theorem dense_stored {w:World} {g l b off cap k:Nat} {r r':List Nd} {C:List Int} {a u m:Int} {v0 v1 v2:Value} (hh:w.heap[g]? =some (.cells #[v0,v1,v2,.slice (some ⟨b,off,none⟩) C.length cap] 219 (0,0)))
 (ho:Own w 0 3 encZ (.slice (some ⟨b,off,none⟩) C.length cap) C) (hl:C.length=2*2^l) (hc: ∀i:Nat,i<C.length→C[i]? =some (getR r i)) (hk:k<C.length)
 (hr: ∀j:Int,getR r' j=if j=k then a else getR r j) (hu: (r'.length:Int) =u) (hm:sumR r'=m) (hv0:v0=.int .i64 l:=by rfl) :
 DenseAt (((w.setCell ⟨g,1,none⟩ (.int .i64 u)).setCell ⟨b,off+k,none⟩ (.int .i64 a)).setCell ⟨g,2,none⟩ (.int .i64 m)) g l r' (foot2 g (.slice (some ⟨b,off,none⟩) C.length cap)):=by
 have hne:=ho.ne_block hh (by decide);have hgb:g≠b:=fun he=>hne (by rw [he];rfl);have o1:=ho.setCell (p:=⟨g,1,none⟩) hne (.int .i64 u);have o2:=o1.setElem k 0 hk (by decide) (.int .i64 a) a rfl;rw [Nat.mul_one,Nat.add_zero] at o2;subst hv0;have k1:=zH (i:=1) hh (.int .i64 u);have k2: ((w.setCell ⟨g,1,none⟩ (.int .i64 u)).setCell ⟨b,off+k,none⟩ (.int .i64 a)).heap[g]? =_:=(Below.heap_setCell _ _ _ _ hgb).trans k1;have k3:=zH (i:=2) k2 (.int .i64 m);have hne2:=o2.ne_block k2 (by decide);have o3:=o2.setCell (p:=⟨g,2,none⟩) hne2 (.int .i64 m);subst hu hm;refine⟨_,C.set k a,by rw [k3];rfl,o3,by simpa using hl,fun i hi=> ?_,rfl⟩;rw [List.length_set] at hi;rw [List.getElem?_set];by_cases hik:k=i
 ·subst hik
  rw [if_pos rfl,if_pos hi,hr,if_pos rfl]
 ·rw [if_neg hik,hc i hi,hr,if_neg (by omega)]
theorem dense_stored2 {w:World} {g l b off cap k:Nat} {r r':List Nd} {C:List Int} {a m:Int} {v0 v2:Value} (hh:w.heap[g]? =some (.cells #[v0,.int .i64 r.length,v2,.slice (some ⟨b,off,none⟩) C.length cap] 219 (0,0)))
 (ho:Own w 0 3 encZ (.slice (some ⟨b,off,none⟩) C.length cap) C) (hl:C.length=2*2^l) (hc: ∀i:Nat,i<C.length→C[i]? =some (getR r i)) (hk:k<C.length)
 (hr: ∀j:Int,getR r' j=if j=k then a else getR r j) (hu:r'.length=r.length) (hm:sumR r'=m) (hv0:v0=.int .i64 l:=by rfl) :
 DenseAt ((w.setCell ⟨b,off+k,none⟩ (.int .i64 a)).setCell ⟨g,2,none⟩ (.int .i64 m)) g l r' (foot2 g (.slice (some ⟨b,off,none⟩) C.length cap)):=by
 have hne:=ho.ne_block hh (by decide);have hgb:g≠b:=fun he=>hne (by rw [he];rfl);have o2:=ho.setElem k 0 hk (by decide) (.int .i64 a) a rfl;rw [Nat.mul_one,Nat.add_zero] at o2;subst hv0;have k2: (w.setCell ⟨b,off+k,none⟩ (.int .i64 a)).heap[g]? =_:=(Below.heap_setCell _ _ _ _ hgb).trans hh;have k3:=zH (i:=2) k2 (.int .i64 m);have hne2:=o2.ne_block k2 (by decide);have o3:=o2.setCell (p:=⟨g,2,none⟩) hne2 (.int .i64 m);subst hm;refine⟨_,C.set k a,by rw [k3,hu];rfl,o3,by simpa using hl,fun i hi=> ?_,rfl⟩;rw [List.length_set] at hi;rw [List.getElem?_set];by_cases hik:k=i
 ·subst hik
  rw [if_pos rfl,if_pos hi,hr,if_pos rfl]
 ·rw [if_neg hik,hc i hi,hr,if_neg (by omega)]
theorem dense_Add_new (w:World) (g l:Nat) (r:List Nd) (F:Nat→Prop) (h:DenseAt w g l r F) (hf:Fits l r) (h1:1≤l) (h2:l≤16) (k:Nat) (hk1:1≤k) (hk2:k<2*2^l) (c:Int) (hc:0<c) (hsum:sumR r+c≤72057594037927935) (h0:getR r k=0) :
 Calls Tryz.prog 215 #[.pointer (some ⟨g,0,none⟩),.int .i64 k,.int .i64 c] w fun e w'=>e=.returned (.int .i64 0)∧DenseAt w' g l (addR r k c) F∧Turn F w w':=by
 have HN:=LH (isNode_of h1 (by omega) hk1 hk2);have hs0:=sumR_nonneg hf.roll;have hlen:=len_le_sum hf.roll;have HA:=LH (show addOf (sumR r) c= (sumR r+c,true) by simp only [addOf];rw [if_pos (by omega)]);obtain⟨v,C,hh,ho,hl,hcc,rfl⟩:=h;obtain⟨b,off,cap,rfl,hcap⟩:=own_at0 ho (by omega);have d:=ho.slT.cell_at (k:=k) (by omega) 0 (.int .i64 C[k]) rfl;have hck:=hcc k (by omega);rw [List.getElem?_eq_getElem (by omega)] at hck
 injection hck with hck
 rw [hck,h0] at d;simp only [Nat.mul_one,Nat.add_zero] at d;have hnb:g≠b:=fun he=>ho.ne_block hh (by decide) (by rw [he];rfl);have hnb':b≠g:=fun he=>hnb he.symm;have cc:=bC hh;have cf:=bF hh;have fb:=ho.frozen (off+k);have zg:=lB hh;have zb:=(ho.lt b rfl).2;have H:=LH hh;have HO:=LH ho;have i0: (0:Int)≤(k:Int):=by omega
 have i1: (k:Int) < (C.length:Int):=by omega
 clear hh ho hck
 go_enter Tryz.func215,Tryz.ntmps215
 go_wp2_with fail;refine(twig_Right _ l k).mono ?_;rintro e w1 ⟨rfl,hb1⟩;have B1:Below w.heap.size w w1:=Below.then_ bE hb1;have s1:=B1.size;rw [HN.out];have k1:=bB H.out hb1;have o1:=HO.out.below hb1;have cc1:=bC k1;have cf1:=bF k1;have d1:=(hb1.cell (p:=⟨b,off+k,none⟩) zb).trans d;have f1:=o1.frozen (off+k);have zg1:=lB k1;have zb1:=(o1.lt b rfl).2;have K1:=LH k1;have O1:=LH o1;clear cc cf d fb k1 o1;go_wp2_with fail;refine(reckon_Add _ (sumR r) c (by omega) (by omega)).mono ?_;rintro e w2 ⟨rfl,hb2⟩;have B2:Below w.heap.size w w2:=Below.then_ bE hb2;have s2:=B2.size;rw [HA.out];unfold okV;have k2:=bB K1.out hb2;have o2:=O1.out.below hb2;have cc2:=bC k2;have cf2:=bF k2;have d2:=(hb2.cell (p:=⟨b,off+k,none⟩) zb1).trans d1;have f2:=o2.frozen (off+k);have zg2:=lB k2;have zb2:=(o2.lt b rfl).2;have K2:=LH k2;have O2:=LH o2;have T2:Turn (foot2 g (.slice (some ⟨b,off,none⟩) C.length cap)) w w2:=.of_below B2;clear cc1 cf1 d1 f1 k2 o2;go_wp2_with fail;go_ret;refine⟨rfl,?_,?_⟩
 ·exact dense_stored (r':=addR r k c) K2.out O2.out hl hcc (by omega) (fun j=>by rw [getR_add hf.roll,h0];simp) (by rw [len_add hf.roll,if_pos h0];push_cast;rfl) (sumR_add r k c)
 ·refine Turn.setCell (Turn.setCell (Turn.setCell T2 ?_ _) ?_ _) ?_ _
  ·exact .inl (.inl rfl)
  ·exact .inl (.inr rfl)
  ·exact .inl (.inl rfl)
theorem dense_Add_old (w:World) (g l:Nat) (r:List Nd) (F:Nat→Prop) (h:DenseAt w g l r F) (hf:Fits l r) (h1:1≤l) (h2:l≤16) (k:Nat) (hk1:1≤k) (hk2:k<2*2^l) (c:Int) (hc:0≤c) (hsum:sumR r+c≤72057594037927935) (h0:0<getR r k) :
 Calls Tryz.prog 215 #[.pointer (some ⟨g,0,none⟩),.int .i64 k,.int .i64 c] w fun e w'=>e=.returned (.int .i64 0)∧DenseAt w' g l (addR r k c) F∧Turn F w w':=by
 have HN:=LH (isNode_of h1 (by omega) hk1 hk2);have hs0:=sumR_nonneg hf.roll;have hlen:=len_le_sum hf.roll;have HA:=LH (show addOf (sumR r) c= (sumR r+c,true) by simp only [addOf];rw [if_pos (by omega)]);obtain⟨v,C,hh,ho,hl,hcc,rfl⟩:=h;obtain⟨b,off,cap,rfl,hcap⟩:=own_at0 ho (by omega);have d:=ho.slT.cell_at (k:=k) (by omega) 0 (.int .i64 C[k]) rfl;have hck:=hcc k (by omega);rw [List.getElem?_eq_getElem (by omega)] at hck
 injection hck with hck
 rw [hck] at d;simp only [Nat.mul_one,Nat.add_zero] at d;have hnb:g≠b:=fun he=>ho.ne_block hh (by decide) (by rw [he];rfl);have hnb':b≠g:=fun he=>hnb he.symm;have cc:=bC hh;have cf:=bF hh;have fb:=ho.frozen (off+k);have zg:=lB hh;have zb:=(ho.lt b rfl).2;have H:=LH hh;have HO:=LH ho;have hgs:=getR_le_sum hf.roll k;have i0: (0:Int)≤(k:Int):=by omega
 have i1: (k:Int) < (C.length:Int):=by omega
 clear hh ho hck
 go_enter Tryz.func215,Tryz.ntmps215
 go_wp2_with fail;refine(twig_Right _ l k).mono ?_;rintro e w1 ⟨rfl,hb1⟩;have B1:Below w.heap.size w w1:=Below.then_ bE hb1;have s1:=B1.size;rw [HN.out];have k1:=bB H.out hb1;have o1:=HO.out.below hb1;have cc1:=bC k1;have cf1:=bF k1;have d1:=(hb1.cell (p:=⟨b,off+k,none⟩) zb).trans d;have f1:=o1.frozen (off+k);have zg1:=lB k1;have zb1:=(o1.lt b rfl).2;have K1:=LH k1;have O1:=LH o1;clear cc cf d fb k1 o1;go_wp2_with fail;refine(reckon_Add _ (sumR r) c (by omega) (by omega)).mono ?_;rintro e w2 ⟨rfl,hb2⟩;have B2:Below w.heap.size w w2:=Below.then_ bE hb2;have s2:=B2.size;rw [HA.out];unfold okV;have k2:=bB K1.out hb2;have o2:=O1.out.below hb2;have cc2:=bC k2;have cf2:=bF k2;have d2:=(hb2.cell (p:=⟨b,off+k,none⟩) zb1).trans d1;have f2:=o2.frozen (off+k);have zg2:=lB k2;have zb2:=(o2.lt b rfl).2;have K2:=LH k2;have O2:=LH o2;have T2:Turn (foot2 g (.slice (some ⟨b,off,none⟩) C.length cap)) w w2:=.of_below B2;clear cc1 cf1 d1 f1 k2 o2;go_wp2_with fail;go_ret;refine⟨rfl,?_,?_⟩
 ·exact dense_stored2 (r':=addR r k c) K2.out O2.out hl hcc (by omega) (fun j=>getR_add hf.roll k c j) (by rw [len_add hf.roll,if_neg (by omega)]) (sumR_add r k c)
 ·refine Turn.setCell (Turn.setCell T2 ?_ _) ?_ _
  ·exact .inl (.inr rfl)
  ·exact .inl (.inl rfl)
end
def encB8:Enc UInt8 1:=⟨fun b=> [.int .u8 (b.toNat:Int)],fun _=>rfl,by intro x u hu;simp at hu;subst hu;rfl⟩
theorem tyU8:SliceTy Tryz.prog 235 5 1 1 (.int .u8 0):=⟨Tryz.underlying235,by kernel_rfl,rfl,by decide⟩
def oneB (n:Nat) :List UInt8:=if h:128≤n then UInt8.ofNat (n % 128+128) :: oneB (n / 128) else [UInt8.ofNat n]
termination_by n
decreasing_by omega
theorem oneB_ge {n:Nat} (h:128≤n) :oneB n=UInt8.ofNat (n % 128+128) :: oneB (n / 128):=by rw [oneB,dif_pos h]
theorem oneB_lt {n:Nat} (h: ¬128≤n) :oneB n= [UInt8.ofNat n]:=by rw [oneB,dif_neg h]
theorem oneB_len: ∀(k n:Nat),n<128^k→1≤k→(oneB n).length≤k:=by
 intro k
 induction k with
 |zero=>intro n _ h;omega
 |succ k ih=>
  intro n hn _;by_cases h:128≤n
  ·rw [oneB_ge h,List.length_cons]
   have h1:n / 128<128^k:=by rw [Nat.pow_succ] at hn;exact Nat.div_lt_of_lt_mul (by rw [Nat.mul_comm];exact hn)
   have h2:1≤k:=by
    rcases Nat.eq_zero_or_pos k with rfl|h2
    ·simp at hn;omega
    ·exact h2
   have:=ih _ h1 h2;omega
  ·rw [oneB_lt h];simp
theorem oneB_le {n:Nat} (h:n≤9223372036854775807) : (oneB n).length≤9:=oneB_len 9 n (by have: (128:Nat) ^9=9223372036854775808:=by decide
                                                                                        omega) (by decide)
theorem oneB_pos (n:Nat) :1≤(oneB n).length:=by
 rw [oneB]
 split <;> simp
theorem or_128: ∀x:Fin 256,x.val ||| 128=x.val % 128+128:=by decide
theorem byte_or (m:Nat) :bits BinOp.or IntKind.u8 (IntKind.u8.wrap (m:Int)) 128= (((UInt8.ofNat (m % 128+128)).toNat:Nat) :Int):=by
 have hw:IntKind.u8.wrap (m:Int) = ((m % 256:Nat) :Int):=by rw [IntKind.wrap_u8];omega
 have h:=(bits_nat .u8 8 (by decide) (fun n h0 h1=>by rw [IntKind.wrap_u8];omega) (m % 256) 128 (by omega) (by decide)).2;rw [hw];rw [show ((128:Int)) = ((128:Nat) :Int) from rfl,h,or_128 ⟨m % 256,by omega⟩];simp only [UInt8.toNat_ofNat']
 congr 1
 omega
theorem byte_or' (m:Nat) :bits BinOp.or IntKind.u8 ((m:Int) % 256) 128= (((UInt8.ofNat (m % 128+128)).toNat:Nat) :Int):=by
 have h:=byte_or m
 rwa [IntKind.wrap_u8] at h
theorem byte_one' {m:Nat} (h: ¬128≤m) : (m:Int) = (((UInt8.ofNat m).toNat:Nat) :Int):=by
 rw [UInt8.toNat_ofNat'];omega
theorem vary_one (w:World) (base:Nat) (v:Value) (l:List UInt8) (n:Nat) (ho:Own w base 5 encB8 v l) (hb:base≤w.heap.size) (hl:l.length≤67108864) (hn:n≤9223372036854775807) :
 Calls Tryz.prog 209 #[v,.int .i64 n] w fun e w'=>∃v',e=.returned v'∧Own w' base 5 encB8 v' (l ++ oneB n)∧Below base w w':=by
 have HO:=LH ho;have HL:=LH (oneB_le hn);clear ho
 go_enter Tryz.func209,Tryz.ntmps209
 go_wp2_with fail
 go_loopw [0,1] (fun u i wr=>∃(m:Nat) (pre:List UInt8),i=.int .i64 m∧m≤n∧Own wr base 5 encB8 u (l ++ pre)∧pre ++ oneB m=oneB n∧Below base w wr) (fun _ i _=>(intOf i).toNat)
 case atStart=>exact⟨n, [],rfl,Nat.le_refl _,by simpa using HO.out,rfl,Below.refl _ _⟩
 case round=>
  obtain⟨m,pre,rfl,hm,ho,he,hB⟩:=hrel
  have hpl:pre.length≤8:=by
   have h1:=HL.out;have h2:=oneB_pos m;rw [←he,List.length_append] at h1;omega
  have HB:=LH hB;have HE:=LH he;obtain⟨Ao,co,rfl,_⟩:=ho.form;have HOr:=LH ho;have sz:=hB.size;clear ho he hB;by_cases h:128≤m
  ·have h1: (128:Int)≤(m:Int):=by omega
   have HE2:Hid ((pre ++ [UInt8.ofNat (m % 128+128)]) ++ oneB (m / 128) =oneB n):=LH (by rw [←HE.out,oneB_ge h];simp);have hbo:=byte_or' m;obtain⟨L,hL⟩ : ∃L,L=l ++ pre:=⟨_,rfl⟩;have hLl:L.length≤67108872:=by rw [hL,List.length_append];omega
   rw [←hL] at HOr⊢;have HLe:=LH hL;clear hL;generalize UInt8.ofNat (m % 128+128) =b at hbo HE2;go_wp2_with ((at_builtin;go_loud (refine wpList_push tyU8 rfl _ _ rfl encB8 wr base (.slice Ao L.length co) L rfl HOr.out b (by go_simp) (by simp [encB8,hbo]) ?c1 ?c2 ?c3 ?c4)))
   case c1=>omega
   case c2=>unfold maxLen;omega
   case c3=>omega
   case c4=>
    intro v' w' ho' _ _ _ hb' _;have HO2:=LH ho';have HB2:=LH (HB.out.trans hb');have hsz:=hb'.size;clear ho' hb';go_wp2_with fail;go_roundw
    case rel=>exact⟨m / 128,pre ++ [b],by go_num,by omega,by have:=HO2.out;rw [HLe.out] at this;simpa using this,HE2.out,HB2.out⟩
    case measure=>simp [intOf];omega
  ·have h1: ¬(128:Int)≤(m:Int):=by omega
   have HE2:Hid (pre ++ [UInt8.ofNat m] =oneB n):=LH (by rw [←HE.out,oneB_lt h]);have hbo:=byte_one' h;obtain⟨L,hL⟩ : ∃L,L=l ++ pre:=⟨_,rfl⟩;have hLl:L.length≤67108872:=by rw [hL,List.length_append];omega
   rw [←hL] at HOr⊢;have HLe:=LH hL;clear hL;generalize UInt8.ofNat m=b at hbo HE2;go_wp2_with ((at_builtin;go_loud (refine wpList_push tyU8 rfl _ _ rfl encB8 wr base (.slice Ao L.length co) L rfl HOr.out b (by go_simp) (by simp [encB8,hbo]) ?d1 ?d2 ?d3 ?d4)))
   case d1=>omega
   case d2=>unfold maxLen;omega
   case d3=>omega
   case d4=>
    intro v' w' ho' _ _ _ hb' _;have HO2:=LH ho';have HB2:=LH (HB.out.trans hb');clear ho' hb';go_wp2_with fail;exact bR (v:=v') (by simp only [results,Tryz.results209];go_simp) rfl ⟨_,rfl,by rw [←HE2.out,←List.append_assoc,←HLe.out];exact HO2.out,HB2.out⟩
def putB (L:List Int) :List UInt8:=L.flatMap fun x=>oneB x.toNat
theorem putB_nil:putB [] = []:=rfl
theorem putB_take {L:List Int} {q:Nat} (h:q<L.length) :putB (L.take (q+1)) =putB (L.take q) ++ oneB (L[q]).toNat:=by
 unfold putB;rw [List.take_succ_eq_append_getElem h,List.flatMap_append];simp
theorem putB_len: ∀{L:List Int},(∀x∈L,x≤9223372036854775807)→(putB L).length≤9*L.length:=by
 intro L
 induction L with
 |nil=>intro _;simp [putB]
 |cons x L ih=>
  intro h;have h1:=ih fun y hy=>h y (List.mem_cons_of_mem _ hy);have h2: (oneB x.toNat).length≤9:=oneB_le (by have:=h x (List.mem_cons_self ..);omega);have h3:putB (x :: L) =oneB x.toNat ++ putB L:=by simp [putB]
  rw [h3,List.length_append,List.length_cons];omega
theorem putB_pos {L:List Int} (h:0<L.length) :0< (putB L).length:=by
 match L,h with
 |x :: L,_=>
  have h3:putB (x :: L) =oneB x.toNat ++ putB L:=by simp [putB]
  have:=oneB_pos x.toNat;rw [h3,List.length_append];omega
theorem bytes_back {w:World} {b off cap:Nat} {l:List UInt8} {base:Nat} (ho:Own w base 5 encB8 (.slice (some ⟨b,off,none⟩) l.length cap) l) :
 ∀(j:Nat) (hj:j<l.length),w.cell? (Addr.add ⟨b,off,none⟩ j) =some (.int .u8 (l[j].toNat:Int)):=by
 intro j hj;obtain⟨b',off',he,_,hc⟩:=ho.sl.at_ hj
 injection he with he
 injection he with h1 h2
 subst h1 h2;have h3:=hc 0 (.int .u8 (l[j].toNat:Int)) rfl
 rw [show Addr.add ⟨b,off,none⟩ j= ⟨b,off+j,none⟩ by
  unfold Addr.add;split <;> simp_all]
 simpa using h3
theorem vary_Put (w:World) (base:Nat) (v:Value) (L:List Int) (ho:Own w base 3 encZ v L) (hi: ∀x∈L,i64 x) (hl:L.length≤65536) (h0:0<L.length) :
 Calls Tryz.prog 157 #[v] w fun e w'=>(∃t,e=.returned (.tuple #[.string t,.int .i64 (if L.all (fun x=>decide (0≤x)) =true then 0 else 2)])∧(L.all (fun x=>decide (0≤x)) =true→t= ⟨(putB L).toArray⟩))∧Below w.heap.size w w':=by
 obtain⟨A,c,rfl,_⟩:=ho.form;have HO:=LH (ho.base_le (Nat.zero_le _));have HI:=LH hi;have HP:=LH (putB_pos h0);clear ho hi
 go_enter Tryz.func157,Tryz.ntmps157
 go_wp2_with fail
 go_loopw [4,9] (fun u j wr=>∃q:Nat,q≤L.length∧j=.int .i64 q∧Own wr w.heap.size 5 encB8 u (putB (L.take q))∧(∀x∈L.take q,0≤x)∧Below w.heap.size w wr) (fun _ j _=>L.length - (intOf j).toNat)
 case atStart=>exact⟨0,Nat.zero_le _,rfl,Own.nil _ _ _ _,by simp,Below.refl _ _⟩
 case round=>
  obtain⟨q,hq,rfl,ho,hp,hB⟩:=hrel;have HB:=LH hB;have HR:=LH (HO.out.below hB);have HU:=LH ho;have HPq:=LH hp;have sz:=hB.size;clear ho hp hB;by_cases hlt:q<L.length
  ·have hqi: (q:Int) < (L.length:Int):=by omega
   obtain⟨b,off,rfl,hb,hc⟩:=HR.out.sl.at_ hlt;have d0:=hc 0 (.int .i64 L[q]) rfl;simp only [Nat.mul_one,Nat.add_zero] at d0;have hx1:=HI.out _ (List.getElem_mem hlt);by_cases hx:L[q] <0
   ·have hall:L.all (fun x=>decide (0≤x)) =false:=by
     rw [List.all_eq_false];exact⟨L[q],List.getElem_mem hlt,by simpa using hx⟩
    clear hc;generalize L[q] =x at*;go_wp2_with fail
    all_goals exact bR (v:=.tuple #[.string ⟨#[]⟩,.int .i64 2]) (by simp only [results,Tryz.results157];go_simp) rfl ⟨⟨_,rfl⟩,HB.out⟩
   ·have HTk:=LH (putB_take hlt)
    have HPn:Hid (∀x∈L.take (q+1),0≤x):=LH (by
     rw [List.take_succ_eq_append_getElem hlt];intro x hx';rcases List.mem_append.1 hx' with h|h
     ·exact HPq.out x h
     ·simp only [List.mem_singleton] at h;subst h;omega)
    obtain⟨n,hn⟩ : ∃n:Nat,L[q] = (n:Int):=⟨L[q].toNat,by omega⟩;have hn9:n≤9223372036854775807:=by have:=hx1.2;omega
    have hn0:decide ((n:Int) <0) =false:=by simp
    rw [hn] at d0 HTk
    have hlq: (putB (L.take q)).length≤67108864:=by
     have h1:=putB_len (L:=L.take q) fun y hy=>(HI.out y (List.mem_of_mem_take hy)).2;have h2: (L.take q).length≤65536:=by rw [List.length_take];omega
     omega
    clear hc hx hx1 hn;go_wp2_with fail;refine(vary_one wr w.heap.size _ (putB (L.take q)) n HU.out sz hlq hn9).mono ?_;rintro e w1 ⟨v1,rfl,ho1,hb1⟩;have HO1:=LH ho1;have HB1:=LH (HB.out.trans hb1);clear ho1 hb1;go_wp2_with fail;go_roundw
    case rel=>exact⟨q+1,by omega,by go_num,by rw [HTk.out];exact HO1.out,HPn.out,HB1.out⟩
    case measure=>simp [intOf];omega
  ·obtain rfl:q=L.length:=by omega
   rw [List.take_length] at HU HPq;have hqi:decide ((L.length:Int) < (L.length:Int)) =false:=by simp
   have hall:L.all (fun x=>decide (0≤x)) =true:=by
    rw [List.all_eq_true];intro x hx
    simpa using HPq.out x hx
   obtain⟨bb,oo,cc,rfl,_⟩:=own_at0 HU.out HP.out;have hcv:=run_convert_bytes_back (P:=Tryz.prog) wr 235 9 5 ⟨bb,oo,none⟩ cc (putB L) Tryz.underlying235 Tryz.underlying5 Tryz.underlying9 (bytes_back HU.out);generalize hG:putB L=G at HU hcv⊢;have HG:=LH hG;clear hG;go_wp2_with fail
   all_goals exact bR (v:=.tuple #[.string ⟨G.toArray⟩,.int .i64 0]) (by simp only [results,Tryz.results157];go_simp) rfl ⟨by rw [HG.out],HB.out⟩
def stepD (L:List Int) :List Int:=List.zipWith (fun x p=>x - p) L (0 :: L)
theorem stepD_len (L:List Int) : (stepD L).length=L.length:=by simp [stepD]
theorem stepD_at (L:List Int) {q:Nat} (h:q<L.length) {p:Int} (hp: (0 :: L)[q]? =some p) : (stepD L)[q]? =some (L[q] - p):=by
 unfold stepD;rw [List.getElem?_zipWith,hp,List.getElem?_eq_getElem h]
def risesB (L:List Int) :List UInt8:=oneB L.length ++ putB (stepD L)
def risesOk (L:List Int) :Bool:=(stepD L).all fun d=>decide (0<d)
theorem putB_step {D:List Int} {q:Nat} {d:Int} (h:D[q]? =some d) :putB (D.take (q+1)) =putB (D.take q) ++ oneB d.toNat:=by
 obtain⟨hq,rfl⟩:=List.getElem?_eq_some_iff.1 h;exact putB_take hq
theorem vary_Rises (w:World) (base:Nat) (v:Value) (L:List Int) (ho:Own w base 3 encZ v L) (hi: ∀x∈L,i64 x) (hl:L.length≤1000000) (hr:risesOk L=true) :
 Calls Tryz.prog 158 #[v] w fun e w'=>e=.returned (.tuple #[.string ⟨(risesB L).toArray⟩,.int .i64 0])∧Below w.heap.size w w':=by
 obtain⟨A,c,rfl,_⟩:=ho.form;have HO:=LH (ho.base_le (Nat.zero_le _));have HI:=LH hi
 have HD:=LH (fun q (hq:q<L.length) (d:Int) (hd: (stepD L)[q]? =some d)=>by
  have:=List.all_eq_true.1 hr d (List.mem_of_getElem? hd)
  simpa using this)
 clear ho hi hr
 go_enter Tryz.func158,Tryz.ntmps158
 go_wp2_with fail;refine(vary_one w w.heap.size _ [] L.length (Own.nil _ _ _ _) (Nat.le_refl _) (by simp) (by omega)).mono ?_;rintro e w1 ⟨v1,rfl,ho1,hb1⟩;have HU1:=LH ho1;have HB1:=LH hb1;clear ho1 hb1;go_wp2_with fail
 go_loopw [4,5,13] (fun u pv j wr=>∃(q:Nat) (p:Int),j=.int .i64 q∧pv=.int .i64 p∧q≤L.length∧(0 :: L)[q]? =some p∧0≤p∧(∀d∈(stepD L).take q,d≤9223372036854775807)∧Own wr w.heap.size 5 encB8 u (oneB L.length ++ putB ((stepD L).take q))∧Below w.heap.size w wr) (fun _ _ j _=>L.length - (intOf j).toNat)
 case atStart=>exact⟨0,0,rfl,rfl,Nat.zero_le _,rfl,Int.le_refl _,by simp,by simpa [putB] using HU1.out,HB1.out⟩
 case round=>
  obtain⟨q,p,rfl,rfl,hq,hp,hp0,hd,ho,hB⟩:=hrel;have HB:=LH hB;have HR:=LH (HO.out.below hB);have HU:=LH ho;have HP:=LH hp;have HDl:=LH hd;have sz:=hB.size;clear hp hd ho hB;by_cases hlt:q<L.length
  ·have hqi: (q:Int) < (L.length:Int):=by omega
   have HS:=LH (stepD_at L hlt HP.out);have hpos:=HD.out q hlt _ HS.out;have hx1:=(HI.out _ (List.getElem_mem hlt)).2;have HN:Hid ((0 :: L)[q+1]? =some L[q]):=LH (by simp [List.getElem?_eq_getElem hlt]);obtain⟨b,off,rfl,hb,hc⟩:=HR.out.sl.at_ hlt;have d0:=hc 0 (.int .i64 L[q]) rfl;simp only [Nat.mul_one,Nat.add_zero] at d0;generalize L[q] =x at HS hpos hx1 HN d0;obtain⟨n,hn⟩ : ∃n:Nat,x - p= (n:Int):=⟨(x - p).toNat,by omega⟩;have hle: ¬x≤p:=by omega
   have hn9:n≤9223372036854775807:=by omega
   have HT:=LH (putB_step HS.out);rw [hn] at HT
   have hlq: (oneB L.length ++ putB ((stepD L).take q)).length≤67108864:=by
    have h1:=putB_len HDl.out;have h2: ((stepD L).take q).length≤1000000:=by rw [List.length_take];omega
    have h3:=oneB_le (n:=L.length) (by omega);rw [List.length_append];omega
   have HD2:Hid (∀d∈(stepD L).take (q+1),d≤9223372036854775807):=LH (by
    obtain⟨h1,h2⟩:=List.getElem?_eq_some_iff.1 HS.out;rw [List.take_succ_eq_append_getElem h1];intro d hd;rcases List.mem_append.1 hd with h|h
    ·exact HDl.out d h
    ·simp only [List.mem_singleton] at h;rw [h,h2];omega)
   have hx0:0≤x:=by omega
   clear hc hpos HS;go_wp2_with fail;refine(vary_one wr w.heap.size _ _ n HU.out sz hlq hn9).mono ?_;rintro e w2 ⟨v2,rfl,ho2,hb2⟩;have HU2:=LH ho2;have HB2:=LH (HB.out.trans hb2);clear ho2 hb2;go_wp2_with fail;go_roundw
   case rel=>exact⟨q+1,x,by go_num,rfl,by omega,HN.out,hx0,HD2.out,by rw [HT.out,←List.append_assoc];exact HU2.out,HB2.out⟩
   case measure=>simp [intOf];omega
  ·obtain rfl:q=L.length:=by omega
   rw [show (stepD L).take L.length=stepD L by rw [←stepD_len L,List.take_length]] at HU;have hqi:decide ((L.length:Int) < (L.length:Int)) =false:=by simp
   have hGp:0< (oneB L.length ++ putB (stepD L)).length:=by
    have:=oneB_pos L.length;rw [List.length_append];omega
   obtain⟨bb,oo,cc,rfl,_⟩:=own_at0 HU.out hGp;have hcv:=run_convert_bytes_back (P:=Tryz.prog) wr 235 9 5 ⟨bb,oo,none⟩ cc (oneB L.length ++ putB (stepD L)) Tryz.underlying235 Tryz.underlying5 Tryz.underlying9 (bytes_back HU.out);generalize hG:oneB L.length ++ putB (stepD L) =G at HU hcv hGp⊢;have HG:=LH hG;clear hG;go_wp2_with fail
   all_goals exact bR (v:=.tuple #[.string ⟨G.toArray⟩,.int .i64 0]) (by simp only [results,Tryz.results158];go_simp) rfl ⟨by unfold risesB;rw [HG.out],HB.out⟩
def getF (a acc:Nat) :List UInt8→Nat×Nat×Int
 | []=>if a=9 then (0,0,10) else (0,0,9)
 |b :: t=>if a=9 then (0,0,10) else if b.toNat<128 then (if 0<a∧b.toNat=0 then (0,0,10) else (acc+b.toNat*128^a,a+1,0)) else getF (a+1) (acc+ (b.toNat - 128) *128^a) t
def getB (s:List UInt8) :Nat×Nat×Int:=getF 0 0 s
theorem getF_last {a acc:Nat} {b:UInt8} {t:List UInt8} (h:a<9) (hb:b.toNat<128) (h0: ¬(0<a∧b.toNat=0)) :getF a acc (b :: t) = (acc+b.toNat*128^a,a+1,0):=by
 simp only [getF];rw [if_neg (by omega),if_pos hb,if_neg h0]
theorem getF_more {a acc:Nat} {b:UInt8} {t:List UInt8} (h:a<9) (hb: ¬b.toNat<128) :getF a acc (b :: t) =getF (a+1) (acc+ (b.toNat - 128) *128^a) t:=by
 rw [getF,if_neg (by omega),if_neg hb]
theorem getF_one: ∀(k n a acc:Nat) (t:List UInt8),n<128^k→a+k≤9→(0<a→0<n)→1≤k→getF a acc (oneB n ++ t) = (acc+n*128^a,a+ (oneB n).length,0):=by
 intro k
 induction k with
 |zero=>intro n a acc t _ _ _ h;omega
 |succ k ih=>
  intro n a acc t hn ha h0 _;by_cases h:128≤n
  ·rw [oneB_ge h,List.cons_append]
   have hb: (UInt8.ofNat (n % 128+128)).toNat=n % 128+128:=by
    rw [UInt8.toNat_ofNat'];omega
   rw [getF_more (by omega) (by rw [hb];omega),hb]
   have hk:1≤k:=by
    rcases Nat.eq_zero_or_pos k with rfl|hk
    ·simp at hn;omega
    ·exact hk
   have hp:128^ (k+1) =128^k*128:=Nat.pow_succ ..;rw [ih (n / 128) (a+1) _ t (by rw [hp] at hn;omega) (by omega) (fun _=>by omega) hk];have hp2:128^ (a+1) =128^a*128:=Nat.pow_succ ..;refine Prod.ext ?_ (Prod.ext ?_ rfl)
   ·show acc+ (n % 128+128 - 128) *128^a+n / 128*128^ (a+1) =acc+n*128^a
    rw [hp2,Nat.add_sub_cancel,←Nat.mul_assoc,Nat.mul_right_comm,Nat.add_assoc,←Nat.add_mul]
    congr 2
    omega
   ·show a+1+ (oneB (n / 128)).length=a+ (UInt8.ofNat (n % 128+128) :: oneB (n / 128)).length
    simp only [List.length_cons];omega
  ·rw [oneB_lt h]
   have hb: (UInt8.ofNat n).toNat=n:=by rw [UInt8.toNat_ofNat'];omega
   show getF a acc (UInt8.ofNat n :: t) =_
   rw [getF_last (by omega) (by rw [hb];omega) (by rw [hb];omega),hb]
   rfl
theorem getB_one {n:Nat} (hn:n≤9223372036854775807) (t:List UInt8) :getB (oneB n ++ t) = (n,(oneB n).length,0):=by
 unfold getB
 rw [getF_one 9 n 0 0 t (by have: (128:Nat) ^9=9223372036854775808:=by decide
                            omega) (by omega) (by omega) (by omega)]
 simp
def fallF (s:List UInt8) :Nat→Nat→Nat→List Int→List Int×Nat×Int
 |0,_,a,out=>(out,a,0)
 |m+1,last,a,out=>
  let g:=getB (s.drop a)
  if g.2.2≠0 then ([],0,g.2.2) else if g.1=0∨9223372036854775807 - last<g.1 then ([],0,10) else fallF s m (last+g.1) (a+g.2.1) (out ++ [((last+g.1:Nat) :Int)])
def fallB (s:List UInt8) (most:Int) :List Int×Nat×Int:=
 let g:=getB s
 if g.2.2≠0 then ([],0,g.2.2) else if most< (g.1:Int) then ([],0,13) else fallF s g.1 0 g.2.1 []
def sum1 (s:Nat×Nat) (b:UInt8) :Nat×Nat:=((s.1+b.toNat) % 65521,(s.2+ (s.1+b.toNat)) % 65521)
def sumT (s:Nat×Nat) (l:List UInt8) :Nat×Nat:=l.foldl sum1 s
def sumV (s:Nat×Nat) :Value:=.agg #[.int .i64 s.1,.int .i64 s.2]
theorem sumT_app (s) (l m:List UInt8) :sumT s (l ++ m) =sumT (sumT s l) m:=by simp [sumT,List.foldl_append]
theorem sum1_lt (s) (b:UInt8) : (sum1 s b).1<65521∧(sum1 s b).2<65521:=⟨Nat.mod_lt _ (by decide),Nat.mod_lt _ (by decide)⟩
theorem sumT_lt {s:Nat×Nat} (h:s.1<65521∧s.2<65521) : ∀l:List UInt8,(sumT s l).1<65521∧(sumT s l).2<65521:=by
 intro l
 induction l generalizing s with
 |nil=>exact h
 |cons b l ih=>exact ih (sum1_lt s b)
theorem seal_Begin (w:World) :Calls Tryz.prog 260 #[] w fun e w'=>e=.returned (sumV (1,0))∧Below w.heap.size w w':=by
 go_enter Tryz.func260,Tryz.ntmps260
 go_wp2_with fail;exact bR (v:=.agg #[.int .i64 1,.int .i64 0]) (by simp only [results,Tryz.results260];go_simp) rfl ⟨rfl,bE⟩
theorem back4 (W:World) (a b c d:UInt8) (n:Nat) (hn:n=W.heap.size) :
 (convert 235 9 (.slice (some ⟨n,0,none⟩) 4 4)).run Tryz.prog (W.alloc (.cells #[.int .u8 (a.toNat:Int),.int .u8 (b.toNat:Int),.int .u8 (c.toNat:Int),.int .u8 (d.toNat:Int)] 5)) =.ok (.string ⟨[a,b,c,d].toArray⟩) (W.alloc (.cells #[.int .u8 (a.toNat:Int),.int .u8 (b.toNat:Int),.int .u8 (c.toNat:Int),.int .u8 (d.toNat:Int)] 5)):=by
 subst hn;refine run_convert_bytes_back (P:=Tryz.prog) _ 235 9 5 ⟨W.heap.size,0,none⟩ 4 [a,b,c,d] Tryz.underlying235 Tryz.underlying5 Tryz.underlying9 ?_;intro j hj;rw [show Addr.add ⟨W.heap.size,0,none⟩ j= ⟨W.heap.size,j,none⟩ by unfold Addr.add;split <;> simp_all];rw [World.cell?_alloc_mark];simp only [List.length_cons,List.length_nil] at hj
 match j,hj with
 |0,_=>rfl
 |1,_=>rfl
 |2,_=>rfl
 |3,_=>rfl
def bytesL (s:Nat×Nat) :List UInt8:= [UInt8.ofNat (s.2 / 256),UInt8.ofNat s.2,UInt8.ofNat (s.1 / 256),UInt8.ofNat s.1]
theorem seal_Bytes (w:World) (s:Nat×Nat) (h:s.1<65521∧s.2<65521) :Calls Tryz.prog 211 #[sumV s] w fun e w'=>e=.returned (.string ⟨(bytesL s).toArray⟩)∧Below w.heap.size w w':=by
 unfold sumV;have h1: (s.2:Int) / 256= ((UInt8.ofNat (s.2 / 256)).toNat:Int):=by rw [UInt8.toNat_ofNat'];omega
 have h2: (s.2:Int) % 256= ((UInt8.ofNat s.2).toNat:Int):=by rw [UInt8.toNat_ofNat'];omega
 have h3: (s.1:Int) / 256= ((UInt8.ofNat (s.1 / 256)).toNat:Int):=by rw [UInt8.toNat_ofNat'];omega
 have h4: (s.1:Int) % 256= ((UInt8.ofNat s.1).toNat:Int):=by rw [UInt8.toNat_ofNat'];omega
 unfold bytesL;generalize UInt8.ofNat (s.2 / 256) =a at h1⊢;generalize UInt8.ofNat s.2=b at h2⊢;generalize UInt8.ofNat (s.1 / 256) =c at h3⊢;generalize UInt8.ofNat s.1=d at h4⊢;have hcv:=back4 (w.alloc (.cells #[.int .i64 s.1,.int .i64 s.2] 274)) a b c d (w.heap.size+1) (by simp);have HB:Hid (Below w.heap.size w ((w.alloc (.cells #[.int .i64 s.1,.int .i64 s.2] 274)).alloc (.cells #[.int .u8 (a.toNat:Int),.int .u8 (b.toNat:Int),.int .u8 (c.toNat:Int),.int .u8 (d.toNat:Int)] 5))):=LH bE;have h5:=h.1;have h6:=h.2;clear h
 go_enter Tryz.func211,Tryz.ntmps211
 go_wp2_with fail;exact bR (v:=.string ⟨[a,b,c,d].toArray⟩) (by simp only [results,Tryz.results211];go_simp) rfl ⟨rfl,HB.out⟩
def SealAt (W:World) (b lo hi:Nat) :Prop:=W.heap[b]? =some (.cells #[.int .i64 lo,.int .i64 hi] 274 (0,0))
theorem SealAt.below {w w':World} {b lo hi:Nat} (h:SealAt w b lo hi) (hb:Below w.heap.size w w') :SealAt w' b lo hi:=bB h hb
theorem SealAt.set {w:World} {b lo hi q o:Nat} (h:SealAt w b lo hi) (hne:b≠q) (u:Value) :SealAt (w.setCell ⟨q,o,none⟩ u) b lo hi:=(Below.heap_setCell _ _ _ _ hne).trans h
theorem SealAt.put0 {w:World} {b lo hi:Nat} (h:SealAt w b lo hi) (x:Nat) :SealAt (w.setCell ⟨b,0,none⟩ (.int .i64 x)) b x hi:=zH (i:=0) h _
theorem SealAt.put1 {w:World} {b lo hi:Nat} (h:SealAt w b lo hi) (x:Nat) :SealAt (w.setCell ⟨b,1,none⟩ (.int .i64 x)) b lo x:=zH (i:=1) h _
theorem seal_step {A:Nat×Nat} {lo hi:Nat} (b:UInt8) (h1:lo % 65521=A.1) (h2:hi % 65521=A.2) : (lo+b.toNat) % 65521= (sum1 A b).1∧(hi+ (lo+b.toNat)) % 65521= (sum1 A b).2:=by
 unfold sum1;dsimp only;omega
theorem sumT_take {A:Nat×Nat} {l:List UInt8} {q:Nat} (h:q<l.length) :sumT A (l.take (q+1)) =sum1 (sumT A (l.take q)) l[q]:=by
 rw [List.take_succ_eq_append_getElem h,sumT_app]
 rfl
theorem text_at (W:World) (l:List UInt8) (q:Nat) (h:q<l.length) : (Instr.index 9 (.string ⟨l.toArray⟩) (.int .i64 q)).run Tryz.prog W=.ok (.int .u8 (l[q].toNat:Int)) W:=by
 have hq:0≤(q:Int)∧(q:Int) < ((ByteArray.mk l.toArray).size:Int):=⟨by omega,by show (q:Int) < (l.toArray.size:Int);simp;exact h⟩;rw [run_index_string W 9 ⟨l.toArray⟩ .i64 q Tryz.underlying9,dif_pos hq]
 rfl
def strSize:Value→Nat
 | .string b=>b.size
 |_=>0
theorem text_drop (l:List UInt8) (n:Nat) : (ByteArray.mk l.toArray).extract n l.length= ⟨(l.drop n).toArray⟩:=by
 apply ByteArray.ext
 simp [ByteArray.data_extract]
 exact List.take_of_length_le (by simp)
theorem SealAt.drew {w:World} {b lo hi:Nat} (h:SealAt w b lo hi) :SealAt w.drew b lo hi:=h
theorem SealAt.new (w:World) (lo hi:Nat) :SealAt (w.alloc (.cells #[.int .i64 lo,.int .i64 hi] 274)) w.heap.size lo hi:=heap_alloc_new w _
theorem SealAt.alloc {w:World} {b lo hi:Nat} (h:SealAt w b lo hi) (o:Obj) :SealAt (w.alloc o) b lo hi:=h.below ((Below.refl _ _).alloc (Nat.le_refl _) o)
theorem size_alloc1 (w:World) (o:Obj) : (w.alloc o).heap.size=w.heap.size+1:=by simp
theorem seal_More (w:World) (s:Nat×Nat) (l:List UInt8) (h:s.1<65521∧s.2<65521) (hl:l.length≤1000000000000) :
 Calls Tryz.prog 261 #[sumV s,.string ⟨l.toArray⟩] w fun e w'=>e=.returned (sumV (sumT s l))∧Below w.heap.size w w':=by
 unfold sumV;have HS:=LH h;clear h
 go_enter Tryz.func261,Tryz.ntmps261
 go_wp2_with fail
 go_loopw [1] (fun t wr=>∃(pre suf:List UInt8),t=.string ⟨suf.toArray⟩∧pre ++ suf=l∧SealAt wr w.heap.size (sumT s pre).1 (sumT s pre).2∧SealAt wr (w.heap.size+1) 0 0∧Below w.heap.size w wr) (fun t _=>strSize t)
 case atStart=>
  refine⟨[],l,rfl,rfl,(SealAt.new w s.1 s.2).alloc _,?_,bE⟩;have:=SealAt.new (w.alloc (.cells #[.int .i64 s.1,.int .i64 s.2] 274)) 0 0;rw [size_alloc1] at this;exact this
 case round=>
  obtain⟨pre,suf,rfl,he,hx,hy,hB⟩:=hrel;have HE:=LH he;have HX:=LH hx;have HY:=LH hy;have HB:=LH hB;have hsl:suf.length≤1000000000000:=by rw [←he,List.length_append] at hl;omega
  have HLt:=LH (sumT_lt HS.out pre);have sz:=hB.size;clear he hx hy hB;by_cases h0:0<suf.length
  ·have h1: (0:Int) < (suf.length:Int):=by omega
   obtain⟨n,hn⟩ : ∃n:Nat,n=min suf.length 5000:=⟨_,rfl⟩;have hmin:min (suf.length:Int) 5000= (n:Int):=by omega
   have hn1:1≤n∧n≤5000∧n≤suf.length:=by omega
   clear hn;go_wp2_with fail
   go_loopw [14] (fun j W=>∃q lo hi:Nat,j=.int .i64 q∧q≤n∧SealAt W w.heap.size lo hi∧lo≤65520+255*q∧hi≤65520+q*1400000∧lo % 65521= (sumT (sumT s pre) (suf.take q)).1∧hi % 65521= (sumT (sumT s pre) (suf.take q)).2∧SealAt W (w.heap.size+1) 0 0∧Below w.heap.size w W) (fun j _=>n - (intOf j).toNat)
   case atStart=>
    have hL:=HLt.out;exact⟨0,_,_,rfl,Nat.zero_le _,HX.out,by omega,by omega,Nat.mod_eq_of_lt hL.1,Nat.mod_eq_of_lt hL.2,HY.out,HB.out⟩
   case round=>
    obtain⟨q,lo,hi,rfl,hq,hx,hlo,hhi,hm1,hm2,hy,hB⟩:=hrel;have HM:=LH (And.intro hm1 hm2);have HY2:=LH hy;have HB2:=LH hB;have HX2:=LH hx;have cc:=bC hx;have cf:=bF hx;have zb:=lB hx;clear hm1 hm2 hy hB hx;by_cases hqn:q<n
    ·have hqi: (q:Int) < (n:Int):=by omega
     have hqs:q<suf.length:=by omega
     have hqsi: (q:Int) < (suf.length:Int):=by omega
     have HS1:=LH (sumT_take (A:=sumT s pre) hqs);have HS2:=LH (seal_step suf[q] HM.out.1 HM.out.2);have hbl: (suf[q]).toNat<256:=(suf[q]).toNat_lt;have hix:=fun W=>text_at W suf q hqs;generalize suf[q] =y at HS1 HS2 hbl hix;generalize y.toNat=b at HS2 hbl hix;obtain⟨lo2,hlo2⟩ : ∃lo2:Nat,lo2=lo+b:=⟨_,rfl⟩;rw [←hlo2] at HS2;have hw: (lo:Int) + (b:Int) = (lo2:Int):=by omega
     have HX3:=LH (HX2.out.put0 lo2).drew;have HY3:=LH (HY2.out.set (q:=w.heap.size) (o:=0) (by omega) (.int .i64 lo2)).drew;have HB3:=LH (Below.setCell (p:=⟨w.heap.size,0,none⟩) HB2.out (Nat.le_refl _) (.int .i64 lo2)).drew;have hlo3:lo2≤65520+255* (q+1):=by omega
     clear hlo2;go_wp2_with fail
     go_region
     generalize (wr.setCell ⟨w.heap.size,0,none⟩ (.int .i64 lo2)).drew=W3 at HX3 HY3 HB3⊢;have cc3:=bC HX3.out;have cf3:=bF HX3.out;have zb3:=lB HX3.out;clear cc cf zb hw;obtain⟨hi2,hhi2⟩ : ∃hi2:Nat,hi2=hi+lo2:=⟨_,rfl⟩;rw [←hhi2] at HS2;have HX4:=LH (HX3.out.put1 hi2);have HY4:=LH (HY3.out.set (q:=w.heap.size) (o:=1) (by omega) (.int .i64 hi2));have HB4:=LH (Below.setCell (p:=⟨w.heap.size,1,none⟩) HB3.out (Nat.le_refl _) (.int .i64 hi2));have hw2: (hi:Int) + (lo2:Int) = (hi2:Int):=by omega
     have hhi3:hi2≤65520+ (q+1) *1400000:=by omega
     clear hhi2;go_wp2_with fail;go_roundw
     case rel=>exact⟨q+1,lo2,hi2,by go_num,by omega,HX4.out,hlo3,hhi3,by rw [HS1.out];exact HS2.out.1,by rw [HS1.out];exact HS2.out.2,HY4.out,HB4.out⟩
     case measure=>simp [intOf];omega
    ·obtain rfl:q=n:=by omega
     have hqi:decide ((q:Int) < (q:Int)) =false:=by simp
     have HEX:Hid (pre ++ suf.take q ++ suf.drop q=l):=LH (by rw [List.append_assoc,List.take_append_drop];exact HE.out);have hm:sumT (sumT s pre) (suf.take q) =sumT s (pre ++ suf.take q):=(sumT_app _ _ _).symm;have HM2:=LH (And.intro (HM.out.1.trans (congrArg Prod.fst hm)) (HM.out.2.trans (congrArg Prod.snd hm)));generalize pre ++ suf.take q=pre2 at HEX HM2 hm;clear hm HM;have hloi: (lo:Int) % 65521= ((sumT s pre2).1:Int):=by have:=HM2.out.1;omega
     have hhii: (hi:Int) % 65521= ((sumT s pre2).2:Int):=by have:=HM2.out.2;omega
     generalize hA: (sumT s pre2).1=A1 at hloi;generalize hA2: (sumT s pre2).2=A2 at hhii;have HA:=LH (And.intro hA hA2);clear hA hA2;have HX3:=LH ((HX2.out.put0 A1).put1 A2);have HY3:=LH ((HY2.out.set (q:=w.heap.size) (o:=0) (by omega) (.int .i64 A1)).set (q:=w.heap.size) (o:=1) (by omega) (.int .i64 A2));have HB3:=LH (Below.setCell (p:=⟨w.heap.size,1,none⟩) (Below.setCell (p:=⟨w.heap.size,0,none⟩) HB2.out (Nat.le_refl _) (.int .i64 A1)) (Nat.le_refl _) (.int .i64 A2));have htd:=text_drop suf q;go_wp2_with fail;go_roundw
     case rel=>exact⟨pre2,suf.drop q,rfl,HEX.out,by rw [HA.out.1,HA.out.2];exact HX3.out,HY3.out,HB3.out⟩
     case measure=>
      show (List.drop q suf).toArray.size<suf.toArray.size
      simp
      omega
  ·obtain rfl:suf= []:=List.eq_nil_of_length_eq_zero (by omega)
   obtain rfl:pre=l:=by simpa using HE.out
   have cc:=bC HX.out;have cf:=bF HX.out;have zb:=lB HX.out;have cd:=bC HY.out;have cg:=bF HY.out;have zc:=lB HY.out;have HYe:=LH ((HY.out.put0 (sumT s pre).1).put1 (sumT s pre).2);have HBe:=LH (Below.setCell (p:=⟨w.heap.size+1,1,none⟩) (Below.setCell (p:=⟨w.heap.size+1,0,none⟩) HB.out (by simp) (.int .i64 (sumT s pre).1)) (by simp) (.int .i64 (sumT s pre).2));go_wp2_with fail;generalize ((wr.setCell ⟨w.heap.size+1,0,none⟩ (.int .i64 (sumT s pre).1)).setCell ⟨w.heap.size+1,1,none⟩ (.int .i64 (sumT s pre).2)) =W4 at HYe HBe⊢;have ce:=bC HYe.out;have cfe:=bF HYe.out;have ze:=lB HYe.out;exact bR (v:=.agg #[.int .i64 (sumT s pre).1,.int .i64 (sumT s pre).2]) (by simp only [results,Tryz.results261];go_simp) rfl ⟨rfl,HBe.out⟩
def GetPost (s:List UInt8) (w:World) (e:Ending) (w':World) :Prop:=e=.returned (.tuple #[.int .i64 (getB s).1,.int .i64 (getB s).2.1,.int .i64 (getB s).2.2])∧Below w.heap.size w w'
end Go.Proofs.YtlgnakobjkhmhaaGreatDoor
