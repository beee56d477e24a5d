/-
  Texts of this proof, one behind the other: AuditLaw, TilesMore, AgendaLaw, FoldLaw, ReadLaw, RegionN, Ref23, Ref29, Sensor, HeapLaw, RunLaw, BagLaw, Leaf, AddB, HeldLaw, MergeLaw, FoldRoll, FoldRoll2, ProbeDel, Dense3, Probe4, Pool3, Probe5, Pool4, FoldW.
-/
import Derived.Deep.RegionHeld3
import Derived.Deep.RegionLaw
import Derived.Laws.BitsLemmas
import Derived.BigRegion
import Derived.Deep.DeepCutAuto
import Derived.Test.YtlgnakobjkhmhaaGreatDoorR1
import Derived.Test.YtlgnakobjkhmhaaGreatDoorR2
import Derived.Test.YtlgnakobjkhmhaaGreatDoorR3
set_option linter.unusedVariables false
set_option linter.unusedSimpArgs false
set_option maxRecDepth 100000
set_option maxHeartbeats 16000000
namespace Go.Proofs.YtlgnakobjkhmhaaGreatDoor
open Go.ChangeShapes Go.WideShapes Go.ChangeAt Go.RowKit
def ownN (r:List Nd) (id:Int) :Int:=wIds (fun x=>abv id x) r
def bagB (l:Nat) (q:List Nd) (lo hi:Int) :Int:=weighR l (inLow lo hi) q
def moreN (l:Nat) (r q:List Nd) (id:Int) :Int:=ownN r id - bagB l q (loN l id) (hiN l id)
def culF (l:Nat) (r q:List Nd) (id:Int) :Int:=max (moreN l r q id) 0
def inRun (l:Nat) (a b x z:Int) :Bool:=abv x z && (decide (a≤loN l z) && decide (hiN l z≤b))
def inRunV (l:Nat) (a b x z:Int) :Bool:=(decide (a≤loN l z) && decide (loN l x≤loN l z)) && (decide (hiN l z≤b) && decide (hiN l z≤hiN l x))
def ancF:Nat→Int→List Int
 |0,_=> []
 |n+1,x=>if x<1 then [] else x :: ancF n (x / 2)
def ancL (x:Int) :List Int:=ancF 49 x
def allAnc (r:List Nd) :List Int:=r.flatMap fun x=>ancL x.1
def offIs (f:Int→Int) (L:List Int) (r:Int×Int) :Prop:=r.1∈L∧r.2=f r.1∧∀x∈L,f x≤r.2∧(f x=r.2→r.1≤x)
def offStep (f:Int→Int) (a:Int×Int) (x:Int) :Int×Int:=if a.2<f x then (x,f x) else a
def offFold (f:Int→Int) (L:List Int) :Int×Int:=L.foldl (offStep f) (0,0)
def offStepR (f:Int→Int) (a:Int×Int) (x:Int) :Int×Int:=if a.2<f x∨(f x=a.2∧x<a.1) then (x,f x) else a
def offFoldR (f:Int→Int) (L:List Int) :Int×Int:=L.foldl (offStepR f) (0,f 0)
def mxT (l:Nat) (b t:Int) :Prop:=t % 2=1∨b<hiN l (t / 2)
theorem leaf_node {l:Nat} (hl:1≤l∧l≤48) {x:Int} (h0:0≤x) (h1:x<2^l) :isNode l (2^l+x) =true∧loN l (2^l+x) =x∧hiN l (2^l+x) =x:=by
 obtain⟨n,rfl⟩:=Int.eq_ofNat_of_zero_le h0
 have hn:n<2^l:=by
  have: ((2^l:Nat) :Int) =2^l:=by simp
  omega
 have e: (2:Int) ^l+ (n:Int) = ((2^l+n:Nat) :Int):=by push_cast;rfl
 rw [e];have hN:=node_of_shape (b:=0) hl (by omega) hn;obtain⟨d,b,t,g1,g2,g3,g4,g5,g6⟩:=node_shape hN;have i1:=log2_shape hn;have g2':=Int.ofNat.inj g2;rw [←g2',i1] at g4;subst g4;obtain rfl:b=0:=by omega
 obtain rfl:t=n:=by omega
 rw [g5,g6];exact⟨hN,by simp,by simp⟩
def layR (l:Nat) (L:List (Int×Int)) :List Int:=L.flatMap fun r=>ofTiles l r.1 r.2
def aheadI (a b:Int) :Bool:=if a.toNat.log2≠b.toNat.log2 then decide (b.toNat.log2<a.toNat.log2) else decide (a<b)
def swapL (L:List Int) (i j:Nat) :List Int:=(L.set i (L.getD j 0)).set j (L.getD i 0)
theorem swapL_len (L:List Int) (i j:Nat) : (swapL L i j).length=L.length:=by simp [swapL]
theorem swapL_perm {L:List Int} {i j:Nat} (hi:i<L.length) (hj:j<L.length) : (swapL L i j).Perm L:=by
 rw [List.perm_iff_count];intro a;unfold swapL;have e1:L.getD j 0=L[j]:=by simp [hj]
 have e2:L.getD i 0=L[i]:=by simp [hi]
 rw [e1,e2];by_cases hij:i=j
 ·subst hij;simp
 ·rw [List.count_set (by simpa using hj),List.count_set hi]
  have e3: (L.set i L[j])[j]'(by simpa using hj) =L[j]:=by rw [List.getElem_set_ne hij]
  rw [e3];have c1:L[i] =a→0<List.count a L:=fun h=>List.count_pos_iff.2 (h ▸ List.getElem_mem hi);have c2:L[j] =a→0<List.count a L:=fun h=>List.count_pos_iff.2 (h ▸ List.getElem_mem hj);by_cases h1:L[i] =a <;> by_cases h2:L[j] =a <;> simp [h1,h2] <;> (have:=c1;have:=c2;simp_all)
def upH:Nat→List Int→Nat→List Int
 |0,L,_=>L
 |n+1,L,i=>if 0<i∧aheadI (L.getD i 0) (L.getD ((i - 1) / 2) 0) =true then upH n (swapL L i ((i - 1) / 2)) ((i - 1) / 2) else L
theorem upH_perm: ∀(n:Nat) (L:List Int) (i:Nat),i<L.length→(upH n L i).Perm L:=by
 intro n
 induction n with
 |zero=>intro L i _;exact .refl _
 |succ n ih=>
  intro L i hi;simp only [upH]
  split
  ·exact(ih _ _ (by rw [swapL_len];omega)).trans (swapL_perm hi (by omega))
  ·exact .refl _
def stepH (L:List Int) (a k:Nat) :Nat:=if k<L.length∧aheadI (L.getD k 0) (L.getD a 0) =true then k else a
theorem stepH_or (L:List Int) (a k:Nat) :stepH L a k=a∨(stepH L a k=k∧k<L.length):=by
 unfold stepH
 split
 ·rename_i h;exact .inr ⟨rfl,h.1⟩
 ·exact .inl rfl
def firstH (L:List Int) (i:Nat) :Nat:=stepH L (stepH L i (2*i+1)) (2*i+2)
theorem firstH_le (L:List Int) (i:Nat) :i≤firstH L i:=by
 unfold firstH;rcases stepH_or L i (2*i+1) with h|h <;> rcases stepH_or L (stepH L i (2*i+1)) (2*i+2) with g|g <;> omega
theorem firstH_lt {L:List Int} {i:Nat} (h:i<L.length) :firstH L i<L.length:=by
 unfold firstH;rcases stepH_or L i (2*i+1) with h|h <;> rcases stepH_or L (stepH L i (2*i+1)) (2*i+2) with g|g <;> omega
def downH:Nat→List Int→Nat→List Int
 |0,L,_=>L
 |n+1,L,i=>if firstH L i=i then L else downH n (swapL L i (firstH L i)) (firstH L i)
theorem downH_perm: ∀(n:Nat) (L:List Int) (i:Nat),i<L.length→(downH n L i).Perm L:=by
 intro n
 induction n with
 |zero=>intro L i _;exact .refl _
 |succ n ih=>
  intro L i hi;simp only [downH]
  split
  ·exact .refl _
  ·have:=firstH_lt hi
   exact(ih _ _ (by rw [swapL_len];exact this)).trans (swapL_perm hi this)
def putH (L:List Int) (id:Int) :List Int:=upH L.length (L ++ [id]) L.length
theorem putH_perm (L:List Int) (id:Int) : (putH L id).Perm (id :: L):=
 (upH_perm _ _ _ (by simp)).trans (List.perm_append_comm (l₁:=L) (l₂:= [id]))
def popH:List Int→List Int
 | []=> []
 |x :: L=>downH L.length ((x :: L).set 0 ((x :: L).getD L.length 0) |>.take L.length) 0
theorem popH_perm (x:Int) (L:List Int) : (popH (x :: L)).Perm L:=by
 unfold popH
 cases L with
 |nil=>simp [downH]
 |cons y L=>
  refine(downH_perm _ _ _ (by simp)).trans ?_
  have e: ((x :: y :: L).set 0 ((x :: y :: L).getD (y :: L).length 0)).take (y :: L).length= ((y :: L).getLast (by simp)) :: (y :: L).dropLast:=by
   rw [List.set_cons_zero,List.length_cons,List.take_succ_cons,List.dropLast_eq_take,List.getLast_eq_getElem]
   congr 1
   simp
  rw [e];have h:=List.dropLast_concat_getLast (l:=y :: L) (by simp)
  conv=>rhs;rw [←h]
  exact(List.perm_append_comm (l₁:= [(y :: L).getLast (by simp)]) (l₂:=(y :: L).dropLast)).symm.symm
def pairR (r:List Nd) (p:Int) :Int:=getR r (2*p) +getR r (2*p+1)
def foldR (r:List Nd) (p:Int) :List Nd:=addR (delR (delR r (2*p)) (2*p+1)) p (pairR r p)
def readyR (l:Nat) (r:List Nd) (p most:Int) :Bool:=(kidsOf l p).2.2 && decide (0<pairR r p∧pairR r p+getR r p≤most)
theorem ready_iff {l:Nat} {r:List Nd} {p most:Int} :readyR l r p most=true↔(kidsOf l p).2.2=true∧0<pairR r p∧pairR r p+getR r p≤most:=by
 simp [readyR]
theorem kids_iff {l:Nat} {p:Int} : (kidsOf l p).2.2=true↔isNode l p=true∧p<2^l:=by
 unfold kidsOf;simp only [Int.toNat_natCast];by_cases h:isNode l p=true∧p<2^l
 ·rw [if_pos h];simp [h]
 ·rw [if_neg h];simp;intro h1;exact Int.not_lt.1 fun h2=>h ⟨h1,h2⟩
theorem kids_node {l:Nat} {p:Int} (h:isNode l p=true) (h2:p<2^l) :p.toNat.log2<l:=by
 have h1:1≤p:=by simp only [isNode,decide_eq_true_eq] at h;omega
 obtain⟨n,rfl⟩:=Int.eq_ofNat_of_zero_le (show 0≤p by omega);rw [Int.toNat_natCast];refine(Nat.log2_lt (by omega)).2 ?_;have: ((2^l:Nat) :Int) =2^l:=by simp
 omega
theorem getR_fold {r:List Nd} (hr:Roll r) {p:Int} (hp:1≤p) (id:Int) :getR (foldR r p) id=if id=p then getR r p+getR r (2*p) +getR r (2*p+1) else if id=2*p∨id=2*p+1 then 0 else getR r id:=by
 unfold foldR;rw [getR_add ((hr.del _).del _),getR_del (hr.del _),getR_del (hr.del _),getR_del hr,getR_del hr];by_cases h1:id=p
 ·rw [if_pos h1,if_pos h1,if_neg (by omega),if_neg (by omega)];unfold pairR;omega
 ·rw [if_neg h1,if_neg h1]
  by_cases h2:id=2*p+1
  ·rw [if_pos h2,if_pos (.inr h2)]
  ·rw [if_neg h2]
   by_cases h3:id=2*p
   ·rw [if_pos h3,if_pos (.inl h3)]
   ·rw [if_neg h3,if_neg (by omega)]
theorem foldR_roll {r:List Nd} (hr:Roll r) {p:Int} (hp:1≤p) (h:0<pairR r p) :Roll (foldR r p):=((hr.del _).del _).add hp (by omega)
theorem foldR_sum {r:List Nd} (hr:Roll r) {p:Int} :sumR (foldR r p) =sumR r:=by
 unfold foldR;rw [sumR_add,sumR_del (hr.del _),sumR_del hr,getR_del hr,if_neg (by omega)];unfold pairR;omega
theorem delR_len {r:List Nd} (id:Int) : (delR r id).length≤r.length∧(getR r id≠0→(delR r id).length+1=r.length):=by
 induction r with
 |nil=>simp [delR,getR]
 |cons x r ih=>
  simp only [delR,getR]
  split
  ·simp
  ·simp only [List.length_cons]
   exact⟨by omega,fun h=>by have:=ih.2 h;omega⟩
theorem foldR_len {r:List Nd} (hr:Roll r) {p:Int} (hp:1≤p) (h:0<pairR r p) : (foldR r p).length≤r.length:=by
 have h1:=delR_len (r:=r) (2*p);have h2:=delR_len (r:=delR r (2*p)) (2*p+1);have h3:getR (delR r (2*p)) (2*p+1) =getR r (2*p+1):=by rw [getR_del hr,if_neg (by omega)]
 have h4:=len_add ((hr.del (2*p)).del (2*p+1)) p (pairR r p);unfold foldR;rw [h4];have:getR r (2*p)≠0∨getR r (2*p+1)≠0:=by unfold pairR at h;omega
 rcases this with g|g
 ·have:=h1.2 g;split <;> omega
 ·have:=h2.2 (by rw [h3];exact g);split <;> omega
theorem foldR_fits {l:Nat} {r:List Nd} (hf:Fits l r) {p most:Int} (h:readyR l r p most=true) :Fits l (foldR r p):=by
 obtain⟨h1,h2,h3⟩:=ready_iff.1 h;obtain⟨n1,n2⟩:=kids_iff.1 h1;have hp:=(isNode_lt n1).1;refine⟨foldR_roll hf.roll hp h2,fun x hx=> ?_,by rw [foldR_sum hf.roll];exact hf.sum⟩;rcases addR_mem hx with e|hx
 ·have:=pow_pos' l;omega
 ·exact hf.lt x (delR_sub (delR_sub hx))
theorem foldR_flow {l:Nat} {r q:List Nd} (h:Flow l r q) (hr:Roll r) {p most:Int} (hy:readyR l r p most=true) :Flow l (foldR r p) q:=by
 obtain⟨h1,h2,h3⟩:=ready_iff.1 hy;obtain⟨n1,n2⟩:=kids_iff.1 h1;have hp:=(isNode_lt n1).1;obtain⟨k1,k2,k3,k4,k5,k6,k7⟩:=node_kids n1 (kids_node n1 n2);have w1:=lo_hi k1;have w2:=lo_hi k2;unfold loN hiN at*;refine h.fold n1 (a:=2*p) (b:=2*p+1) (by omega) (by omega) (by omega) ⟨by omega,by omega⟩ ⟨by omega,by omega⟩ fun id=>getR_fold hr hp id
theorem light_of {l:Nat} {r:List Nd} {k:Int} (h: ∀x∈r,(kidsOf l x.1).2.2=true→x.2≤sumR r / k) :lightOf l r k=true:=by
 unfold lightOf;rw [Bool.not_eq_true',←Bool.not_eq_true,List.any_eq_true];rintro⟨x,hx,hh⟩;simp only [heavy,Bool.and_eq_true,decide_eq_true_eq] at hh;have:=h x hx hh.1;omega
theorem light_all {l:Nat} {r:List Nd} {k:Int} (h:lightOf l r k=true) : ∀x∈r,(kidsOf l x.1).2.2=true→x.2≤sumR r / k:=by
 intro x hx hk
 apply Classical.byContradiction
 intro hc;have:r.any (heavy l (sumR r / k)) =true:=List.any_eq_true.2 ⟨x,hx,by simp only [heavy,hk,Bool.true_and,decide_eq_true_eq];omega⟩;unfold lightOf at h;rw [this] at h
 cases h
theorem foldR_light {l:Nat} {r:List Nd} (hr:Roll r) {k p:Int} (hl:lightOf l r k=true) (hy:readyR l r p (sumR r / k) =true) :lightOf l (foldR r p) k=true:=by
 obtain⟨h1,h2,h3⟩:=ready_iff.1 hy;obtain⟨n1,n2⟩:=kids_iff.1 h1;have hp:=(isNode_lt n1).1;have hR:=foldR_roll hr hp h2;refine light_of fun x hx hk=> ?_;rw [foldR_sum hr];have e:=getR_mem hR hx;rw [getR_fold hr hp] at e;have hpos:=(hR.2 x hx).2
 split at e
 ·unfold pairR at h3;omega
 ·split at e
  ·omega
  ·have hm:=getR_pos hr (id:=x.1) (by omega)
   have:=light_all hl _ hm hk;simp only at this;omega
theorem add_light {l:Nat} {r:List Nd} (hr:Roll r) {k x c:Int} (hk1:1≤k) (hl:lightOf l r k=true) (hc:1≤c) (hleaf: (kidsOf l x).2.2=false) :lightOf l (addR r x c) k=true:=by
 have h0:=sumR_nonneg hr;refine light_of fun y hy hk=> ?_;rw [sumR_add];have hx1:y.1≠x:=by rintro rfl;rw [hleaf] at hk;cases hk
 have hm:y∈r:=by
  rcases addR_mem hy with e|h
  ·exact absurd e hx1
  ·exact h
 have h1:=light_all hl y hm hk;have h2:sumR r / k≤(sumR r+c) / k:=Int.ediv_le_ediv (by omega) (by omega);omega
inductive Folded (l:Nat) (most:Int) :List Nd→List Nd→Prop
 |refl (r) :Folded l most r r
 |step {r s} (p) :Folded l most r s→readyR l s p most=true→Folded l most r (foldR s p)
theorem Folded.fits {l:Nat} {most:Int} {r s:List Nd} (h:Folded l most r s) (hf:Fits l r) :Fits l s:=by
 induction h with
 |refl=>exact hf
 |step p _ hy ih=>exact foldR_fits ih hy
theorem Folded.sum {l:Nat} {most:Int} {r s:List Nd} (h:Folded l most r s) (hf:Fits l r) :sumR s=sumR r:=by
 induction h with
 |refl=>rfl
 |step p h hy ih=>rw [foldR_sum (h.fits hf).roll,ih]
theorem Folded.len {l:Nat} {most:Int} {r s:List Nd} (h:Folded l most r s) (hf:Fits l r) :s.length≤r.length:=by
 induction h with
 |refl=>exact Nat.le_refl _
 |step p h hy ih=>
  obtain⟨h1,h2,h3⟩:=ready_iff.1 hy;exact Nat.le_trans (foldR_len (h.fits hf).roll (isNode_lt (kids_iff.1 h1).1).1 h2) ih
theorem Folded.flow {l:Nat} {most:Int} {r s q:List Nd} (h:Folded l most r s) (hf:Fits l r) (hF:Flow l r q) :Flow l s q:=by
 induction h with
 |refl=>exact hF
 |step p h hy ih=>exact foldR_flow ih (h.fits hf).roll hy
theorem Folded.light {l:Nat} {k:Int} {r s:List Nd} (h:Folded l (sumR r / k) r s) (hf:Fits l r) (hl:lightOf l r k=true) :lightOf l s k=true:=by
 generalize hm:sumR r / k=most at h
 induction h with
 |refl=>exact hl
 |step p h hy ih=>
  refine foldR_light (h.fits hf).roll ih ?_;rw [h.sum hf,hm];exact hy
theorem Folded.trans {l:Nat} {most:Int} {r s t:List Nd} (h:Folded l most r s) (k:Folded l most s t) :Folded l most r t:=by
 induction k with
 |refl=>exact h
 |step p _ hy ih=>exact .step p ih hy
def deepR (r:List Nd) :Nat:=(r.map fun x=>x.1.toNat.log2).sum
theorem deep_del {r:List Nd} (id:Int) (h:getR r id≠0) :deepR (delR r id) +id.toNat.log2=deepR r:=by
 induction r with
 |nil=>simp [getR] at h
 |cons x r ih=>
  simp only [getR] at h;simp only [delR]
  split
  ·rename_i he;subst he;simp [deepR];omega
  ·rename_i hne
   rw [if_neg hne] at h;have:=ih h;simp only [deepR,List.map_cons,List.sum_cons] at this⊢;omega
theorem del_none {r:List Nd} (hr:Roll r) {id:Int} (h:getR r id=0) :delR r id=r:=by
 induction r with
 |nil=>rfl
 |cons x r ih=>
  have hx:=hr.2 x (by simp);simp only [getR] at h;simp only [delR]
  split
  ·rename_i he;rw [if_pos he] at h;omega
  ·rename_i hne;rw [if_neg hne] at h;rw [ih hr.tail h]
theorem deep_add (r:List Nd) (id c:Int) :deepR (addR r id c)≤deepR r+id.toNat.log2:=by
 induction r with
 |nil=>simp [addR,deepR]
 |cons x r ih=>
  simp only [addR]
  split
  ·rename_i he;subst he;simp [deepR]
  ·split
   ·simp [deepR];omega
   ·simp only [deepR,List.map_cons,List.sum_cons] at ih⊢;omega
theorem deep_fold {l:Nat} {r:List Nd} (hr:Roll r) {p most:Int} (hy:readyR l r p most=true) :deepR (foldR r p) +1≤deepR r:=by
 obtain⟨h1,h2,h3⟩:=ready_iff.1 hy;obtain⟨n1,n2⟩:=kids_iff.1 h1;obtain⟨k1,k2,k3,k4,k5,k6,k7⟩:=node_kids n1 (kids_node n1 n2);have a1:=deep_add (delR (delR r (2*p)) (2*p+1)) p (pairR r p);have e1:getR (delR r (2*p)) (2*p+1) =getR r (2*p+1):=by rw [getR_del hr,if_neg (by omega)]
 unfold foldR;unfold pairR at h2;by_cases g1:getR r (2*p) =0
 ·rw [del_none hr g1] at a1 e1⊢
  have:=deep_del (r:=r) (2*p+1) (by omega);omega
 ·have d1:=deep_del (2*p) g1
  by_cases g2:getR r (2*p+1) =0
  ·rw [del_none (hr.del _) (by rw [e1];exact g2)] at a1⊢
   omega
  ·have d2:=deep_del (r:=delR r (2*p)) (2*p+1) (by rw [e1];exact g2)
   omega
def openT (s:List UInt8) :List UInt8×Int:=if s.length<4 then ([],9) else if sealT (s.take (s.length - 4)) =s then (s.take (s.length - 4),0) else ([],12)
theorem openT_seal (t:List UInt8) :openT (sealT t) = (t,0):=by
 unfold openT;have h:=sealT_len t;rw [if_neg (by omega),h,Nat.add_sub_cancel];have e: (sealT t).take t.length=t:=by unfold sealT;simp
 rw [e,if_pos rfl]
def noLtr:Ltr:=⟨0,0,0, []⟩
def decN (s0:List UInt8) :Ltr×Int:=
 let a:=getB s0
 if a.2.2≠0 then (noLtr,a.2.2) else
 let s1:=s0.drop a.2.1
 let b:=getB s1
 if b.2.2≠0 then (noLtr,b.2.2) else if isCrew b.1=false then (noLtr,10) else
 let s2:=s1.drop b.2.1
 let c:=getB s2
 if c.2.2≠0 then (noLtr,c.2.2) else if (rightC c.1 && hasC c.1 b.1) =false then (noLtr,10) else
 let s3:=s2.drop c.2.1
 let n:=getB s3
 if n.2.2≠0 then (noLtr,n.2.2) else if 1048576<n.1 then (noLtr,13) else
 let s4:=s3.drop n.2.1
 if s4.length<n.1 then (noLtr,9) else if n.1<s4.length then (noLtr,11) else (⟨a.1,b.1,c.1,s4⟩,0)
def decL (s:List UInt8) :Ltr×Int:=
 let o:=openT s
 if o.2≠0 then (noLtr,o.2) else if o.1.length<4 then (noLtr,9) else if o.1.take 4≠ [68,87,76,1] then (noLtr,10) else decN (o.1.drop 4)
theorem drop_oneB (n:Nat) (t:List UInt8) : (oneB n ++ t).drop (oneB n).length=t:=by simp
theorem putB_cons (x:Int) (L:List Int) :putB (x :: L) =oneB x.toNat ++ putB L:=by simp [putB]
theorem decL_enc {x:Ltr} (h:rightL x=true) (he:x.e≤9223372036854775807) :decL (ltrT x) = (x,0):=by
 have hs:=h;simp only [rightL,Bool.and_eq_true,decide_eq_true_eq] at hs;obtain⟨⟨⟨h1,h2⟩,h3⟩,h4⟩:=hs;have hc:isCrew x.f=true:=by unfold hasC at h2;simp only [Bool.and_eq_true] at h2;exact h2.1
 obtain⟨f,hf,hf48⟩:=isCrew_nat hc;obtain⟨e,he0⟩:=Int.eq_ofNat_of_zero_le h1;have h3':x.c≤281474976710655:=by unfold rightC at h3;simpa using h3
 unfold decL ltrT;simp only [openT_seal];rw [if_neg (by simp),if_neg (by simp),if_neg (by simp)]
 have hd: ([68,87,76,1] ++ putB (ltrL x) ++ x.b:List UInt8).drop 4=oneB e ++ (oneB f ++ (oneB x.c ++ (oneB x.b.length ++ x.b))):=by
  unfold ltrL;rw [he0,hf];simp only [putB_cons,putB_nil,Int.toNat_natCast,List.append_nil,List.append_assoc]
  rfl
 rw [hd];unfold decN;have g1:=getB_one (n:=e) (by omega) (oneB f ++ (oneB x.c ++ (oneB x.b.length ++ x.b)));have g2:=getB_one (n:=f) (by omega) (oneB x.c ++ (oneB x.b.length ++ x.b));have g3:=getB_one (n:=x.c) (by omega) (oneB x.b.length ++ x.b);have g4:=getB_one (n:=x.b.length) (by omega) x.b;simp only [g1,drop_oneB,g2,g3,g4];have hcf:isCrew (f:Int) =true:=by rw [←hf];exact hc
 have h2f:hasC x.c (f:Int) =true:=by rw [←hf];exact h2
 rw [if_neg (by simp),if_neg (by simp),if_neg (by simp [hcf]),if_neg (by simp),if_neg (by simp [h3,h2f]),if_neg (by simp),if_neg (by omega),if_neg (by omega),if_neg (by omega)];rw [←hf,←he0]
def cntF:List Int→List UInt8→Int→List Nd→List Nd×List UInt8×Int×Int
 | [],s,left,out=>(out,s,left,0)
 |id :: ids,s,left,out=>
  let g:=getB s
  if g.2.2≠0 then ([], [],0,g.2.2) else if g.1=0∨left< (g.1:Int) then ([], [],0,10) else cntF ids (s.drop g.2.1) (left - (g.1:Int)) (out ++ [(id,(g.1:Int))])
def readN (l:Nat) (s0:List UInt8) : (Nat×Int×Int×List Nd)×Int:=
 let k:=getB s0
 if k.2.2≠0 then ((0,0,0, []),k.2.2) else if k.1<1∨1048576<k.1 then ((0,0,0, []),10) else
 let s1:=s0.drop k.2.1
 let n:=getB s1
 if n.2.2≠0 then ((0,0,0, []),n.2.2) else if 72057594037927935<n.1 then ((0,0,0, []),10) else
 let s2:=s1.drop n.2.1
 let f:=fallB s2 (8* (k.1:Int))
 if f.2.2≠0 then ((0,0,0, []),f.2.2) else if (f.1.all fun id=>isNode l id) =false then ((0,0,0, []),10) else
 let c:=cntF f.1 (s2.drop f.2.1) (n.1:Int) []
 if c.2.2.2≠0 then ((0,0,0, []),c.2.2.2) else if c.2.1≠ [] then ((0,0,0, []),11) else if 0<c.2.2.1 then ((0,0,0, []),10) else
 if lightOf l c.1 (k.1:Int) =false then ((0,0,0, []),13) else ((l,(k.1:Int),(n.1:Int),c.1),0)
def readW (s:List UInt8) : (Nat×Int×Int×List Nd)×Int:=
 let o:=openT s
 if o.2≠0 then ((0,0,0, []),o.2) else if o.1.length<4 then ((0,0,0, []),9) else if o.1.take 4≠ [68,87,80,1] then ((0,0,0, []),10) else
 match o.1.drop 4 with
 | []=>((0,0,0, []),9)
 |b :: s0=>if b.toNat<1∨48<b.toNat then ((0,0,0, []),10) else readN b.toNat s0
def wireT (l:Nat) (k:Int) (r:List Nd) :List UInt8:=sealT ([68,87,80,1] ++ [UInt8.ofNat l] ++ putB [k,sumR r] ++ risesB (r.map (·.1)) ++ putB (r.map (·.2)))
theorem cntF_put: ∀(r:List Nd) (left:Int) (out:List Nd) (t:List UInt8),(∀x∈r,1≤x.2)→sumR r≤left→left≤72057594037927935→
 cntF (r.map (·.1)) (putB (r.map (·.2)) ++ t) left out= (out ++ r,t,left - sumR r,0):=by
 intro r
 induction r with
 |nil=>intro left out t _ _ _;simp [cntF,putB,sumR]
 |cons x r ih=>
  intro left out t hr hs hl;have hx:=hr x (by simp);have hr2: ∀y∈r,1≤y.2:=fun y hy=>hr y (by simp [hy])
  have h0:0≤sumR r:=by
   clear ih hs hr
   induction r with
   |nil=>simp [sumR]
   |cons y r ih=>have:=hr2 y (by simp);have:=ih fun z hz=>hr2 z (by simp [hz]);simp only [sumR];omega
  simp only [sumR] at hs;obtain⟨c,hc⟩:=Int.eq_ofNat_of_zero_le (show 0≤x.2 by omega);simp only [List.map_cons,putB_cons,List.append_assoc,cntF];rw [hc,Int.toNat_natCast,getB_one (by omega)];simp only [drop_oneB];rw [if_neg (by simp),if_neg (by omega),ih _ _ _ hr2 (by omega) (by omega)];simp only [sumR,List.append_assoc,List.cons_append,List.nil_append];refine Prod.ext ?_ (Prod.ext rfl (Prod.ext ?_ rfl))
  ·show out ++ (x.1,(c:Int)) :: r=out ++ x :: r
   rw [←hc]
  ·show left - (c:Int) - sumR r=left - (x.2+sumR r)
   omega
theorem fallF_put (S:List UInt8) : ∀(L:List Int) (last a:Nat) (out:List Int) (P t:List UInt8),S=P ++ (putB (List.zipWith (fun x p=>x - p) L ((last:Int) :: L)) ++ t)→P.length=a→
 ((last:Int) :: L).Pairwise (· < ·)→(∀x∈L,x≤9223372036854775807)→
 fallF S L.length last a out= (out ++ L,a+ (putB (List.zipWith (fun x p=>x - p) L ((last:Int) :: L))).length,0):=by
 intro L
 induction L with
 |nil=>intro last a out P t _ _ _ _;simp [fallF,putB]
 |cons x L ih=>
  intro last a out P t hS hP hp hx;obtain⟨p1,p2⟩:=List.pairwise_cons.1 hp;have q1:=p1 x (by simp);have q2:=hx x (by simp);obtain⟨n,hn⟩:=Int.eq_ofNat_of_zero_le (show 0≤x by omega);have e: (x - (last:Int)).toNat=n - last:=by omega
  simp only [List.zipWith_cons_cons,putB_cons,e,List.append_assoc] at hS⊢
  have hd:S.drop a=oneB (n - last) ++ (putB (List.zipWith (fun x p=>x - p) L (x :: L)) ++ t):=by
   rw [hS,←hP];simp
  simp only [List.length_cons,fallF];rw [hd,getB_one (by omega)];simp only;rw [if_neg (by simp),if_neg (by omega)];have hnn:last+ (n - last) =n:=by omega
  rw [hnn];rw [ih n (a+ (oneB (n - last)).length) (out ++ [(n:Int)]) (P ++ oneB (n - last)) t (by rw [hS,←hn];simp only [List.append_assoc]) (by simp [hP]) (by rw [←hn];exact p2) fun y hy=>hx y (by simp [hy])];rw [←hn];simp only [List.append_assoc,List.cons_append,List.nil_append,List.length_append,Nat.add_assoc]
theorem fallB_rises {L:List Int} {most:Int} (t:List UInt8) (hp: ((0:Int) :: L).Pairwise (· < ·)) (hx: ∀x∈L,x≤9223372036854775807) (hl:L.length≤9223372036854775807) (hm: (L.length:Int)≤most) :
 fallB (risesB L ++ t) most= (L,(risesB L).length,0):=by
 unfold fallB risesB;rw [List.append_assoc,getB_one hl];simp only;rw [if_neg (by simp),if_neg (by omega)];have:=fallF_put (oneB L.length ++ (putB (stepD L) ++ t)) L 0 (oneB L.length).length [] (oneB L.length) t rfl rfl hp hx;rw [this];simp [stepD]
theorem readW_wire {l:Nat} {k:Int} {r:List Nd} (hl:1≤l∧l≤48) (hf:Fits l r) (hk:1≤k) (hk2:k≤1048576) (hlen: (r.length:Int)≤8*k) (hL:lightOf l r k=true) :readW (wireT l k r) = ((l,k,sumR r,r),0):=by
 obtain⟨k',rfl⟩:=Int.eq_ofNat_of_zero_le (show 0≤k by omega);have hs0:=sumR_nonneg hf.roll;have hs1:=hf.sum;obtain⟨n,hn⟩:=Int.eq_ofNat_of_zero_le hs0;have hl8: (UInt8.ofNat l).toNat=l:=by rw [UInt8.toNat_ofNat'];omega
 unfold readW wireT;simp only [openT_seal];rw [if_neg (by simp),if_neg (by simp),if_neg (by simp)]
 have hd: ([68,87,80,1] ++ [UInt8.ofNat l] ++ putB [(k':Int),sumR r] ++ risesB (r.map (·.1)) ++ putB (r.map (·.2)) :List UInt8).drop 4=UInt8.ofNat l :: (oneB k' ++ (oneB n ++ (risesB (r.map (·.1)) ++ putB (r.map (·.2))))):=by
  rw [hn];simp only [putB_cons,putB_nil,Int.toNat_natCast,List.append_nil,List.append_assoc]
  rfl
 rw [hd];simp only;rw [hl8,if_neg (by omega)];unfold readN;have hN: ∀x∈r,isNode l x.1=true:=hf.nodes hl
 have hup: ((0:Int) :: r.map (·.1)).Pairwise (· < ·):=by
  refine List.pairwise_cons.2 ⟨?_,?_⟩
  ·intro x hx
   obtain⟨y,hy,rfl⟩:=List.mem_map.1 hx;have:=(hf.roll.2 y hy).1;omega
  ·rw [List.pairwise_map];exact hf.roll.1
 have hle: ∀x∈r.map (·.1),x≤9223372036854775807:=by
  intro x hx;obtain⟨y,hy,rfl⟩:=List.mem_map.1 hx;have h1:=isNode_lt (hN y hy);have h2:=pow_48 hl.2;omega
 have g1:=getB_one (n:=k') (by omega) (oneB n ++ (risesB (r.map (·.1)) ++ putB (r.map (·.2))));have g2:=getB_one (n:=n) (by omega) (risesB (r.map (·.1)) ++ putB (r.map (·.2)));have g3:=fallB_rises (L:=r.map (·.1)) (most:=8* (k':Int)) (putB (r.map (·.2))) hup hle (by simp;omega) (by simpa using hlen);have g4:=cntF_put r (n:Int) [] [] (fun x hx=>(hf.roll.2 x hx).2) (by omega) (by omega);rw [List.append_nil] at g4
 have hall: ((r.map (·.1)).all fun id=>isNode l id) =true:=by
  rw [List.all_eq_true];intro x hx;obtain⟨y,hy,rfl⟩:=List.mem_map.1 hx;exact hN y hy
 have hdr: (risesB (r.map (·.1)) ++ putB (r.map (·.2))).drop (risesB (r.map (·.1))).length=putB (r.map (·.2)):=by simp
 simp only [g1,drop_oneB,g2,g3,hdr,g4];rw [if_neg (by simp),if_neg (by omega),if_neg (by simp),if_neg (by omega),if_neg (by simp),if_neg (by rw [hall];simp),if_neg (by simp),if_neg (by simp),if_neg (by omega)];simp only [List.nil_append];rw [if_neg (by rw [hL];simp),←hn]
section
open Go.RowKit
section
variable {P:Program} {md:Region.Mode} {ops:Array Oper} {Q:Exit→Act→World→Prop} {S:World→Prop} {X:List Nat}
def wpAnyN (P:Program) (md:Region.Mode) (ops:Array Oper) (Q:Exit→Act→World→Prop) (S:World→Prop) (X:List Nat) :Nat→Array Bool→Act→World→Prop
 |0,listed,a,w=>Region.ready md ops listed= []∧Q .normal a w
 |fuel+1,listed,a,w=>
  (Region.ready md ops listed= []→Q .normal a w)∧
  ∀i∈Region.ready md ops listed,wpOp P ops Q i (fun a' w'=>(i∉X→S w→S w')∧wpAnyN P md ops Q S X fuel (listed.setIfInBounds i true) a' w') a w
theorem wpAny_of_N: ∀(fuel:Nat) (listed:Array Bool) (a:Act) (w:World),wpAnyN P md ops Q S X fuel listed a w→wpAny P md ops Q fuel listed a w
 |0,_,_,_,h=>h
 |fuel+1,_,_,_,h=>⟨h.1,fun i hi=>wpOp_mono (fun a' w' h'=>wpAny_of_N fuel _ a' w' h'.2) (h.2 i hi)⟩
theorem wpAnyN_first {i:Nat} {oi:Oper} {v:Value} (hi:ops[i]? =some oi) (hsel: ∀(j:Nat) (o:Oper) cs b,ops[j]? =some o→o.op≠.select cs b)
 (hQ: ∀c a w,Q (.panic c) (a.put oi.dst v) w→Q (.panic c) a w) (hX: ∀j∈X,∃o,ops[j]? =some o∧∃e∈o.after,Region.binds md e=true∧e.on=i) :
 ∀(fuel:Nat) (listed:Array Bool) (a:Act) (w:World),
  (∀j oj,ops[j]? =some oj→j≠i→listed.getD j true=false→(∀e∈oj.after,Region.binds md e=true→e.on≠i)→oi.apart ops oj=true)→
  i∈Region.ready md ops listed→YieldsIf P ops S oi v a→S w→
  wpAnyN P md ops Q S X fuel (listed.setIfInBounds i true) (a.put oi.dst v) w→wpAnyN P md ops Q S X (fuel+1) listed a w:=by
 intro fuel
 induction fuel with
 |zero=>
  intro listed a w _ hr hy hS H;refine⟨fun h=>(by rw [h] at hr;cases hr),fun j hj=> ?_⟩;by_cases hji:j=i
  ·subst hji;exact hy.wpOp hi hS ⟨fun _ h=>h,H⟩
  ·have:=ready_mono hj hji
   rw [H.1] at this
   cases this
 |succ fuel ih=>
  intro listed a w hfree hr hy hS H;refine⟨fun h=>(by rw [h] at hr;cases hr),fun j hj=> ?_⟩;by_cases hji:j=i
  ·subst hji;exact hy.wpOp hi hS ⟨fun _ h=>h,H⟩
  ·have h1:=H.2 j (ready_mono hj hji)
   obtain⟨hjun,oj,hoj,hall⟩:=mem_ready.1 hj
   have hnot: ∀e∈oj.after,Region.binds md e=true→e.on≠i:=fun e he hb heq=>by
    have h1:=hall e he hb;have h0:=(mem_ready.1 hr).1;rw [heq] at h1;rcases Nat.lt_or_ge i listed.size with h'|h'
    ·simp [h'] at h0 h1;rw [h0] at h1;cases h1
    ·simp [Array.getElem?_eq_none h'] at h1
   have hjX:j∉X:=fun hx=>by
    obtain⟨o,ho,e,he,hb,hon⟩:=hX j hx;have:o=oj:=Option.some.inj (ho.symm.trans hoj);subst this;exact hnot e he hb hon
   have h2:=wpOp_putIf hoj (hfree j oj hoj hji hjun hnot) (fun cs b=>hsel i oi cs b hi) (fun cs b=>hsel j oj cs b hoj) hQ hy h1
   have hfree': ∀k ok,ops[k]? =some ok→k≠i→(listed.setIfInBounds j true).getD k true=false→
    (∀e∈ok.after,Region.binds md e=true→e.on≠i)→oi.apart ops ok=true:=fun k ok hk hki hun hno=>by
    refine hfree k ok hk hki ?_ hno;by_cases hjk:j=k
    ·subst hjk;exact hjun
    ·rw [getD_set_ne true hjk] at hun;exact hun
   refine wpOp_mono (fun a' w' h3=>⟨h3.2.1,ih (listed.setIfInBounds j true) a' w' hfree' (ready_mono hr (Ne.symm hji)) h3.1 (h3.2.1 hjX hS) ?_⟩) h2;rw [Array.setIfInBounds_comm _ _ hji];exact h3.2.2
theorem wpAnyN_first0 {i:Nat} {oi:Oper} {v:Value} (hi:ops[i]? =some oi) (hsel: ∀(j:Nat) (o:Oper) cs b,ops[j]? =some o→o.op≠.select cs b)
 (hQ: ∀c a w,Q (.panic c) (a.put oi.dst v) w→Q (.panic c) a w) :
 ∀(fuel:Nat) (listed:Array Bool) (a:Act) (w:World),
  (∀j oj,ops[j]? =some oj→j≠i→listed.getD j true=false→(∀e∈oj.after,Region.binds md e=true→e.on≠i)→oi.apart ops oj=true)→
  i∈Region.ready md ops listed→YieldsIf P ops (fun _=>True) oi v a→
  wpAnyN P md ops Q S X fuel (listed.setIfInBounds i true) (a.put oi.dst v) w→wpAnyN P md ops Q S X (fuel+1) listed a w:=by
 intro fuel
 induction fuel with
 |zero=>
  intro listed a w _ hr hy H;refine⟨fun h=>(by rw [h] at hr;cases hr),fun j hj=> ?_⟩;by_cases hji:j=i
  ·subst hji;exact hy.wpOp hi trivial ⟨fun _ h=>h,H⟩
  ·have:=ready_mono hj hji
   rw [H.1] at this
   cases this
 |succ fuel ih=>
  intro listed a w hfree hr hy H;refine⟨fun h=>(by rw [h] at hr;cases hr),fun j hj=> ?_⟩;by_cases hji:j=i
  ·subst hji;exact hy.wpOp hi trivial ⟨fun _ h=>h,H⟩
  ·have h1:=H.2 j (ready_mono hj hji)
   obtain⟨hjun,oj,hoj,hall⟩:=mem_ready.1 hj
   have hnot: ∀e∈oj.after,Region.binds md e=true→e.on≠i:=fun e he hb heq=>by
    have h1:=hall e he hb;have h0:=(mem_ready.1 hr).1;rw [heq] at h1;rcases Nat.lt_or_ge i listed.size with h'|h'
    ·simp [h'] at h0 h1;rw [h0] at h1;cases h1
    ·simp [Array.getElem?_eq_none h'] at h1
   have h2:=wpOp_putIf hoj (hfree j oj hoj hji hjun hnot) (fun cs b=>hsel i oi cs b hi) (fun cs b=>hsel j oj cs b hoj) hQ hy h1
   have hfree': ∀k ok,ops[k]? =some ok→k≠i→(listed.setIfInBounds j true).getD k true=false→
    (∀e∈ok.after,Region.binds md e=true→e.on≠i)→oi.apart ops ok=true:=fun k ok hk hki hun hno=>by
    refine hfree k ok hk hki ?_ hno;by_cases hjk:j=k
    ·subst hjk;exact hjun
    ·rw [getD_set_ne true hjk] at hun;exact hun
   refine wpOp_mono (fun a' w' h3=>⟨h3.2.1,ih (listed.setIfInBounds j true) a' w' hfree' (ready_mono hr (Ne.symm hji)) h3.1 ?_⟩) h2;rw [Array.setIfInBounds_comm _ _ hji];exact h3.2.2
theorem wpAnyN_take {i:Nat} {oi:Oper} {v:Value} {fuel:Nat} {listed:Array Bool} {a:Act} {w:World} (hi:ops[i]? =some oi)
 (hs:Region.noSelect ops=true) (hf:Region.free md ops listed i=true) (hr: (Region.ready md ops listed).contains i=true) (hX: (X.all fun j=>Region.waitsFor md ops j i) =true)
 (hQ: ∀c a w,Q (.panic c) (a.put oi.dst v) w→Q (.panic c) a w) (hy:YieldsIf P ops S oi v a) (hS:S w)
 (h:wpAnyN P md ops Q S X fuel (listed.setIfInBounds i true) (a.put oi.dst v) w) :wpAnyN P md ops Q S X (fuel+1) listed a w:=
 wpAnyN_first hi (Region.noSelect_spec hs) hQ (fun j hj=>Region.waitsFor_spec (List.all_eq_true.1 hX j hj)) fuel listed a w (Region.free_spec hi hf) (by simpa using hr) hy hS h
theorem wpAnyN_pure {i:Nat} {oi:Oper} {v:Value} {fuel:Nat} {listed:Array Bool} {a:Act} {w:World} (hi:ops[i]? =some oi)
 (hs:Region.noSelect ops=true) (hf:Region.free md ops listed i=true) (hr: (Region.ready md ops listed).contains i=true)
 (hQ: ∀c a w,Q (.panic c) (a.put oi.dst v) w→Q (.panic c) a w) (hy:YieldsIf P ops (fun _=>True) oi v a)
 (h:wpAnyN P md ops Q S X fuel (listed.setIfInBounds i true) (a.put oi.dst v) w) :wpAnyN P md ops Q S X (fuel+1) listed a w:=
 wpAnyN_first0 hi (Region.noSelect_spec hs) hQ fuel listed a w (Region.free_spec hi hf) (by simpa using hr) hy h
theorem nO {i:Nat} {o:Oper} {fuel:Nat} {listed:Array Bool} {a:Act} {w:World} (hr:Region.ready md ops listed= [i]) (ho:ops[i]? =some o)
 (h: ∀K:Act→World→Prop,Shut (∀a' w',(i∉X→S w→S w')→wpAnyN P md ops Q S X fuel (listed.setIfInBounds i true) a' w'→K a' w')→if Region.wanted o (yielded ops a.tmps) =true then Oper.wp P o a w K Q else K (a.put o.dst undef) w) :
 wpAnyN P md ops Q S X (fuel+1) listed a w:=by
 refine⟨(fun h0=>by rw [hr] at h0;cases h0),fun j hj=> ?_⟩;rw [hr] at hj;simp at hj
 subst hj;exact wpOp_step ho fun K' hK=>h K' fun a' w' h1 h2=>hK a' w' ⟨h1,h2⟩
theorem wpAnyN_two {i k:Nat} {o ok:Oper} {fuel:Nat} {listed:Array Bool} {a:Act} {w:World} (hr:Region.ready md ops listed= [i,k]) (ho:ops[i]? =some o) (hk:ops[k]? =some ok)
 (h: ∀K:Act→World→Prop,Shut (∀a' w',(i∉X→S w→S w')→wpAnyN P md ops Q S X fuel (listed.setIfInBounds i true) a' w'→K a' w')→if Region.wanted o (yielded ops a.tmps) =true then Oper.wp P o a w K Q else K (a.put o.dst undef) w)
 (h': ∀K:Act→World→Prop,Shut (∀a' w',(k∉X→S w→S w')→wpAnyN P md ops Q S X fuel (listed.setIfInBounds k true) a' w'→K a' w')→if Region.wanted ok (yielded ops a.tmps) =true then Oper.wp P ok a w K Q else K (a.put ok.dst undef) w) :
 wpAnyN P md ops Q S X (fuel+1) listed a w:=by
 refine⟨(fun h0=>by rw [hr] at h0;cases h0),fun j hj=> ?_⟩;rw [hr] at hj;simp at hj
 rcases hj with rfl|rfl
 ·exact wpOp_step ho fun K' hK=>h K' fun a' w' h1 h2=>hK a' w' ⟨h1,h2⟩
 ·exact wpOp_step hk fun K' hK=>h' K' fun a' w' h1 h2=>hK a' w' ⟨h1,h2⟩
theorem nD {listed:Array Bool} {a:Act} {w:World} (hr:Region.ready md ops listed= []) (h:Q .normal a w) : ∀fuel,wpAnyN P md ops Q S X fuel listed a w
 |0=>⟨hr,h⟩
 |_+1=>⟨fun _=>h,by rw [hr];simp⟩
theorem wp_region_N {id:Nat} {a:Act} {w:World} (S:World→Prop) (X:List Nat) (hm:P.follows .mixedOrders=true) (hS:S w.drew)
 (h:S w.drew→wpAnyN P .any ops Q S X ops.size (Array.replicate ops.size false) a w.drew) : (Code.region id ops true).wp P Q a w:=
 wp_region_any hm (wpAny_of_N _ _ _ _ (h hS))
end
theorem zA:type_of% @List.getElem_toArray:=@List.getElem_toArray
theorem zB:type_of% @List.getElem_cons_zero:=@List.getElem_cons_zero
theorem zC:type_of% @List.getElem_cons_succ:=@List.getElem_cons_succ
theorem zD:type_of% @List.setIfInBounds_toArray:=@List.setIfInBounds_toArray
theorem zE:type_of% @List.set_cons_zero:=@List.set_cons_zero
theorem zF:type_of% @List.set_cons_succ:=@List.set_cons_succ
section
variable {P:Program} {md:Region.Mode} {ops:Array Oper} {Q:Exit→Act→World→Prop} {S:World→Prop} {X:List Nat}
theorem nP (i:Nat) (v:Value) {oi:Oper} {fuel:Nat} {listed:Array Bool} {a:Act} {w:World} (hi:ops[i]? =some oi:=by rfl)
 (hs:Region.noSelect ops=true:=by kernel_rfl) (hf:Region.free md ops listed i=true:=by kernel_rfl) (hr: (Region.ready md ops listed).contains i=true:=by kernel_rfl)
 (hQ: ∀c a w,Q (.panic c) (a.put oi.dst v) w→Q (.panic c) a w:=by exact fun _ _ _ h=>h) (hy:YieldsIf P ops (fun _=>True) oi v a:=by exact Or.inl ⟨by rfl,fun W _=>by go_simp⟩)
 (h:wpAnyN P md ops Q S X fuel (listed.setIfInBounds i true) (a.put oi.dst v) w) :wpAnyN P md ops Q S X (fuel+1) listed a w:=wpAnyN_pure hi hs hf hr hQ hy h
theorem nT (i:Nat) (v:Value) {oi:Oper} {fuel:Nat} {listed:Array Bool} {a:Act} {w:World} (hi:ops[i]? =some oi:=by rfl)
 (hs:Region.noSelect ops=true:=by kernel_rfl) (hf:Region.free md ops listed i=true:=by kernel_rfl) (hr: (Region.ready md ops listed).contains i=true:=by kernel_rfl) (hX: (X.all fun j=>Region.waitsFor md ops j i) =true:=by kernel_rfl)
 (hQ: ∀c a w,Q (.panic c) (a.put oi.dst v) w→Q (.panic c) a w:=by exact fun _ _ _ h=>h) (y:YieldsIf P ops S oi v a) (s:S w)
 (h:wpAnyN P md ops Q S X fuel (listed.setIfInBounds i true) (a.put oi.dst v) w) :wpAnyN P md ops Q S X (fuel+1) listed a w:=wpAnyN_take hi hs hf hr hX hQ y s h
end
end
def OpenPost (s:List UInt8) (w:World) (e:Ending) (w':World) :Prop:=e=.returned (.tuple #[.string ⟨(openT s).1.toArray⟩,.int .i64 (openT s).2])∧Below w.heap.size w w'
def LtR (W:World) (g:Nat) (e f:Int) (c:Nat) (b:List UInt8) :Prop:=W.heap[g]? =some (.cells #[.int .i64 e,.int .i64 f,.int .u64 c,.string ⟨b.toArray⟩] 106 (0,0))
def enc29 (e f:Int) (c:Nat) (b:List UInt8) :List UInt8×Int:=if rightL ⟨e,f,c,b⟩ =true then (ltrT ⟨e,f,c,b⟩,0) else ([],2)
structure Plc where
 me:Int
 kids:Nat
 wait:Int
structure Sen where
 l:Int
 k:Int
 kd:Int
 p:Plc
 ep:Int
 ti:Int
 heard:Nat
 cover:Nat
 sent:Bool
def plcV (p:Plc) :Value:=.agg #[.int .i64 p.me,.int .u64 p.kids,.int .i64 p.wait]
def SenAt (W:World) (g dg:Nat) (s:Sen) :Prop:=W.heap[g]? =some (.cells #[.int .i64 s.l,.int .i64 s.k,.int .i64 s.kd,.int .i64 s.p.me,.int .u64 s.p.kids,.int .i64 s.p.wait,.int .i64 s.ep,.int .i64 s.ti,.int .u64 s.heard,.int .u64 s.cover,.bool s.sent,.pointer (some ⟨dg,0,none⟩)] 153 (0,0))
theorem SenAt.below {w w':World} {g dg:Nat} {s:Sen} (h:SenAt w g dg s) (hb:Below w.heap.size w w') :SenAt w' g dg s:=bB h hb
theorem sensor_Epoch (w:World) (g dg:Nat) (s:Sen) (h:SenAt w g dg s) :Calls Tryz.prog 107 #[.pointer (some ⟨g,0,none⟩)] w fun e w'=>e=.returned (.int .i64 s.ep)∧Below w.heap.size w w':=by
 have cc:=bC h;have cf:=bF h;have zb:=lB h
 go_enter Tryz.func107,Tryz.ntmps107
 go_wp2_with fail;exact bR (v:=.int .i64 s.ep) (by simp only [results,Tryz.results107];go_simp) rfl ⟨rfl,bE⟩
theorem sensor_Cover (w:World) (g dg:Nat) (s:Sen) (h:SenAt w g dg s) :Calls Tryz.prog 44 #[.pointer (some ⟨g,0,none⟩)] w fun e w'=>e=.returned (.int .u64 s.cover)∧Below w.heap.size w w':=by
 have cc:=bC h;have cf:=bF h;have zb:=lB h
 go_enter Tryz.func44,Tryz.ntmps44
 go_wp2_with fail;exact bR (v:=.int .u64 s.cover) (by simp only [results,Tryz.results44];go_simp) rfl ⟨rfl,bE⟩
def leA (a b:Int) :Prop:=aheadI b a=false
theorem ahead_iff (a b:Int) :aheadI a b=true↔b.toNat.log2<a.toNat.log2∨(a.toNat.log2=b.toNat.log2∧a<b):=by
 unfold aheadI
 split
 ·rename_i h;simp only [decide_eq_true_eq];omega
 ·rename_i h;simp only [decide_eq_true_eq];omega
theorem leA_iff (a b:Int) :leA a b↔b.toNat.log2<a.toNat.log2∨(a.toNat.log2=b.toNat.log2∧a≤b):=by
 unfold leA;rw [←Bool.not_eq_true,ahead_iff];omega
theorem leA_refl (a:Int) :leA a a:=(leA_iff a a).2 (by omega)
theorem leA_trans {a b c:Int} (h:leA a b) (k:leA b c) :leA a c:=by
 rw [leA_iff] at*;omega
theorem leA_of {a b:Int} (h:aheadI a b=true) :leA a b:=by
 rw [ahead_iff] at h;rw [leA_iff];omega
theorem leA_anti {a b:Int} (h:leA a b) (k:leA b a) :a=b:=by
 rw [leA_iff] at*;omega
def HeapO (L:List Int) :Prop:=∀j:Nat,0<j→j<L.length→leA (L.getD ((j - 1) / 2) 0) (L.getD j 0)
theorem swapL_get {L:List Int} {i j:Nat} (hi:i<L.length) (hj:j<L.length) (k:Nat) : (swapL L i j).getD k 0=if k=j then L.getD i 0 else if k=i then L.getD j 0 else L.getD k 0:=by
 unfold swapL;simp only [List.getD_eq_getElem?_getD,List.getElem?_set,List.length_set];by_cases h1:k=j
 ·subst h1;simp [hj]
 ·rw [if_neg h1,if_neg (fun e=>h1 e.symm)]
  by_cases h2:k=i
  ·subst h2;simp [hi]
  ·rw [if_neg h2,if_neg (fun e=>h2 e.symm)]
structure UpO (L:List Int) (i:Nat) :Prop where
 ok: ∀j:Nat,0<j→j<L.length→j≠i→leA (L.getD ((j - 1) / 2) 0) (L.getD j 0)
 kid:0<i→∀j:Nat,0<j→j<L.length→(j - 1) / 2=i→leA (L.getD ((i - 1) / 2) 0) (L.getD j 0)
theorem upH_heap: ∀(n:Nat) (L:List Int) (i:Nat),i<L.length→i≤n→UpO L i→HeapO (upH n L i):=by
 intro n
 induction n with
 |zero=>
  intro L i hi hn h j h0 hj;simp only [upH] at hj⊢;exact h.ok j h0 hj (by omega)
 |succ n ih=>
  intro L i hi hn h;simp only [upH]
  split
  ·rename_i hs
   obtain⟨hi0,ha⟩:=hs;obtain⟨p,hp⟩ : ∃p,p= (i - 1) / 2:=⟨_,rfl⟩;rw [←hp] at ha⊢;have hpi:p<i:=by omega
   have hpl:p<L.length:=by omega
   have hle:=leA_of ha;refine ih _ _ (by rw [swapL_len];exact hpl) (by omega) ⟨?_,?_⟩
   ·intro j h0 hj hne
    rw [swapL_len] at hj;rw [swapL_get hi hpl,swapL_get hi hpl];by_cases hji:j=i
    ·subst hji
     rw [←hp,if_pos rfl,if_neg (by omega),if_pos rfl];exact hle
    ·rw [if_neg hne,if_neg hji]
     by_cases hqp: (j - 1) / 2=p
     ·rw [if_pos hqp]
      have:=h.ok j h0 hj hji;rw [hqp] at this;exact leA_trans hle this
     ·rw [if_neg hqp]
      by_cases hqi: (j - 1) / 2=i
      ·rw [if_pos hqi]
       have:=h.kid hi0 j h0 hj hqi;rw [←hp] at this;exact this
      ·rw [if_neg hqi]
       exact h.ok j h0 hj hji
   ·intro hp0 j h0 hj hjp
    rw [swapL_len] at hj;rw [swapL_get hi hpl,swapL_get hi hpl];rw [if_neg (by omega: ¬(p - 1) / 2=p),if_neg (by omega: ¬(p - 1) / 2=i),if_neg (by omega: ¬j=p)];have k1:=h.ok p hp0 hpl (by omega);by_cases hji:j=i
    ·rw [if_pos hji]
     exact k1
    ·rw [if_neg hji]
     have k2:=h.ok j h0 hj hji;rw [hjp] at k2;exact leA_trans k1 k2
  ·rename_i hs
   intro j h0 hj;by_cases hji:j=i
   ·subst hji
    have:aheadI (L.getD j 0) (L.getD ((j - 1) / 2) 0) =false:=by
     rw [←Bool.not_eq_true];exact fun ha=>hs ⟨h0,ha⟩
    exact this
   ·exact h.ok j h0 hj hji
theorem getD_append {L:List Int} {x:Int} {j:Nat} (h:j<L.length) : (L ++ [x]).getD j 0=L.getD j 0:=by
 simp only [List.getD_eq_getElem?_getD];rw [List.getElem?_append_left h]
theorem putH_heap {L:List Int} (h:HeapO L) (id:Int) :HeapO (putH L id):=by
 refine upH_heap _ _ _ (by simp) (Nat.le_refl _) ⟨?_,?_⟩
 ·intro j h0 hj hne
  simp only [List.length_append,List.length_cons,List.length_nil] at hj;rw [getD_append (by omega),getD_append (by omega)];exact h j h0 (by omega)
 ·intro _ j h0 hj hjp
  simp only [List.length_append,List.length_cons,List.length_nil] at hj;omega
structure DownO (L:List Int) (i:Nat) :Prop where
 ok: ∀j:Nat,0<j→j<L.length→(j - 1) / 2≠i→leA (L.getD ((j - 1) / 2) 0) (L.getD j 0)
 kid:0<i→∀j:Nat,0<j→j<L.length→(j - 1) / 2=i→leA (L.getD ((i - 1) / 2) 0) (L.getD j 0)
theorem stepH_le (L:List Int) (a k:Nat) :leA (L.getD (stepH L a k) 0) (L.getD a 0)∧(k<L.length→leA (L.getD (stepH L a k) 0) (L.getD k 0)):=by
 unfold stepH
 split
 ·rename_i h
  exact⟨leA_of h.2,fun _=>leA_refl _⟩
 ·rename_i h
  refine⟨leA_refl _,fun hk=> ?_⟩
  have:aheadI (L.getD k 0) (L.getD a 0) =false:=by
   rw [←Bool.not_eq_true];exact fun ha=>h ⟨hk,ha⟩
  exact this
theorem firstH_min (L:List Int) (i:Nat) :leA (L.getD (firstH L i) 0) (L.getD i 0)∧∀j:Nat,0<j→j<L.length→(j - 1) / 2=i→leA (L.getD (firstH L i) 0) (L.getD j 0):=by
 unfold firstH;obtain⟨a1,a2⟩:=stepH_le L i (2*i+1);obtain⟨b1,b2⟩:=stepH_le L (stepH L i (2*i+1)) (2*i+2);refine⟨leA_trans b1 a1,fun j h0 hj hp=> ?_⟩;rcases (by omega:j=2*i+1∨j=2*i+2) with e|e
 ·rw [e] at hj⊢
  exact leA_trans b1 (a2 hj)
 ·rw [e] at hj⊢
  exact b2 hj
theorem firstH_or (L:List Int) (i:Nat) :firstH L i=i∨firstH L i=2*i+1∨firstH L i=2*i+2:=by
 unfold firstH;rcases stepH_or L i (2*i+1) with h|h <;> rcases stepH_or L (stepH L i (2*i+1)) (2*i+2) with g|g <;> omega
theorem downH_heap: ∀(n:Nat) (L:List Int) (i:Nat),i<L.length→L.length≤n+i→DownO L i→HeapO (downH n L i):=by
 intro n
 induction n with
 |zero=>intro L i hi hn h;omega
 |succ n ih=>
  intro L i hi hn h;simp only [downH];obtain⟨m1,m2⟩:=firstH_min L i;have hf:=firstH_lt hi
  split
  ·rename_i he
   intro j h0 hj;by_cases hp: (j - 1) / 2=i
   ·rw [he] at m2
    rw [hp];exact m2 j h0 hj hp
   ·exact h.ok j h0 hj hp
  ·rename_i hne
   have hor:=firstH_or L i;generalize firstH L i=f at*;have hfi: (f - 1) / 2=i:=by omega
   refine ih _ _ (by rw [swapL_len];exact hf) (by rw [swapL_len];omega) ⟨?_,?_⟩
   ·intro j h0 hj hp
    rw [swapL_len] at hj;rw [swapL_get hi hf,swapL_get hi hf];rw [if_neg hp];by_cases hjf:j=f
    ·rw [if_pos hjf,hjf,hfi,if_pos rfl]
     exact m1
    ·rw [if_neg hjf]
     by_cases hqi: (j - 1) / 2=i
     ·rw [if_pos hqi,if_neg (by omega)]
      exact m2 j h0 hj hqi
     ·rw [if_neg hqi]
      by_cases hji:j=i
      ·rw [if_pos hji,hji]
       exact h.kid (by omega) f (by omega) hf hfi
      ·rw [if_neg hji]
       exact h.ok j h0 hj hqi
   ·intro _ j h0 hj hjp
    rw [swapL_len] at hj;rw [swapL_get hi hf,swapL_get hi hf,hfi];rw [if_neg (by omega: ¬i=f),if_pos rfl,if_neg (by omega: ¬j=f),if_neg (by omega: ¬j=i)];have:=h.ok j h0 hj (by omega);rw [hjp] at this;exact this
theorem popH_heap {x:Int} {L:List Int} (h:HeapO (x :: L)) :HeapO (popH (x :: L)):=by
 unfold popH;by_cases h0:L.length=0
 ·have:L= []:=List.length_eq_zero_iff.1 h0
  subst this;intro j h1 h2;simp [downH] at h2
 ·have e: ∀j:Nat,0<j→j<L.length→(((x :: L).set 0 ((x :: L).getD L.length 0)).take L.length).getD j 0= (x :: L).getD j 0:=by
   intro j h1 h2;simp only [List.getD_eq_getElem?_getD,List.getElem?_take,List.getElem?_set];rw [if_pos h2,if_neg (by omega)]
  have hl: (((x :: L).set 0 ((x :: L).getD L.length 0)).take L.length).length=L.length:=by
   rw [List.length_take,List.length_set,List.length_cons];omega
  refine downH_heap _ _ _ (by rw [hl];omega) (by rw [hl];omega) ⟨?_,fun h=>by omega⟩;intro j h1 h2 h3;rw [hl] at h2;rw [e j h1 h2,e _ (by omega) (by omega)];exact h j h1 (by rw [List.length_cons];omega)
theorem heap_first {L:List Int} (h:HeapO L) : ∀j:Nat,j<L.length→leA (L.getD 0 0) (L.getD j 0):=by
 intro j
 induction j using Nat.strongRecOn with
 |ind j ih=>
  intro hj;by_cases h0:j=0
  ·subst h0;exact leA_refl _
  ·exact leA_trans (ih ((j - 1) / 2) (by omega) (by omega)) (h j (by omega) hj)
theorem heap_head {x:Int} {L:List Int} (h:HeapO (x :: L)) : ∀y∈x :: L,leA x y:=by
 intro y hy;obtain⟨j,hj,rfl⟩:=List.mem_iff_getElem.1 hy;have:=heap_first h j hj;simp only [List.getD_eq_getElem?_getD] at this;rw [List.getElem?_eq_getElem hj] at this
 simpa using this
theorem heap_nil:HeapO []:=fun j _ hj=>by simp at hj
def FirstIs (l:Nat) (most:Int) (r:List Nd) (p:Int) :Prop:=readyR l r p most=true∧∀q,readyR l r q most=true→leA p q
theorem FirstIs.unique {l:Nat} {most:Int} {r:List Nd} {p q:Int} (h:FirstIs l most r p) (k:FirstIs l most r q) :p=q:=leA_anti (h.2 q k.1) (k.2 p h.1)
inductive RunTo (l:Nat) (most:Int) :List Nd→List Int→List Nd→Prop
 |done {r:List Nd} (h: ∀p,readyR l r p most=false) :RunTo l most r [] r
 |step {r s:List Nd} {p:Int} {ps:List Int} (h:FirstIs l most r p) (k:RunTo l most (foldR r p) ps s) :RunTo l most r (p :: ps) s
theorem RunTo.unique {l:Nat} {most:Int} {r s t:List Nd} {ps qs:List Int} (h:RunTo l most r ps s) :RunTo l most r qs t→ps=qs∧s=t:=by
 induction h generalizing qs t with
 |done h=>
  intro k
  cases k with
  |done _=>exact⟨rfl,rfl⟩
  |step k _=>have:=k.1;rw [h] at this;cases this
 |step h _ ih=>
  intro k
  cases k with
  |done k=>have:=h.1;rw [k] at this;cases this
  |step k k2=>
   obtain rfl:=h.unique k;obtain⟨rfl,rfl⟩:=ih k2;exact⟨rfl,rfl⟩
theorem RunTo.folded {l:Nat} {most:Int} {r s:List Nd} {ps:List Int} (h:RunTo l most r ps s) :Folded l most r s:=by
 induction h with
 |done _=>exact Folded.refl _
 |step h _ ih=>exact(Folded.step _ (Folded.refl _) h.1).trans ih
theorem RunTo.tight {l:Nat} {most:Int} {r s:List Nd} {ps:List Int} (h:RunTo l most r ps s) : ∀p,readyR l s p most=false:=by
 induction h with
 |done h=>exact h
 |step _ _ ih=>exact ih
def putW (L:List Int) (id:Int) :List Int:=if id<1∨id∈L then L else putH L id
theorem putW_mem (L:List Int) (id:Int) (y:Int) :y∈putW L id↔y∈L∨(1≤id∧y=id):=by
 unfold putW
 split
 ·rename_i h
  rcases h with h|h
  ·constructor
   ·exact .inl
   ·rintro(h2| ⟨h2,_⟩)
    ·exact h2
    ·omega
  ·constructor
   ·exact .inl
   ·rintro(h2| ⟨_,rfl⟩)
    ·exact h2
    ·exact h
 ·rename_i h
  rw [(putH_perm L id).mem_iff,List.mem_cons]
  constructor
  ·rintro(rfl|h2)
   ·exact .inr ⟨by omega,rfl⟩
   ·exact .inl h2
  ·rintro(h2| ⟨_,rfl⟩)
   ·exact .inr h2
   ·exact .inl rfl
theorem putW_len (L:List Int) (id:Int) : (putW L id).length≤L.length+1:=by
 unfold putW
 split
 ·omega
 ·rw [(putH_perm L id).length_eq];simp
structure WaitL (L:List Int) :Prop where
 heap:HeapO L
 once:L.Nodup
 pos: ∀x∈L,1≤x
theorem WaitL.nil:WaitL []:=⟨heap_nil,List.nodup_nil,by simp⟩
theorem WaitL.put {L:List Int} (h:WaitL L) (id:Int) :WaitL (putW L id):=by
 unfold putW
 split
 ·exact h
 ·rename_i hn
  refine⟨putH_heap h.heap id,?_,?_⟩
  ·rw [(putH_perm L id).nodup_iff,List.nodup_cons]
   exact⟨fun hm=>hn (.inr hm),h.once⟩
  ·intro x hx
   rcases List.mem_cons.1 ((putH_perm L id).mem_iff.1 hx) with rfl|hx
   ·omega
   ·exact h.pos x hx
theorem WaitL.pop {x:Int} {L:List Int} (h:WaitL (x :: L)) :WaitL (popH (x :: L)):=
 ⟨popH_heap h.heap,(popH_perm x L).nodup_iff.2 (List.nodup_cons.1 h.once).2,fun y hy=>h.pos y (List.mem_cons_of_mem _ ((popH_perm x L).mem_iff.1 hy))⟩
def Waits (l:Nat) (most:Int) (r:List Nd) (L:List Int) :Prop:=∀p,readyR l r p most=true→p∈L
theorem Waits.skip {l:Nat} {most:Int} {r:List Nd} {x:Int} {L:List Int} (h:Waits l most r (x :: L)) (hx:readyR l r x most=false) :Waits l most r (popH (x :: L)):=by
 intro p hp;rw [(popH_perm x L).mem_iff];rcases List.mem_cons.1 (h p hp) with rfl|h2
 ·rw [hx] at hp;cases hp
 ·exact h2
theorem Waits.first {l:Nat} {most:Int} {r:List Nd} {x:Int} {L:List Int} (h:Waits l most r (x :: L)) (hw:WaitL (x :: L)) (hx:readyR l r x most=true) :FirstIs l most r x:=
 ⟨hx,fun q hq=>heap_head hw.heap q (h q hq)⟩
theorem Waits.fold {l:Nat} {most:Int} {r:List Nd} {x:Int} {L:List Int} (hr:Roll r) (h:Waits l most r (x :: L)) (hx:readyR l r x most=true) :
 Waits l most (foldR r x) (putW (putW (putW (popH (x :: L)) (2*x)) (2*x+1)) (x / 2)):=by
 have hk:=(ready_iff.1 hx).1;have hx1:1≤x:=(isNode_lt (kids_iff.1 hk).1).1;intro p hp;rw [putW_mem,putW_mem,putW_mem,(popH_perm x L).mem_iff];obtain⟨h1,h2,h3⟩:=ready_iff.1 hp;have hp1:1≤p:=(isNode_lt (kids_iff.1 h1).1).1;by_cases e1:p=2*x
 ·exact .inl (.inl (.inr ⟨by omega,e1⟩))
 by_cases e2:p=2*x+1
 ·exact .inl (.inr ⟨by omega,e2⟩)
 by_cases e3:p=x / 2
 ·exact .inr ⟨by omega,e3⟩
 by_cases e4:p=x
 ·subst e4
  simp only [pairR,getR_fold hr hx1] at h2;rw [if_neg (by omega),if_pos (.inl trivial),if_neg (by omega),if_pos (.inr trivial)] at h2;omega
 refine .inl (.inl (.inl ?_))
 have g: ∀id,id≠x→id≠2*x→id≠2*x+1→getR (foldR r x) id=getR r id:=fun id a b c=>by
  rw [getR_fold hr hx1,if_neg a,if_neg (by omega)]
 have q1:=g (2*p) (by omega) (by omega) (by omega);have q2:=g (2*p+1) (by omega) (by omega) (by omega);have q3:=g p e4 e1 e2
 have:readyR l r p most=true:=by
  rw [ready_iff];refine⟨h1,?_,?_⟩
  ·simp only [pairR,q1,q2] at h2⊢
   exact h2
  ·simp only [pairR,q1,q2,q3] at h3⊢
   exact h3
 rcases List.mem_cons.1 (h p this) with h|h
 ·exact absurd h e4
 ·exact h
theorem Waits.done {l:Nat} {most:Int} {r:List Nd} (h:Waits l most r []) :RunTo l most r [] r:=.done fun p=>by
 rw [←Bool.not_eq_true];exact fun hp=>by simpa using h p hp
theorem Waits.start {l:Nat} {most:Int} {r:List Nd} {L:List Int} (hL: ∀x∈r,1≤x.1 / 2→x.1 / 2∈L) (hr:Roll r) :Waits l most r L:=by
 intro p hp;obtain⟨h1,h2,_⟩:=ready_iff.1 hp;have hp1:1≤p:=(isNode_lt (kids_iff.1 h1).1).1
 have:getR r (2*p)≠0∨getR r (2*p+1)≠0:=by
  unfold pairR at h2;omega
 rcases this with h|h
 ·have:=hL _ (getR_pos hr h) (by simp only;omega)
  simp only at this
  rwa [show 2*p / 2=p by omega] at this
 ·have:=hL _ (getR_pos hr h) (by simp only;omega)
  simp only at this
  rwa [show (2*p+1) / 2=p by omega] at this
structure BagL (l:Nat) (m:List Nd) :Prop where
 up:m.Pairwise fun a b=>a.1<b.1
 val: ∀x∈m,0≤x.1∧x.1<2^l∧1≤x.2
 sum:sumR m≤72057594037927935
theorem BagL.nil (l:Nat) :BagL l []:=⟨.nil,by simp,by simp [sumR]⟩
theorem sumR_pos {m:List Nd} (h: ∀x∈m,1≤x.2) :0≤sumR m∧(m.length:Int)≤sumR m:=by
 induction m with
 |nil=>simp [sumR]
 |cons x m ih=>
  have:=ih fun y hy=>h y (by simp [hy]);have:=h x (by simp);simp only [sumR,List.length_cons];omega
theorem BagL.sum0 {l:Nat} {m:List Nd} (h:BagL l m) :0≤sumR m:=(sumR_pos fun x hx=>(h.val x hx).2.2).1
theorem addR_vals {m:List Nd} {x c:Int} {P:Nd→Prop} (h: ∀y∈m,P y) (hn:P (x,c)) (ho: ∀y∈m,y.1=x→P (x,y.2+c)) : ∀y∈addR m x c,P y:=by
 induction m with
 |nil=>intro y hy;simp [addR] at hy;rw [hy];exact hn
 |cons z m ih=>
  intro y hy;simp only [addR] at hy
  split at hy
  ·rename_i he
   rcases List.mem_cons.1 hy with rfl|hy
   ·exact ho z (by simp) he
   ·exact h y (by simp [hy])
  ·split at hy
   ·rcases List.mem_cons.1 hy with rfl|hy
    ·exact hn
    ·exact h y hy
   ·rcases List.mem_cons.1 hy with rfl|hy
    ·exact h y (by simp)
    ·exact ih (fun u hu=>h u (by simp [hu])) (fun u hu=>ho u (by simp [hu])) y hy
theorem addR_up {m:List Nd} (h:m.Pairwise fun a b=>a.1<b.1) (x c:Int) : (addR m x c).Pairwise fun a b=>a.1<b.1:=by
 induction m with
 |nil=>simp [addR]
 |cons z m ih=>
  obtain⟨h1,h2⟩:=List.pairwise_cons.1 h;simp only [addR]
  split
  ·rename_i he
   exact List.pairwise_cons.2 ⟨fun y hy=>by have:=h1 y hy;simp only;omega,h2⟩
  ·split
   ·rename_i hlt
    refine List.pairwise_cons.2 ⟨fun y hy=> ?_,h⟩;rcases List.mem_cons.1 hy with rfl|hy
    ·exact hlt
    ·have:=h1 y hy;simp only;omega
   ·rename_i hne hge
    refine List.pairwise_cons.2 ⟨fun y hy=> ?_,ih h2⟩;rcases addR_mem hy with hy|hy
    ·omega
    ·exact h1 y hy
theorem BagL.add {l:Nat} {m:List Nd} (h:BagL l m) {x c:Int} (h0:0≤x) (h1:x<2^l) (hc:1≤c) (hs:sumR m+c≤72057594037927935) :BagL l (addR m x c):=
 ⟨addR_up h.up x c,addR_vals h.val ⟨h0,h1,hc⟩ fun y hy he=>⟨h0,h1,by have:=(h.val y hy).2.2;simp only;omega⟩,by rw [sumR_add];exact hs⟩
def betwB:List Nd→Int→Int→Int
 | [],_,_=>0
 |x :: m,a,b=>(if a≤x.1∧x.1≤b then x.2 else 0) +betwB m a b
structure CutAt (m:List Nd) (p:Int→Prop) (i:Nat) :Prop where
 le:i≤m.length
 ahead: ∀z∈m.take i,¬p z.1
 behind: ∀z∈m.drop i,p z.1
def leaves (l:Nat) (m:List Nd) :List Nd:=m.map fun x=>(2^l+x.1,x.2)
theorem leaves_roll {l:Nat} {m:List Nd} (h:BagL l m) :Roll (leaves l m):=by
 have:=pow_pos' l;refine⟨?_,fun x hx=> ?_⟩
 ·unfold leaves
  rw [List.pairwise_map];exact h.up.imp fun {a b} hab=>by simp only;omega
 ·obtain⟨y,hy,rfl⟩:=List.mem_map.1 hx
  have:=h.val y hy;simp only;omega
theorem leaves_sum (l:Nat) (m:List Nd) :sumR (leaves l m) =sumR m:=by
 induction m with
 |nil=>rfl
 |cons x m ih=>simp only [leaves,List.map_cons,sumR] at ih⊢;rw [ih]
theorem leaves_add (l:Nat) (m:List Nd) (x c:Int) :leaves l (addR m x c) =addR (leaves l m) (2^l+x) c:=by
 induction m with
 |nil=>rfl
 |cons z m ih=>
  simp only [addR,leaves,List.map_cons] at ih⊢;by_cases h1:z.1=x
  ·rw [if_pos h1,if_pos (show (2:Int) ^l+z.1=2^l+x by omega)];simp
  ·rw [if_neg h1,if_neg (show ¬(2:Int) ^l+z.1=2^l+x by omega)]
   by_cases h2:x<z.1
   ·rw [if_pos h2,if_pos (show (2:Int) ^l+x<2^l+z.1 by omega)];simp
   ·rw [if_neg h2,if_neg (show ¬(2:Int) ^l+x<2^l+z.1 by omega)];simp [ih]
def culIs (f:Int→Int) (L:List Int) (r:Int×Int) :Prop:=(r= (0,0)∧∀x∈L,f x≤0)∨(r.1∈L∧r.2=f r.1∧0<f r.1∧∀x∈L,0<f x→r.1≤x)
def isVal (l:Nat) (x:Int) :Bool:=decide (0≤x) && decide (x<2^l)
def leafV (l:Nat) (x:Int) :Value:=.tuple #[.int .i64 (if isVal l x=true then 2^l+x else 0),.bool (isVal l x)]
theorem leafV_yes {l:Nat} {x:Int} (h:isVal l x=true) :leafV l x=.tuple #[.int .i64 (2^l+x),.bool true]:=by unfold leafV;rw [h];rfl
theorem leafV_no {l:Nat} {x:Int} (h:isVal l x=false) :leafV l x=.tuple #[.int .i64 0,.bool false]:=by unfold leafV;rw [h];rfl
theorem or_leaf {l:Nat} (h:l≤48) {x:Int} (h0:0≤x) (h1:x<2^l) :bits .or .i64 (2^l) x=2^l+x:=by
 have p1:=pow_48 h;have p2:=pow_pos' l;exact bits_join .i64 63 (by decide) (fun n h0 h1=>by rw [IntKind.wrap_i64];omega) l (2^l) x (by omega) (Int.emod_self) (by omega) h0 h1 (by omega)
theorem twig_Leaf (w:World) (l:Nat) (x:Int) (h1:1≤l) (h2:l≤48) :Calls Tryz.prog 161 #[.int .i64 l,.int .i64 x] w fun e w'=>e=.returned (leafV l x)∧Below w.heap.size w w':=by
 have p1:=pow_48 h2;have p2:=pow_pos' l;have HU:=LH (show decide (1≤(l:Int)∧(l:Int)≤48) =true by simp;omega);have l1: (1:Int)≤(l:Int):=by omega
 have l2: (l:Int)≤48:=by omega
 by_cases hx0:x<0
 ·rw [leafV_no (by unfold isVal;simp;omega)]
  go_enter Tryz.func161,Tryz.ntmps161
  go_wp2_with fail;refine(universe_ _ _).mono ?_;rintro e w1 ⟨rfl,hb1⟩;have B1:Below w.heap.size w w1:=Below.then_ bE hb1;have s1:=B1.size;rw [HU.out];go_wp2_with fail
  go_ret2
  exact⟨rfl,B1⟩
 ·have k0:decide (x<0) =false:=by simpa using hx0
  by_cases hx1:x<2^l
  ·rw [leafV_yes (by unfold isVal;simp;omega)]
   have HO:=LH (or_leaf h2 (show 0≤x by omega) hx1);have k1:decide ((2:Int) ^l≤x) =false:=by simp;omega
   go_enter Tryz.func161,Tryz.ntmps161
   go_wp2_with fail;refine(universe_ _ _).mono ?_;rintro e w1 ⟨rfl,hb1⟩;have B1:Below w.heap.size w w1:=Below.then_ bE hb1;have s1:=B1.size;rw [HU.out];go_wp2_with fail
   go_ret2
   exact⟨by simp [HO.out],B1⟩
  ·rw [leafV_no (by unfold isVal;simp;omega)]
   have k1:decide ((2:Int) ^l≤x) =true:=by simp;omega
   go_enter Tryz.func161,Tryz.ntmps161
   go_wp2_with fail;refine(universe_ _ _).mono ?_;rintro e w1 ⟨rfl,hb1⟩;have B1:Below w.heap.size w w1:=Below.then_ bE hb1;have s1:=B1.size;rw [HU.out];go_wp2_with fail
   go_ret2
   exact⟨rfl,B1⟩
def addB (l:Nat) (m:List Nd) (x c:Int) :List Nd×Int:=
 if isVal l x=false then (m,3) else if c<1 then (m,4) else if 72057594037927935<sumR m+c then (m,5) else (addR m x c,0)
theorem BagL.addB {l:Nat} {m:List Nd} (h:BagL l m) (x c:Int) :BagL l (addB l m x c).1:=by
 unfold Go.Proofs.YtlgnakobjkhmhaaGreatDoor.addB
 split
 ·exact h
 ·rename_i hv
  split
  ·exact h
  ·split
   ·exact h
   ·have hv':0≤x∧x<2^l:=by simpa [isVal] using hv
    exact h.add hv'.1 hv'.2 (by omega) (by omega)
theorem addR_len (m:List Nd) (x c:Int) : (addR m x c).length≤m.length+1:=by
 induction m with
 |nil=>simp [addR]
 |cons z m ih=>simp only [addR];split <;> (try split) <;> simp <;> omega
def insErr (l:Nat) (r:List Nd) (x c:Int) :Int:=if isVal l x=false then 3 else if c<1 then 4 else if 72057594037927935<sumR r+c then 5 else 0
def PreTo (l:Nat) (k:Int) (r:List Nd) (id:Int) (s:List Nd) :Prop:=
 (getR r id=0∧8*k≤r.length∧∃ps,RunTo l (sumR r / k) r ps s)∨(¬(getR r id=0∧8*k≤r.length)∧s=r)
def InsTo (l:Nat) (k:Int) (r:List Nd) (x c:Int) (r':List Nd) :Prop:=
 (insErr l r x c≠0∧r'=r)∨(insErr l r x c=0∧∃s,PreTo l k r (2^l+x) s∧r'=addR s (2^l+x) c)
abbrev Op3:=Int×Int×Int
def DoTo (l:Nat) (k:Int) (r:List Nd) (o:Op3) (r':List Nd) (n:Int) :Prop:=
 (o.1=1∧∃ps,RunTo l (sumR r / k) r ps r'∧n=ps.length)∨(o.1=2∧r'= []∧n=0)∨(o.1≠1∧o.1≠2∧InsTo l k r o.2.1 o.2.2 r'∧n=insErr l r o.2.1 o.2.2)
theorem ins_ok {l:Nat} {r:List Nd} {x c:Int} (h:insErr l r x c=0) :isVal l x=true∧1≤c∧sumR r+c≤72057594037927935:=by
 unfold insErr at h
 split at h
 ·omega
 ·rename_i h1
  split at h
  ·omega
  ·split at h
   ·omega
   ·exact⟨by simpa using h1,by omega,by omega⟩
theorem isVal_iff {l:Nat} {x:Int} :isVal l x=true↔0≤x∧x<2^l:=by simp [isVal]
theorem PreTo.same {l:Nat} {k:Int} {r s:List Nd} {id:Int} (h:PreTo l k r id s) (hf:Fits l r) :Fits l s∧sumR s=sumR r∧s.length≤r.length:=by
 rcases h with ⟨_,_,ps,h⟩ | ⟨_,rfl⟩
 ·exact⟨h.folded.fits hf,h.folded.sum hf,h.folded.len hf⟩
 ·exact⟨hf,rfl,Nat.le_refl _⟩
structure Held (l:Nat) (k:Int) (r m:List Nd) :Prop where
 fits:Fits l r
 flow:Flow l r (leaves l m)
 bag:BagL l m
 light:lightOf l r k=true
theorem Held.nil (l:Nat) (k:Int) :Held l k [] []:=⟨Fits.nil l,Flow.nil l,.nil l,rfl⟩
section
variable {l:Nat} {k:Int} {r m:List Nd}
theorem Held.sum (h:Held l k r m) :sumR r=sumR m:=by
 rw [h.flow.sum h.fits.roll (leaves_roll h.bag),leaves_sum]
theorem Held.run (h:Held l k r m) {ps:List Int} {s:List Nd} (hR:RunTo l (sumR r / k) r ps s) :Held l k s m:=
 ⟨hR.folded.fits h.fits,hR.folded.flow h.fits h.flow,h.bag,hR.folded.light h.fits h.light⟩
theorem Held.pre (h:Held l k r m) {id:Int} {s:List Nd} (hp:PreTo l k r id s) :Held l k s m:=by
 rcases hp with ⟨_,_,ps,hp⟩ | ⟨_,rfl⟩
 ·exact h.run hp
 ·exact h
theorem leaf_inner {l:Nat} {x:Int} (h0:0≤x) : (kidsOf l (2^l+x)).2.2=false:=by
 rw [←Bool.not_eq_true,kids_iff];omega
theorem Held.add (h:Held l k r m) (hl:1≤l∧l≤48) (hk:1≤k) {x c:Int} (h0:0≤x) (h1:x<2^l) (hc:1≤c) (hs:sumR r+c≤72057594037927935) :Held l k (addR r (2^l+x) c) (addR m x c):=by
 have hp:=pow_pos' l;refine⟨h.fits.add (by omega) (by omega) hc hs,?_,h.bag.add h0 h1 hc (by rw [←h.sum];exact hs),add_light h.fits.roll hk h.light hc (leaf_inner h0)⟩;rw [leaves_add];exact h.flow.add h.fits.roll (leaves_roll h.bag) (leaf_node hl h0 h1).1 hc
def bagDo (l:Nat) (m:List Nd) (o:Op3) (n:Int) :List Nd:=if o.1=2 then [] else if o.1≠1∧n=0 then (addB l m o.2.1 o.2.2).1 else m
end
theorem Held.weaker {l:Nat} {k k2:Int} {r m:List Nd} (h:Held l k r m) (h1:1≤k2) (h2:k2≤k) :Held l k2 r m:=by
 refine⟨h.fits,h.flow,h.bag,light_of fun x hx hk=> ?_⟩;have a:=light_all h.light x hx hk;have s0:=sumR_nonneg h.fits.roll
 have:sumR r / k≤sumR r / k2:=by
  have e1:=Int.mul_ediv_add_emod (sumR r) k;have e2:=Int.emod_nonneg (sumR r) (show k≠0 by omega);have q0:0≤sumR r / k:=Int.ediv_nonneg s0 (by omega);refine Int.le_ediv_of_mul_le (by omega) ?_;have:sumR r / k*k2≤sumR r / k*k:=Int.mul_le_mul_of_nonneg_left h2 q0;have e3:k* (sumR r / k) =sumR r / k*k:=Int.mul_comm _ _;omega
 omega
structure SumOf (a b c:List Nd) :Prop where
 roll:Roll c
 get: ∀id,getR c id=getR a id+getR b id
 sum:sumR c=sumR a+sumR b
theorem SumOf.cases {a b c:List Nd} (h:SumOf a b c) (ha:Roll a) (hb:Roll b) {x:Nd} (hx:x∈c) : (∃y∈a,y.1=x.1)∨(∃y∈b,y.1=x.1):=by
 have h1:=getR_mem h.roll hx;have h2:=(h.roll.2 x hx).2;have h3:=h.get x.1;by_cases ha0:getR a x.1=0
 ·exact .inr ⟨_,getR_pos hb (by omega:getR b x.1≠0),rfl⟩
 ·exact .inl ⟨_,getR_pos ha ha0,rfl⟩
theorem get_light {l:Nat} {k:Int} {r:List Nd} (hf:Roll r) (hk:1≤k) (h:lightOf l r k=true) {id:Int} (hi: (kidsOf l id).2.2=true) :getR r id≤sumR r / k:=by
 by_cases h0:getR r id=0
 ·rw [h0];exact Int.ediv_nonneg (sumR_nonneg hf) (by omega)
 ·exact light_all h _ (getR_pos hf h0) hi
theorem div_add_le {a b k:Int} (hk:1≤k) :a / k+b / k≤(a+b) / k:=by
 refine Int.le_ediv_of_mul_le (by omega) ?_;have e1:=Int.mul_ediv_add_emod a k;have e2:=Int.mul_ediv_add_emod b k;have m1:=Int.emod_nonneg a (show k≠0 by omega);have m2:=Int.emod_nonneg b (show k≠0 by omega);rw [Int.add_mul,Int.mul_comm (a / k),Int.mul_comm (b / k)];omega
theorem Held.join {l:Nat} {k:Int} {ra rb rc ma mb mc:List Nd} (ha:Held l k ra ma) (hb:Held l k rb mb) (hk:1≤k) (hr:SumOf ra rb rc) (hm:BagL l mc) (hq: ∀id,getR (leaves l mc) id=getR (leaves l ma) id+getR (leaves l mb) id) (hs:sumR ra+sumR rb≤72057594037927935) :Held l k rc mc:=by
 refine⟨⟨hr.roll,fun x hx=> ?_,by rw [hr.sum];exact hs⟩,ha.flow.join hb.flow hr.get hq,hm,light_of fun x hx hi=> ?_⟩
 ·rcases hr.cases ha.fits.roll hb.fits.roll hx with ⟨y,hy,e⟩ | ⟨y,hy,e⟩
  ·rw [←e];exact ha.fits.lt y hy
  ·rw [←e];exact hb.fits.lt y hy
 ·have h1:=getR_mem hr.roll hx
  have h2:=get_light ha.fits.roll hk ha.light hi;have h3:=get_light hb.fits.roll hk hb.light hi;have h4:=div_add_le (a:=sumR ra) (b:=sumR rb) hk;rw [hr.get] at h1;rw [hr.sum];omega
def pourL (ma mb:List Nd) :List Nd:=mb.foldl (fun m x=>addR m x.1 x.2) ma
theorem pour_leaves {l:Nat} {ma:List Nd} : ∀{mb:List Nd},BagL l ma→(∀x∈mb,0≤x.1∧x.1<2^l∧1≤x.2)→sumR ma+sumR mb≤72057594037927935→
 BagL l (pourL ma mb)∧sumR (pourL ma mb) =sumR ma+sumR mb∧∀id,getR (leaves l (pourL ma mb)) id=getR (leaves l ma) id+ (mb.map fun x=>if 2^l+x.1=id then x.2 else 0).sum:=by
 intro mb
 induction mb generalizing ma with
 |nil=>intro h _ _;exact⟨h,by simp [pourL,sumR],fun id=>by simp [pourL]⟩
 |cons x mb ih=>
  intro h hv hs;have hx:=hv x (by simp);have hp:=(sumR_pos fun y hy=>(hv y (List.mem_cons_of_mem _ hy)).2.2).1;simp only [sumR] at hs;have hB:BagL l (addR ma x.1 x.2):=h.add hx.1 hx.2.1 hx.2.2 (by omega);obtain⟨i1,i2,i3⟩:=ih hB (fun y hy=>hv y (by simp [hy])) (by rw [sumR_add];omega);refine⟨i1,?_,fun id=> ?_⟩
  ·show sumR (pourL (addR ma x.1 x.2) mb) =_
   rw [i2,sumR_add];simp only [sumR];omega
  ·show getR (leaves l (pourL (addR ma x.1 x.2) mb)) id=_
   rw [i3,leaves_add,getR_add (leaves_roll h)];simp only [List.map_cons,List.sum_cons];by_cases e:id=2^l+x.1
   ·subst e;simp only [if_true];omega
   ·rw [if_neg e,if_neg (Ne.symm e)];omega
theorem leaves_get {l:Nat} : ∀{mb:List Nd},(mb.Pairwise fun a b=>a.1<b.1)→∀id,getR (leaves l mb) id= (mb.map fun x=>if 2^l+x.1=id then x.2 else 0).sum:=by
 intro mb
 induction mb with
 |nil=>intro _ id;rfl
 |cons x mb ih=>
  intro h id;obtain⟨h1,h2⟩:=List.pairwise_cons.1 h;have i:=ih h2 id;simp only [List.map_cons,List.sum_cons];show getR ((2^l+x.1,x.2) :: leaves l mb) id=_
  simp only [getR];by_cases e:2^l+x.1=id
  ·rw [if_pos e,if_pos e]
   have: (mb.map fun y=>if 2^l+y.1=id then y.2 else 0).sum=0:=by
    rw [←i];refine getR_none fun y hy=> ?_;obtain⟨z,hz,rfl⟩:=List.mem_map.1 hy;have:=h1 z hz;show 2^l+z.1≠id
    omega
   omega
  ·rw [if_neg e,if_neg e];omega
theorem Held.merge {l:Nat} {k:Int} {ra rb rc ma mb:List Nd} (ha:Held l k ra ma) (hb:Held l k rb mb) (hk:1≤k) (hr:SumOf ra rb rc) (hs:sumR ra+sumR rb≤72057594037927935) :Held l k rc (pourL ma mb):=by
 have e1:=ha.sum;have e2:=hb.sum;obtain⟨i1,_,i3⟩:=pour_leaves ha.bag hb.bag.val (by omega);exact ha.join hb hk hr i1 (fun id=>by rw [i3,leaves_get hb.bag.up]) hs
def addAll (r L:List Nd) :List Nd:=L.foldl (fun r x=>addR r x.1 x.2) r
def atR (L:List Nd) (id:Int) :Int:=(L.map fun x=>if x.1=id then x.2 else 0).sum
theorem atR_append (a b:List Nd) (id:Int) :atR (a ++ b) id=atR a id+atR b id:=by simp [atR]
theorem atR_perm {a b:List Nd} (h:a.Perm b) (id:Int) :atR a id=atR b id:=by
 induction h with
 |nil=>rfl
 |cons x _ ih=>simp only [atR,List.map_cons,List.sum_cons] at ih⊢;omega
 |swap x y l=>simp only [atR,List.map_cons,List.sum_cons];omega
 |trans _ _ i1 i2=>omega
theorem fold_sumR_perm {a b:List Nd} (h:a.Perm b) :sumR a=sumR b:=by
 induction h with
 |nil=>rfl
 |cons x _ ih=>simp only [sumR];omega
 |swap x y l=>simp only [sumR];omega
 |trans _ _ i1 i2=>omega
theorem atR_roll {r:List Nd} (h:Roll r) (id:Int) :atR r id=getR r id:=by
 induction r with
 |nil=>rfl
 |cons x r ih=>
  obtain⟨h1,h2⟩:=h;obtain⟨p1,p2⟩:=List.pairwise_cons.1 h1;have i:=ih ⟨p2,fun y hy=>h2 y (by simp [hy])⟩;simp only [atR,List.map_cons,List.sum_cons,getR] at i⊢;by_cases e:x.1=id
  ·rw [if_pos e,if_pos e,i,getR_none fun y hy=>by have:=p1 y hy;omega];omega
  ·rw [if_neg e,if_neg e,i];omega
theorem addAll_roll: ∀{L r:List Nd},Roll r→(∀x∈L,1≤x.1∧1≤x.2)→Roll (addAll r L)∧sumR (addAll r L) =sumR r+sumR L∧∀id,getR (addAll r L) id=getR r id+atR L id:=by
 intro L
 induction L with
 |nil=>intro r h _;exact⟨h,by simp [addAll,sumR],fun id=>by simp [addAll,atR]⟩
 |cons x L ih=>
  intro r h hL;have hx:=hL x (by simp);obtain⟨i1,i2,i3⟩:=ih (h.add hx.1 hx.2) (fun y hy=>hL y (by simp [hy]));refine⟨i1,?_,fun id=> ?_⟩
  ·show sumR (addAll (addR r x.1 x.2) L) =_
   rw [i2,sumR_add];simp only [sumR];omega
  ·show getR (addAll (addR r x.1 x.2) L) id=_
   rw [i3,getR_add h];simp only [atR,List.map_cons,List.sum_cons];by_cases e:id=x.1
   ·subst e;simp only [if_true];omega
   ·rw [if_neg e,if_neg (Ne.symm e)];omega
theorem fold_sum {a b:List Nd} (ha:Roll a) (hb:Roll b) :SumOf a b (addAll [] (msort (a ++ b))):=by
 have hp:=msort_perm (a ++ b)
 obtain⟨i1,i2,i3⟩:=addAll_roll (L:=msort (a ++ b)) (r:= []) ⟨.nil,by simp⟩ fun x hx=>by
  rcases List.mem_append.1 (hp.mem_iff.1 hx) with h|h
  ·exact ha.2 x h
  ·exact hb.2 x h
 refine⟨i1,fun id=> ?_,?_⟩
 ·rw [i3,atR_perm hp,atR_append,atR_roll ha,atR_roll hb];simp [getR]
 ·rw [i2,fold_sumR_perm hp,sumR_append];simp [sumR]
theorem addR_new: ∀{L:List Nd} {id c:Int},(∀z∈L,z.1<id)→addR L id c=L ++ [(id,c)]:=by
 intro L
 induction L with
 |nil=>intro id c _;simp [addR]
 |cons z L ih=>
  intro id c h;have h1:=h z (by simp);simp only [addR];rw [if_neg (by omega),if_neg (by omega),ih fun y hy=>h y (by simp [hy])]
  rfl
theorem addR_bump: ∀{L:List Nd} {y:Nd} {c:Int},(∀z∈L,z.1<y.1)→addR (L ++ [y]) y.1 c=L ++ [(y.1,y.2+c)]:=by
 intro L
 induction L with
 |nil=>intro y c _;simp [addR]
 |cons z L ih=>
  intro y c h;have h1:=h z (by simp);simp only [List.cons_append,addR];rw [if_neg (by omega),if_neg (by omega),ih fun x hx=>h x (by simp [hx])]
theorem addAll_take {S:List Nd} {q:Nat} (h:q<S.length) :addAll [] (S.take (q+1)) =addR (addAll [] (S.take q)) S[q].1 S[q].2:=by
 unfold addAll;rw [List.take_succ_eq_append_getElem h,List.foldl_append]
 rfl
theorem addAll_le: ∀{L r:List Nd} {m:Int},(∀z∈r,z.1≤m)→(∀z∈L,z.1≤m)→∀z∈addAll r L,z.1≤m:=by
 intro L
 induction L with
 |nil=>intro r m h _;exact h
 |cons x L ih=>
  intro r m h hL;refine ih (r:=addR r x.1 x.2) (fun z hz=> ?_) (fun y hy=>hL y (by simp [hy]));have hx:=hL x (by simp)
  have key: ∀{r:List Nd},(∀z∈r,z.1≤m)→∀z∈addR r x.1 x.2,z.1≤m:=by
   intro r
   induction r with
   |nil=>intro _ z hz;simp [addR] at hz;subst hz;exact hx
   |cons y r ih2=>
    intro h z hz;simp only [addR] at hz
    split at hz
    ·rcases List.mem_cons.1 hz with rfl|hz
     ·exact hx
     ·exact h z (by simp [hz])
    ·split at hz
     ·rcases List.mem_cons.1 hz with rfl|hz
      ·exact hx
      ·exact h z hz
     ·rcases List.mem_cons.1 hz with rfl|hz
      ·exact h _ (by simp)
      ·exact ih2 (fun w hw=>h w (by simp [hw])) z hz
  exact key h z hz
def wayOf (n a b:Nat) :Nat:=(b+n - a) % n
theorem way_step {n a b:Nat} (ha:a<n) (hb:b<n) :b=step n a (wayOf n a b)∧wayOf n a b<n:=by
 refine⟨?_,Nat.mod_lt _ (by omega)⟩;unfold step wayOf;rw [Nat.add_mod_mod];have:a+ (b+n - a) =b+n:=by omega
 rw [this,Nat.add_mod_right,Nat.mod_eq_of_lt hb]
theorem way_of {n a d:Nat} (ha:a<n) (hd:d<n) :wayOf n a (step n a d) =d:=by
 have h:=way_step (b:=step n a d) ha (step_lt (by omega));exact(step_inj hd h.2 h.1).symm
theorem step_step {n h c s:Nat} :step n (step n h c) s=step n h (c+s):=by
 unfold step;rw [Nat.mod_add_mod,Nat.add_assoc]
structure Del (b:Nat) (S0:List Nd) (h0 E:Nat) (S m:List Nd) (c t:Nat) :Prop where
 len:S.length=2^b
 perm: (S.filter full).Perm m
 hole: ∀y,S[step (2^b) h0 c]? =some y→y.2=0
 ct:c<t
 tE:t≤E
 En:E<2^b
 h0n:h0<2^b
 same: ∀t',t≤t'→t'<2^b→S[step (2^b) h0 t']? =S0[step (2^b) h0 t']?
 free: ∀y,S0[step (2^b) h0 E]? =some y→y.2=0
 mid: ∀t',c<t'→t'<t→∀y,S[step (2^b) h0 t']? =some y→y.2≠0→∃d,d<2^b∧step (2^b) h0 t'=step (2^b) (homeOf b y.1) d∧∀d'<d,∀z,S[step (2^b) (homeOf b y.1) d']? =some z→z.2≠0
 reach: ∀i x,S[i]? =some x→x.2≠0→∃d,d<2^b∧i=step (2^b) (homeOf b x.1) d∧∀d'<d,step (2^b) (homeOf b x.1) d'=step (2^b) h0 c∨∀y,S[step (2^b) (homeOf b x.1) d']? =some y→y.2≠0
theorem get_set' {S:List Nd} {i j:Nat} {x:Nd} (h:j≠i) : (S.set i x)[j]? =S[j]? :=by
 rw [List.getElem?_set,if_neg (fun e=>h e.symm)]
theorem get_set_at {S:List Nd} {i:Nat} {x:Nd} (h:i<S.length) : (S.set i x)[i]? =some x:=by
 rw [List.getElem?_set,if_pos rfl,if_pos h]
theorem filter_set_free {S:List Nd} {i:Nat} {y x:Nd} (hi:S[i]? =some y) (hy:y.2≠0) (hx:x.2=0) : (S.filter full).Perm (y :: (S.set i x).filter full):=by
 have h1:=set_split hi;have hlt:=(List.getElem?_eq_some_iff.1 hi).1;have h2:S.set i x=S.take i ++ x :: S.drop (i+1):=by rw [List.set_eq_take_append_cons_drop,if_pos hlt]
 rw [h2,List.filter_append,List.filter_cons,if_neg (by simp [full,hx])]
 conv=>lhs;rw [h1]
 rw [List.filter_append,List.filter_cons,if_pos (by simp [full,hy])];exact List.perm_middle
section
variable {b:Nat} {S0 S m:List Nd} {h0 E c t:Nat}
theorem Del.start (h:PInv b S m) {x:Nd} (hx:S[h0]? =some x) (hx0:x.2≠0) (hm:m.length<2^b) {m':List Nd} (hm':m.Perm (x :: m')) :
 ∃E,Del b (S.set h0 (0,0)) h0 E (S.set h0 (0,0)) m' 0 1:=by
 have hlt:=(List.getElem?_eq_some_iff.1 hx).1;have hn:h0<2^b:=by rw [←h.len];exact hlt
 obtain⟨j,y,hj,hy⟩:=h.free hm;have hjn:j<2^b:=by rw [←h.len];exact(List.getElem?_eq_some_iff.1 hj).1
 have hne:j≠h0:=by rintro rfl;rw [hx] at hj;cases hj;exact hx0 hy
 obtain⟨e,he,hje⟩:=step_onto hjn hn;have hs0:step (2^b) h0 0=h0:=by unfold step;rw [Nat.add_zero,Nat.mod_eq_of_lt hn]
 have he0:e≠0:=by rintro rfl;exact hne (hje.trans hs0)
 refine⟨e,by rw [List.length_set];exact h.len,?_,?_,by omega,by omega,he,hn,fun _ _ _=>rfl,?_,fun t' h1 h2=>by omega,?_⟩
 ·exact((filter_set_free hx hx0 (x:=(0,0)) rfl).symm.trans (h.perm.trans hm')).cons_inv
 ·intro y hy
  rw [hs0,get_set_at hlt] at hy
  cases hy;rfl
 ·intro z hz
  rw [←hje,get_set' hne,hj] at hz
  cases hz;exact hy
 ·intro i z hi hz
  rcases get_set hi with ⟨rfl,rfl⟩ | ⟨hi0,hi⟩
  ·exact absurd rfl hz
  ·obtain⟨d,hd,e1,hw⟩:=h.reach i z hi hz
   refine⟨d,hd,e1,fun d' hd'=> ?_⟩;by_cases hp:step (2^b) (homeOf b z.1) d'=h0
   ·left;rw [hp,hs0]
   ·right
    intro y hy;rw [get_set' hp] at hy;exact hw d' hd' y hy
theorem Del.ne (h:Del b S0 h0 E S m c t) {x:Nd} (hx:S[step (2^b) h0 t]? =some x) (hx0:x.2≠0) :t<E:=by
 refine Nat.lt_of_le_of_ne h.tE ?_;rintro rfl;rw [h.same t (Nat.le_refl _) h.En] at hx;exact hx0 (h.free x hx)
theorem Del.stay (h:Del b S0 h0 E S m c t) (hb:b≤64) {x:Nd} (hx:S[step (2^b) h0 t]? =some x) (hx0:x.2≠0) (hw:wayOf (2^b) (homeOf b x.1) (step (2^b) h0 t) <wayOf (2^b) (homeOf b x.1) (step (2^b) h0 c)) :
 Del b S0 h0 E S m c (t+1):=by
 have hE:=h.ne hx hx0;have hct:=h.ct;refine⟨h.len,h.perm,h.hole,by omega,hE,h.En,h.h0n,fun t' h1 h2=>h.same t' (by omega) h2,h.free,?_,h.reach⟩;intro t' h1 h2 y hy hy0;rcases Nat.lt_or_eq_of_le (Nat.le_of_lt_succ h2) with hlt|rfl
 ·exact h.mid t' h1 hlt y hy hy0
 ·rw [hx] at hy;cases hy
  obtain⟨d,hd,e1,hr⟩:=h.reach _ x hx hx0;refine⟨d,hd,e1,fun d' hd' z hz=> ?_⟩;rcases hr d' hd' with hp|hp
  ·have hh:=homeOf_lt hb x.1
   rw [e1,way_of hh hd,←hp,way_of hh (by omega)] at hw;omega
  ·exact hp z hz
theorem Del.move (h:Del b S0 h0 E S m c t) (hb:b≤64) {x:Nd} (hx:S[step (2^b) h0 t]? =some x) (hx0:x.2≠0) (hw:wayOf (2^b) (homeOf b x.1) (step (2^b) h0 c)≤wayOf (2^b) (homeOf b x.1) (step (2^b) h0 t)) :
 Del b S0 h0 E ((S.set (step (2^b) h0 c) x).set (step (2^b) h0 t) (0,0)) m t (t+1):=by
 have hE:=h.ne hx hx0;have hct:=h.ct;have hn:=h.En;have hp:=Nat.two_pow_pos b;have hh:=homeOf_lt hb x.1;have hL:=h.len;have hci:step (2^b) h0 c<S.length:=by rw [hL];exact step_lt hp
 have hti:step (2^b) h0 t<S.length:=by rw [hL];exact step_lt hp
 have hne:step (2^b) h0 c≠step (2^b) h0 t:=fun e=>by have:=step_inj (by omega) (by omega) e;omega
 obtain⟨y,hy⟩ : ∃y,S[step (2^b) h0 c]? =some y:=⟨_,List.getElem?_eq_getElem hci⟩;have hy0:=h.hole y hy;have g1: ∀j,j≠step (2^b) h0 c→j≠step (2^b) h0 t→((S.set (step (2^b) h0 c) x).set (step (2^b) h0 t) (0,0))[j]? =S[j]? :=fun j h1 h2=>by rw [get_set' h2,get_set' h1]
 have g2: ((S.set (step (2^b) h0 c) x).set (step (2^b) h0 t) (0,0))[step (2^b) h0 c]? =some x:=by rw [get_set' hne,get_set_at hci]
 have g3: ((S.set (step (2^b) h0 c) x).set (step (2^b) h0 t) (0,0))[step (2^b) h0 t]? =some (0,0):=get_set_at (by rw [List.length_set];exact hti);obtain⟨d,hd,e1,hr⟩:=h.reach _ x hx hx0;obtain⟨dh,edh,hdh⟩ : ∃dh,step (2^b) h0 c=step (2^b) (homeOf b x.1) dh∧dh<2^b:=⟨_,way_step hh (step_lt hp)⟩;rw [e1,way_of hh hd,edh,way_of hh hdh] at hw
 have hlt:dh<d:=by
  refine Nat.lt_of_le_of_ne hw ?_;rintro rfl;exact hne (edh.trans e1.symm)
 refine⟨by rw [List.length_set,List.length_set];exact hL,?_,?_,by omega,hE,hn,h.h0n,?_,h.free,fun t' h1 h2=>by omega,?_⟩
 ·have p1:=filter_set_new hy hy0 hx0
  have q: (S.set (step (2^b) h0 c) x)[step (2^b) h0 t]? =some x:=by rw [get_set' (fun e=>hne e.symm)];exact hx
  have p2:=filter_set_free q hx0 (x:=(0,0)) rfl;exact((p2.symm.trans p1).cons_inv).trans h.perm
 ·intro z hz
  rw [g3] at hz
  cases hz;rfl
 ·intro t' h1 h2
  rw [g1 _ (fun e=>by have:=step_inj (by omega) (by omega) e;omega) (fun e=>by have:=step_inj (by omega) (by omega) e;omega)];exact h.same t' (by omega) h2
 ·intro i z hi hz
  by_cases hit:i=step (2^b) h0 t
  ·subst hit;rw [g3] at hi;cases hi;exact absurd rfl hz
  ·by_cases hic:i=step (2^b) h0 c
   ·subst hic
    rw [g2] at hi;cases hi;refine⟨dh,hdh,edh,fun d' hd'=>.inr fun y hy=> ?_⟩;have n1:step (2^b) (homeOf b x.1) d'≠step (2^b) h0 c:=fun e=>by rw [edh] at e;have:=step_inj (by omega) hdh e;omega
    have n2:step (2^b) (homeOf b x.1) d'≠step (2^b) h0 t:=fun e=>by rw [e1] at e;have:=step_inj (by omega) hd e;omega
    rw [g1 _ n1 n2] at hy;rcases hr d' (by omega) with hq|hq
    ·exact absurd hq n1
    ·exact hq y hy
   ·rw [g1 i hic hit] at hi
    obtain⟨d2,hd2,e2,hr2⟩:=h.reach i z hi hz;refine⟨d2,hd2,e2,fun d' hd'=> ?_⟩;by_cases n2:step (2^b) (homeOf b z.1) d'=step (2^b) h0 t
    ·exact .inl n2
    ·right
     intro y hy;by_cases n1:step (2^b) (homeOf b z.1) d'=step (2^b) h0 c
     ·rw [n1,g2] at hy;cases hy;exact hx0
     ·rw [g1 _ n1 n2] at hy
      rcases hr2 d' hd' with hq|hq
      ·exact absurd hq n1
      ·exact hq y hy
theorem Del.done (h:Del b S0 h0 E S m c t) {x:Nd} (hx:S[step (2^b) h0 t]? =some x) (hx0:x.2=0) (hi: (m.map (·.1)).Nodup) (hpos: ∀x∈m,1≤x.2) :PInv b S m:=by
 have hct:=h.ct;have hn:=h.En;have htE:=h.tE;refine⟨h.len,h.perm,hi,hpos,fun i z hz hz0=> ?_⟩;obtain⟨d,hd,e1,hr⟩:=h.reach i z hz hz0;by_cases hh: ∃d',d'<d∧step (2^b) (homeOf b z.1) d'=step (2^b) h0 c
 ·obtain⟨d',hd',e2⟩:=hh
  have key: ∀s,step (2^b) (homeOf b z.1) (d'+s) =step (2^b) h0 (c+s):=fun s=>by rw [←step_step,e2,step_step]
  have ei:i=step (2^b) h0 (c+ (d - d')):=by rw [e1,←key];congr 1;omega
  rcases Nat.lt_trichotomy (c+ (d - d')) t with hlt|heq|hgt
  ·rw [ei] at hz
   obtain⟨d2,h1,h2,h3⟩:=h.mid _ (by omega) hlt z hz hz0;exact⟨d2,h1,ei.trans h2,h3⟩
  ·rw [ei,heq,hx] at hz
   cases hz
   exact absurd hx0 hz0
  ·have h3:=hr (d'+ (t - c)) (by omega)
   rw [key,show c+ (t - c) =t by omega] at h3;rcases h3 with h3|h3
   ·have:=step_inj (by omega) (by omega) h3;omega
   ·exact absurd hx0 (h3 x hx)
 ·refine⟨d,hd,e1,fun d' hd' y hy=> ?_⟩
  rcases hr d' hd' with hq|hq
  ·exact absurd ⟨d',hd',hq⟩ hh
  ·exact hq y hy
end
theorem isNode_nat' {l:Nat} {id:Int} (h:isNode l id=true) : ∃k:Nat,id=k∧1≤k∧k<2*2^l:=by
 obtain⟨n,x,hn,rfl,_,_,h1,h2⟩:=isNode_nat h;obtain rfl:n=l:=by omega
 exact⟨x,rfl,h1,by exact_mod_cast h2⟩
theorem getR_out {l:Nat} {r:List Nd} (hn: ∀x∈r,isNode l x.1=true) {id:Int} (h:isNode l id=false) :getR r id=0:=getR_none fun x hx he=>by
 have:=hn x hx;rw [he,h] at this
 cases this
theorem dense_Len (w:World) (g l:Nat) (r:List Nd) (F:Nat→Prop) (h:DenseAt w g l r F) :Calls Tryz.prog 264 #[.pointer (some ⟨g,0,none⟩)] w fun e w'=>e=.returned (.int .i64 r.length)∧Below w.heap.size w w':=by
 obtain⟨v,C,hh,_⟩:=h;have c:=bC hh;have z:=lB hh;clear hh
 go_enter Tryz.func264,Tryz.ntmps264
 go_wp2_with fail;go_ret;exact⟨rfl,bE⟩
theorem dense_Get (w:World) (g l:Nat) (r:List Nd) (F:Nat→Prop) (h:DenseAt w g l r F) (id:Int) (hn: ∀x∈r,isNode l x.1=true) :Calls Tryz.prog 212 #[.pointer (some ⟨g,0,none⟩),.int .i64 id] w fun e w'=>e=.returned (.int .i64 (getR r id))∧Below w.heap.size w w':=by
 obtain⟨v,C,hh,ho,hl,hcc,rfl⟩:=h;have cc:=bC hh;have zg:=lB hh;have H:=LH hh
 cases hN:isNode l id
 ·rw [getR_out hn hN]
  clear hh ho hl hcc;have HN:=LH hN;clear hN hn
  go_enter Tryz.func212,Tryz.ntmps212
  go_wp2_with fail;refine(twig_Right _ l id).mono ?_;rintro e w1 ⟨rfl,hb1⟩;have B1:Below w.heap.size w w1:=Below.then_ bE hb1;have s1:=B1.size;rw [HN.out];go_wp2_with fail;go_ret;exact⟨rfl,bE⟩
 ·obtain⟨k,rfl,hk1,hk2⟩:=isNode_nat' hN
  obtain⟨b,off,cap,rfl,hcap⟩:=own_at0 ho (by omega);have d:=ho.slT.cell_at (k:=k) (by omega) 0 (.int .i64 C[k]) rfl;have hck:=hcc k (by omega);rw [List.getElem?_eq_getElem (by omega)] at hck
  injection hck with hck
  rw [hck] at d;simp only [Nat.mul_one,Nat.add_zero] at d;have zb:=(ho.lt b rfl).2;have i1: (k:Int) < (C.length:Int):=by omega
  generalize getR r k=n at d⊢;have HN:=LH hN;clear hh ho hl hcc hck hn hN
  go_enter Tryz.func212,Tryz.ntmps212
  go_wp2_with fail;refine(twig_Right _ l k).mono ?_;rintro e w1 ⟨rfl,hb1⟩;have B1:Below w.heap.size w w1:=Below.then_ bE hb1;have s1:=B1.size;rw [HN.out];have k1:=bB H.out hb1;have cc1:=bC k1;have d1:=(hb1.cell (p:=⟨b,off+k,none⟩) zb).trans d;have zg1:=lB k1;clear cc d k1;go_wp2_with fail;go_ret;exact⟨rfl,bE⟩
theorem len_del {r:List Nd} (id:Int) : ((delR r id).length:Int) =if getR r id=0∧(∀x∈r,x.1≠id) then (r.length:Int) else (r.length:Int) - (if ∃x∈r,x.1=id then 1 else 0):=by
 induction r with
 |nil=>simp [delR,getR]
 |cons x r ih=>
  simp only [delR];by_cases hx:x.1=id
  ·rw [if_pos hx]
   have h1: ¬(getR (x :: r) id=0∧∀y∈x :: r,y.1≠id):=fun h=>h.2 x (by simp) hx;have h2: ∃y∈x :: r,y.1=id:=⟨x,by simp,hx⟩;rw [if_neg h1,if_pos h2];simp
  ·rw [if_neg hx]
   have e1:getR (x :: r) id=getR r id:=by simp only [getR];rw [if_neg hx]
   have e2: (∀y∈x :: r,y.1≠id)↔∀y∈r,y.1≠id:=by simp [hx]
   have e3: (∃y∈x :: r,y.1=id)↔∃y∈r,y.1=id:=by simp [hx]
   simp only [List.length_cons,e1,e2,e3]
   push_cast
   rw [ih]
   split <;> omega
theorem len_del_pos {r:List Nd} {id:Int} (h:getR r id≠0) : ((delR r id).length:Int) = (r.length:Int) - 1:=by
 rw [len_del]
 have: ∃x∈r,x.1=id:=by
  rcases Classical.em (∃x∈r,x.1=id) with h'|h'
  ·exact h'
  ·exact absurd (getR_none fun x hx he=>h' ⟨x,hx,he⟩) h
 rw [if_neg (fun h'=>h h'.1),if_pos this]
theorem dense_taken {w:World} {g l b off cap k:Nat} {r r':List Nd} {C:List Int} {u m:Int} {v0 v1 v2:Value} (hh:w.heap[g]? =some (.cells #[v0,v1,v2,.slice (some ⟨b,off,none⟩) C.length cap] 219 (0,0)))
 (ho:Own w 0 3 encZ (.slice (some ⟨b,off,none⟩) C.length cap) C) (hl:C.length=2*2^l) (hc: ∀i:Nat,i<C.length→C[i]? =some (getR r i)) (hk:k<C.length)
 (hr: ∀j:Int,getR r' j=if j=k then 0 else getR r j) (hu: (r'.length:Int) =u) (hm:sumR r'=m) (hv0:v0=.int .i64 l:=by rfl) :
 DenseAt (((w.setCell ⟨b,off+k,none⟩ (.int .i64 0)).setCell ⟨g,1,none⟩ (.int .i64 u)).setCell ⟨g,2,none⟩ (.int .i64 m)) g l r' (foot2 g (.slice (some ⟨b,off,none⟩) C.length cap)):=by
 have hne:=ho.ne_block hh (by decide);have hgb:g≠b:=fun he=>hne (by rw [he];rfl);have o1:=ho.setElem k 0 hk (by decide) (.int .i64 0) 0 rfl;rw [Nat.mul_one,Nat.add_zero] at o1;subst hv0;have k1: (w.setCell ⟨b,off+k,none⟩ (.int .i64 0)).heap[g]? =_:=(Below.heap_setCell _ _ _ _ hgb).trans hh;have k2:=zH (i:=1) k1 (.int .i64 u);have o2:=o1.setCell (p:=⟨g,1,none⟩) (o1.ne_block k1 (by decide)) (.int .i64 u);have k3:=zH (i:=2) k2 (.int .i64 m);have o3:=o2.setCell (p:=⟨g,2,none⟩) (o2.ne_block k2 (by decide)) (.int .i64 m);subst hu hm;refine⟨_,C.set k 0,by rw [k3];rfl,o3,by simpa using hl,fun i hi=> ?_,rfl⟩;rw [List.length_set] at hi;rw [List.getElem?_set];by_cases hik:k=i
 ·subst hik
  rw [if_pos rfl,if_pos hi,hr,if_pos rfl]
 ·rw [if_neg hik,hc i hi,hr,if_neg (by omega)]
theorem del_none' {r:List Nd} {id:Int} (h: ∀x∈r,x.1≠id) :delR r id=r:=by
 induction r with
 |nil=>rfl
 |cons x r ih=>
  simp only [delR];rw [if_neg (h x (by simp)),ih fun y hy=>h y (by simp [hy])]
theorem del_zero {r:List Nd} (hr:Roll r) {id:Int} (h:getR r id=0) :delR r id=r:=del_none' fun x hx he=>by
 have:=getR_mem hr hx;have:=(hr.2 x hx).2;rw [he] at*;omega
theorem dense_Take (w:World) (g l:Nat) (r:List Nd) (F:Nat→Prop) (h:DenseAt w g l r F) (hf:Fits l r) (id:Int) (hn: ∀x∈r,isNode l x.1=true) :
 Calls Tryz.prog 320 #[.pointer (some ⟨g,0,none⟩),.int .i64 id] w fun e w'=>e=.returned (.int .i64 (getR r id))∧DenseAt w' g l (delR r id) F∧Turn F w w':=by
 have HG:=LH (dense_Get w g l r F h id hn);by_cases h0:getR r id=0
 ·rw [h0] at HG⊢
  rw [del_zero hf.roll h0];have H:=LH h;clear h hf hn h0
  go_enter Tryz.func320,Tryz.ntmps320
  go_wp2_with fail;refine HG.out.mono ?_;rintro e w1 ⟨rfl,hb1⟩;have HB:=LH hb1;go_wp2_with fail;go_ret;exact⟨rfl,H.out.below HB.out,.of_below HB.out⟩
 ·have hN:isNode l id=true:=by
   cases hN:isNode l id
   ·exact absurd (getR_out hn hN) h0
   ·rfl
  obtain⟨k,rfl,hk1,hk2⟩:=isNode_nat' hN;have hp:=getR_nonneg hf.roll k;have hle:=getR_le_sum hf.roll k;have hs:=hf.sum;have hlen:=len_del_pos h0;have hsum:=sumR_del hf.roll k;have hls:=len_le_sum hf.roll;have hgd:=getR_del hf.roll k;have hpos:0<getR r k:=by omega
  obtain⟨v,C,hh,ho,hl,hcc,rfl⟩:=h;obtain⟨b,off,cap,rfl,hcap⟩:=own_at0 ho (by omega);have H:=LH hh;have HO:=LH ho;have HS:=LH (And.intro hl (And.intro hcc (And.intro hgd (And.intro hlen hsum))));have zb:=(ho.lt b rfl).2;have i1: (k:Int) < (C.length:Int):=by omega
  have hkl:k<C.length:=by omega
  have hrl:0≤(r.length:Int) - 1:=by have:=(delR r k).length;omega
  clear hh ho hgd hlen hsum hf hn hN hl hcc;generalize getR r k=n at HG hp hle h0 hpos HS⊢
  go_enter Tryz.func320,Tryz.ntmps320
  go_wp2_with fail;refine HG.out.mono ?_;rintro e w1 ⟨rfl,hb1⟩;have HB:=LH hb1;have k1:=bB H.out hb1;have o1:=HO.out.below hb1;have cc1:=bC k1;have cf1:=bF k1;have f1:=o1.frozen (off+k);have zg1:=lB k1;have zb1:=(o1.lt b rfl).2;have hnb:g≠b:=fun he=>o1.ne_block k1 (by decide) (by rw [he];rfl);have hnb':b≠g:=fun he=>hnb he.symm;have d1:=o1.slT.cell_at (k:=k) (by omega) 0 (.int .i64 C[k]) rfl;simp only [Nat.mul_one,Nat.add_zero] at d1;have K1:=LH k1;have O1:=LH o1;clear k1 o1 hb1;go_wp2_with fail;go_ret;refine⟨rfl,?_,?_⟩
  ·exact dense_taken (r':=delR r k) K1.out O1.out HS.out.1 HS.out.2.1 hkl HS.out.2.2.1 HS.out.2.2.2.1 HS.out.2.2.2.2
  ·refine Turn.setCell (Turn.setCell (Turn.setCell (.of_below HB.out) ?_ _) ?_ _) ?_ _
   ·exact .inl (.inr rfl)
   ·exact .inl (.inl rfl)
   ·exact .inl (.inl rfl)
theorem mask_any (i:Nat) (hi:i≤62) (x:Int) :bits .and .i64 x (2^i - 1) =x % 2^i:=by
 have hi64:i+ (64 - i) =64:=by omega
 have hd: (2:Int) ^i ∣ 2^64:=⟨2^ (64 - i),by rw [←Int.pow_add,hi64]⟩;have hpos:0<2^i:=Nat.two_pow_pos i
 have hc: ((2:Int) ^i - 1) = ((2^i - 1:Nat) :Int):=by
  rw [Int.natCast_sub hpos];simp
 have e0:bits .and .i64 x ((2^i - 1:Nat) :Int) =IntKind.i64.wrap (((BitVec.ofInt 64 x) &&& (BitVec.ofInt 64 ((2^i - 1:Nat) :Int))).toNat:Int):=rfl;rw [hc,e0,BitVec.toNat_and,BitVec.toNat_ofInt,BitVec.ofInt_natCast,BitVec.toNat_ofNat]
 have hle:2^i≤4611686018427387904:=by
  have:=Nat.pow_le_pow_right (n:=2) (by decide) hi
  simpa using this
 have hm: (2^i - 1) % 2^64=2^i - 1:=Nat.mod_eq_of_lt (by
  have: (2:Nat) ^64=18446744073709551616:=by decide
  rw [this];generalize 2^i=p at*;omega)
 rw [hm,Nat.and_two_pow_sub_one_eq_mod]
 have e: (((x % (2^64:Nat)).toNat % 2^i:Nat) :Int) =x % 2^i:=by
  have h64: ((2^64:Nat) :Int) =2^64:=Int.natCast_pow 2 64;have hn: (0:Int)≤x % ((2^64:Nat) :Int):=Int.emod_nonneg _ (Int.ne_of_gt (Int.natCast_pos.2 (Nat.two_pow_pos 64)));have t:=Int.toNat_of_nonneg hn;rw [Int.natCast_emod,t,h64];have p2: ((2^i:Nat) :Int) =2^i:=Int.natCast_pow 2 i;rw [p2];exact Int.emod_emod_of_dvd x hd
 rw [e];have h0:=Int.emod_nonneg x (show (2:Int) ^i≠0 from Int.ne_of_gt (Int.pow_pos (by decide)));have h1:=Int.emod_lt_of_pos x (show (0:Int) <2^i from Int.pow_pos (by decide))
 have h2: (2:Int) ^i≤4611686018427387904:=by
  have h62: (2:Int) ^62=4611686018427387904:=by decide
  rw [←h62];exact pow_le' hi
 refine wraps_i64 _ h0 ?_;have: (2:Int) ^63=9223372036854775808:=by decide
 rw [this];generalize x % 2^i=y at*;generalize (2:Int) ^i=p at*;omega
theorem way_mask (i j n b:Nat) (hn:n=2^b) (hb:b≤40) (hi:i<n) (hj:j<n) :bits .and .i64 ((j:Int) - (i:Int)) ((n:Int) - 1) = (wayOf n i j:Nat):=by
 have e: ((n:Int) - 1) =2^b - 1:=by rw [hn];push_cast;rfl
 rw [e,mask_any b (by omega)];unfold wayOf;rw [Int.natCast_emod,Int.natCast_sub (by omega),Int.natCast_add,hn]
 push_cast
 rw [show (j:Int) +2^b - i= (j - i) +2^b by omega,Int.add_emod_right]
theorem probe_way (w:World) (g n b i j:Nat) (cs:Array Value) (A:Option Addr) (cap:Nat) (hh:w.heap[g]? =some (.cells cs 221 (0,0))) (hv:cs[4]? =some (.slice A n cap)) (hn:n=2^b) (hb:b≤35) (hi:i<n) (hj:j<n) :
 Calls Tryz.prog 325 #[.pointer (some ⟨g,0,none⟩),.int .i64 i,.int .i64 j] w fun e w'=>e=.returned (.int .i64 (wayOf n i j:Nat))∧Below w.heap.size w w':=by
 have c:=(bC hh 4).trans hv;have hN:n≤34359738368:=by rw [hn];have:=Nat.pow_le_pow_right (n:=2) (by decide) hb;simpa using this
 have hp:0<n:=by rw [hn];exact Nat.two_pow_pos b
 have HN:=LH hn;clear hh hv hn
 go_enter Tryz.func325,Tryz.ntmps325
 go_wp2_with fail;go_ret;exact⟨ret_int (way_mask i j n b HN.out (by omega) (by omega) (by omega)),bE⟩
theorem probe_Len (w:World) (g l:Nat) (r:List Nd) (F:Nat→Prop) (h:ProbeAt w g l r F) :Calls Tryz.prog 265 #[.pointer (some ⟨g,0,none⟩)] w fun e w'=>e=.returned (.int .i64 r.length)∧Below w.heap.size w w':=by
 obtain⟨v,S,b,hh,_⟩:=h;have c:=bC hh;have z:=lB hh;clear hh
 go_enter Tryz.func265,Tryz.ntmps265
 go_wp2_with fail;go_ret;exact⟨rfl,bE⟩
theorem probe_Get (w:World) (g l:Nat) (r:List Nd) (F:Nat→Prop) (h:ProbeAt w g l r F) (hl:l≤48) (id:Int) (hn: ∀x∈r,isNode l x.1=true) :Calls Tryz.prog 213 #[.pointer (some ⟨g,0,none⟩),.int .i64 id] w fun e w'=>e=.returned (.int .i64 (getR r id))∧Below w.heap.size w w':=by
 obtain⟨v,S,b,hh,ho,hI,hq3,hq34,hfree,rfl⟩:=h
 cases hN:isNode l id
 ·rw [getR_out hn hN]
  have HN:=LH hN;have H:=LH hh;clear hh ho hI hN hn hfree
  go_enter Tryz.func213,Tryz.ntmps213
  go_wp2_with fail;refine(probe_right _ g l _ id H.out rfl).mono ?_;rintro e w1 ⟨rfl,hb1⟩;have B1:Below w.heap.size w w1:=Below.then_ bE hb1;have s1:=B1.size;rw [HN.out];go_wp2_with fail;go_ret;exact⟨rfl,bE⟩
 ·have hid:=isNode_lt hN
  have hkb:id≤562949953421312:=by have:=pow_48 hl;have h3:=hid.2;omega
  have hid1:=hid.1;obtain⟨sb,off,cap,rfl,hcap⟩:=own_at0 ho (by rw [hI.len];exact Nat.two_pow_pos b);have hm:r.length<2^b:=by have:=Nat.two_pow_pos b;omega
  have hl:=hI.len;have hSl:S.length≤34359738368:=by rw [hl];have:=Nat.pow_le_pow_right (n:=2) (by decide) (show b≤35 by omega);simpa using this
  have cc:=bC hh;have H:=LH hh;have HO:=LH ho;have HI:=LH hI;have HF:=LH (And.intro hm (And.intro hfree hl));have HN:=LH hN;have HG:=LH (fun i d (hL:LookAt S b id i d)=>hL.get hI);generalize getR r id=n at HG⊢;clear hh ho hI hfree hl hm hN hn hid cc
  go_enter Tryz.func213,Tryz.ntmps213
  go_wp2_with fail;refine(probe_right _ g l _ id H.out rfl).mono ?_;rintro e w1 ⟨rfl,hb1⟩;have B1:Below w.heap.size w w1:=Below.then_ bE hb1;have s1:=B1.size;rw [HN.out];have k1:=bB H.out hb1;have o1:=HO.out.below hb1;have K1:=LH k1;have O1:=LH o1;clear k1 o1;go_wp2_with fail;refine(probe_look _ g b sb off _ cap _ _ _ S r id K1.out O1.out HI.out HF.out.1 hq3 (by omega) hid1 hkb).mono ?_;rintro e w3 ⟨i,d,rfl,hL,hb3⟩;have B3:Below w.heap.size w w3:=Below.then_ bE hb3;have s3:=B3.size;have k3:=bB K1.out hb3;have o3:=O1.out.below hb3;have cc3:=bC k3;have hil:i<S.length:=by rw [HF.out.2.2];exact hL.i_lt
  obtain⟨x,hx,hx2,_⟩:=HG.out _ _ hL;have d1:=o3.slT.cell_at hil 1 (.int .i64 S[i].2) rfl;rw [List.getElem?_eq_getElem hil] at hx
  injection hx with hx
  rw [hx,hx2] at d1;have zg3:=lB k3;have zb3:=(o3.lt _ rfl).2;clear hL hx hx2 k3 o3 hb3 K1 O1;have hil2: (i:Int) < (S.length:Int):=by omega
  go_wp2_with fail;go_ret;exact⟨rfl,bE⟩
theorem PoolAt.l_le {w:World} {g K l:Nat} {r:List Nd} {F:Nat→Prop} (h:PoolAt w g K l r F) :1≤l∧l≤48:=⟨h.1,h.2.1⟩
theorem pool_Len (w:World) (g K l:Nat) (r:List Nd) (F:Nat→Prop) (h:PoolAt w g K l r F) :Calls Tryz.prog 214 #[.pointer (some ⟨g,0,none⟩)] w fun e w'=>e=.returned (.int .i64 (r.length))∧Below w.heap.size w w':=by
 have hn:=h.fits.nodes h.l_le;obtain⟨h1,h2,h3,p,F0,rfl,h4⟩:=h;rcases h4 with ⟨rfl,h16,hh,hd⟩ | ⟨rfl,hh,hd⟩
 ·have H:=LH hh
  have HC:=LH (fun W (h:DenseAt W p l r F0)=>dense_Len W p l r F0 h);have HD:=LH hd;clear hh hd hn
  go_enter Tryz.func214,Tryz.ntmps214
  go_wp2_with fail;refine(pool_isArray _ g p _ H.out).mono ?_;rintro e w1 ⟨rfl,hb1⟩;have k1:=bB H.out hb1;have c1:=bC k1;have z1:=lB k1;have D1:=LH (HD.out.below hb1);clear k1;go_wp2_with fail;refine(HC.out _ D1.out).mono ?_;rintro e w2 ⟨rfl,hb2⟩;have HB2:=LH (hb1.trans (hb2.mono hb1.size));clear hb2;go_wp2_with fail;go_ret;exact⟨rfl,HB2.out⟩
 ·have H:=LH hh
  have HC:=LH (fun W (h:ProbeAt W p l r F0)=>probe_Len W p l r F0 h);have HD:=LH hd;clear hh hd hn
  go_enter Tryz.func214,Tryz.ntmps214
  go_wp2_with fail;refine(pool_isArray_no _ g _ H.out).mono ?_;rintro e w0 ⟨rfl,hb0⟩;have K0:=LH (bB H.out hb0);go_wp2_with fail;refine(pool_inner _ g _ _ K0.out).mono ?_;rintro e w1 ⟨rfl,hb1'⟩;have hb1:=hb0.trans (hb1'.mono hb0.size);have D1:=LH (HD.out.below hb1);clear hb0 hb1' K0;go_wp2_with fail;refine(HC.out _ D1.out).mono ?_;rintro e w2 ⟨rfl,hb2⟩;have HB2:=LH (hb1.trans (hb2.mono hb1.size));clear hb2;go_wp2_with fail;go_ret;exact⟨rfl,HB2.out⟩
theorem pool_Get (w:World) (g K l:Nat) (r:List Nd) (F:Nat→Prop) (h:PoolAt w g K l r F) (id:Int) :Calls Tryz.prog 162 #[.pointer (some ⟨g,0,none⟩),.int .i64 id] w fun e w'=>e=.returned (.int .i64 (getR r id))∧Below w.heap.size w w':=by
 have hn:=h.fits.nodes h.l_le;obtain⟨h1,h2,h3,p,F0,rfl,h4⟩:=h;rcases h4 with ⟨rfl,h16,hh,hd⟩ | ⟨rfl,hh,hd⟩
 ·have H:=LH hh
  have HC:=LH (fun W (h:DenseAt W p l r F0)=>dense_Get W p l r F0 h id hn);have HD:=LH hd;clear hh hd hn
  go_enter Tryz.func162,Tryz.ntmps162
  go_wp2_with fail;refine(pool_isArray _ g p _ H.out).mono ?_;rintro e w1 ⟨rfl,hb1⟩;have k1:=bB H.out hb1;have c1:=bC k1;have z1:=lB k1;have D1:=LH (HD.out.below hb1);clear k1;go_wp2_with fail;refine(HC.out _ D1.out).mono ?_;rintro e w2 ⟨rfl,hb2⟩;have HB2:=LH (hb1.trans (hb2.mono hb1.size));clear hb2;go_wp2_with fail;go_ret;exact⟨rfl,HB2.out⟩
 ·have H:=LH hh
  have HC:=LH (fun W (h:ProbeAt W p l r F0)=>probe_Get W p l r F0 h h2 id hn);have HD:=LH hd;clear hh hd hn
  go_enter Tryz.func162,Tryz.ntmps162
  go_wp2_with fail;refine(pool_isArray_no _ g _ H.out).mono ?_;rintro e w0 ⟨rfl,hb0⟩;have K0:=LH (bB H.out hb0);go_wp2_with fail;refine(pool_inner _ g _ _ K0.out).mono ?_;rintro e w1 ⟨rfl,hb1'⟩;have hb1:=hb0.trans (hb1'.mono hb0.size);have D1:=LH (HD.out.below hb1);clear hb0 hb1' K0;go_wp2_with fail;refine(HC.out _ D1.out).mono ?_;rintro e w2 ⟨rfl,hb2⟩;have HB2:=LH (hb1.trans (hb2.mono hb1.size));clear hb2;go_wp2_with fail;go_ret;exact⟨rfl,HB2.out⟩
theorem step_zero {n h:Nat} (hh:h<n) :step n h 0=h:=by unfold step;rw [Nat.add_zero,Nat.mod_eq_of_lt hh]
theorem probe_Take_none (w:World) (g l:Nat) (r:List Nd) (F:Nat→Prop) (h:ProbeAt w g l r F) (hl:l≤48) (id:Int) (hn: ∀x∈r,isNode l x.1=true) (h0:getR r id=0) :
 Calls Tryz.prog 321 #[.pointer (some ⟨g,0,none⟩),.int .i64 id] w fun e w'=>e=.returned (.int .i64 0)∧Below w.heap.size w w':=by
 obtain⟨v,S,b,hh,ho,hI,hq3,hq34,hfree,rfl⟩:=h
 cases hN:isNode l id
 ·have HN:=LH hN
  have H:=LH hh;clear hh ho hI hN hn hfree
  go_enter Tryz.func321,Tryz.ntmps321
  go_wp2_with fail;refine(probe_right _ g l _ id H.out rfl).mono ?_;rintro e w1 ⟨rfl,hb1⟩;have B1:Below w.heap.size w w1:=Below.then_ bE hb1;have s1:=B1.size;rw [HN.out];go_wp2_with fail;go_ret;exact⟨rfl,bE⟩
 ·have hid:=isNode_lt hN
  have hkb:id≤562949953421312:=by have:=pow_48 hl;have h3:=hid.2;omega
  have hid1:=hid.1;obtain⟨sb,off,cap,rfl,hcap⟩:=own_at0 ho (by rw [hI.len];exact Nat.two_pow_pos b);have hm:r.length<2^b:=by have:=Nat.two_pow_pos b;omega
  have hl:=hI.len;have hSl:S.length≤34359738368:=by rw [hl];have:=Nat.pow_le_pow_right (n:=2) (by decide) (show b≤35 by omega);simpa using this
  have H:=LH hh;have HO:=LH ho;have HI:=LH hI;have HF:=LH (And.intro hm (And.intro hfree hl));have HN:=LH hN;have HG:=LH (fun i d (hL:LookAt S b id i d)=>hL.get hI);rw [h0] at HG;clear hh ho hI hfree hl hm hN hn hid h0
  go_enter Tryz.func321,Tryz.ntmps321
  go_wp2_with fail;refine(probe_right _ g l _ id H.out rfl).mono ?_;rintro e w1 ⟨rfl,hb1⟩;have B1:Below w.heap.size w w1:=Below.then_ bE hb1;have s1:=B1.size;rw [HN.out];have k1:=bB H.out hb1;have o1:=HO.out.below hb1;have K1:=LH k1;have O1:=LH o1;clear k1 o1;go_wp2_with fail;refine(probe_look _ g b sb off _ cap _ _ _ S r id K1.out O1.out HI.out HF.out.1 hq3 (by omega) hid1 hkb).mono ?_;rintro e w3 ⟨i,d,rfl,hL,hb3⟩;have B3:Below w.heap.size w w3:=Below.then_ bE hb3;have s3:=B3.size;have k3:=bB K1.out hb3;have o3:=O1.out.below hb3;have cc3:=bC k3;have hil:i<S.length:=by rw [HF.out.2.2];exact hL.i_lt
  obtain⟨x,hx,hx2,_⟩:=HG.out _ _ hL;have d1:=o3.slT.cell_at hil 1 (.int .i64 S[i].2) rfl;rw [List.getElem?_eq_getElem hil] at hx
  injection hx with hx
  rw [hx,hx2] at d1;have zg3:=lB k3;have zb3:=(o3.lt _ rfl).2;clear hL hx hx2 k3 o3 hb3 K1 O1;have hil2: (i:Int) < (S.length:Int):=by omega
  go_wp2_with fail;go_ret;exact⟨rfl,bE⟩
theorem del_less {b i t E p n:Nat} (hi:i<2^b) (ht:t<E) (hE:E<2^b) (hp:p=step (2^b) i t) (hn:n=2^b) :E - wayOf (2^b) i (intOf (.int .i64 (((p:Int) +1) % (n:Int)))).toNat<E - wayOf (2^b) i (intOf (.int .i64 (p:Int))).toNat:=by
 have e1: (intOf (.int .i64 (((p:Int) +1) % (n:Int)))).toNat= (p+1) % n:=by
  show (((p:Int) +1) % (n:Int)).toNat=_
  rw [show ((p:Int) +1) % (n:Int) = (((p+1) % n:Nat) :Int) by push_cast;rfl,Int.toNat_natCast]
 have e2: (intOf (.int .i64 (p:Int))).toNat=p:=Int.toNat_natCast p;rw [e1,e2,hn,hp,step_succ (Nat.two_pow_pos b),way_of hi (by omega),way_of hi (by omega)];omega
theorem probe_taken {w:World} {g l b sb off cap n:Nat} {r' S:List Nd} {u m:Int} {v2 v3:Value} (hh:w.heap[g]? =some (.cells #[.int .i64 l,.int .i64 b,v2,v3,.slice (some ⟨sb,off,none⟩) n cap] 221 (0,0)))
 (ho:Own w 0 172 encN (.slice (some ⟨sb,off,none⟩) n cap) S) (hI:PInv b S r') (h3:3≤b) (h34:b≤34) (hfree:2*r'.length≤2^b) (hu: (r'.length:Int) =u) (hm:sumR r'=m) :
 ProbeAt ((w.setCell ⟨g,2,none⟩ (.int .i64 u)).setCell ⟨g,3,none⟩ (.int .i64 m)) g l r' (foot2 g (.slice (some ⟨sb,off,none⟩) n cap)):=by
 have k1:=zH (i:=2) hh (.int .i64 u);have o1:=ho.setCell (p:=⟨g,2,none⟩) (ho.ne_block hh (by decide)) (.int .i64 u);have k2:=zH (i:=3) k1 (.int .i64 m);have o2:=o1.setCell (p:=⟨g,3,none⟩) (o1.ne_block k1 (by decide)) (.int .i64 m);subst hm hu;exact⟨_,S,b,by rw [k2];rfl,o2,hI,h3,h34,hfree,rfl⟩
theorem probe_Take_some (w:World) (g l:Nat) (r:List Nd) (F:Nat→Prop) (h:ProbeAt w g l r F) (hf:Fits l r) (hl:l≤48) (id:Int) (hn: ∀x∈r,isNode l x.1=true) (h0:getR r id≠0) :
 Calls Tryz.prog 321 #[.pointer (some ⟨g,0,none⟩),.int .i64 id] w fun e w'=>e=.returned (.int .i64 (getR r id))∧ProbeAt w' g l (delR r id) F∧Turn F w w':=by
 have hN:isNode l id=true:=by
  cases hN:isNode l id
  ·exact absurd (getR_out hn hN) h0
  ·rfl
 have hp:=getR_nonneg hf.roll id;have hle:=getR_le_sum hf.roll id;have hs:=hf.sum;have hlen:=len_del_pos h0;have hsum:=sumR_del hf.roll id;have hls:=len_le_sum hf.roll;have hpos:0<getR r id:=by omega
 have hperm:=delR_perm hf.roll h0;have hroll:=hf.roll.del id
 have hids: ∀x∈delR r id,1≤x.1∧x.1≤562949953421312:=fun x hx=>by
  have h1:=isNode_lt (hn x (delR_sub hx));have:=pow_48 hl;omega
 obtain⟨v,S0,b,hh,ho,hI,hq3,hq34,hfree,rfl⟩:=h;have hid:=isNode_lt hN;have hkb:id≤562949953421312:=by have:=pow_48 hl;have h3:=hid.2;omega
 have hid1:=hid.1;obtain⟨sb,off,cap,rfl,hcap⟩:=own_at0 ho (by rw [hI.len];exact Nat.two_pow_pos b);have hm:r.length<2^b:=by have:=Nat.two_pow_pos b;omega
 have hl2:=hI.len;have hSl:S0.length≤34359738368:=by rw [hl2];have:=Nat.pow_le_pow_right (n:=2) (by decide) (show b≤35 by omega);simpa using this
 have hrl:1≤(r.length:Int):=by have: (0:Int)≤((delR r id).length:Int):=by omega
                               omega
 have H:=LH hh;have HO:=LH ho;have HI:=LH hI;have HF:=LH (And.intro hm (And.intro hfree hl2));have HL2:=LH hl2;have HN:=LH hN;have HM:=LH (And.intro hlen (And.intro hsum (And.intro hperm (And.intro hroll hids))));have HG:=LH (fun i d (hL:LookAt S0 b id i d)=>hL.hit hI h0);have hs0:0≤sumR r - getR r id:=by omega
 have hs1:sumR r≤72057594037927935:=hs;generalize getR r id=n at HM HG hp hle h0 hpos hs0⊢;clear hl2 hh ho hI hfree hm hN hn hid hlen hsum hperm hroll hids hf hs
 go_enter Tryz.func321,Tryz.ntmps321
 go_wp2_with fail;refine(probe_right _ g l _ id H.out rfl).mono ?_;rintro e w1 ⟨rfl,hb1⟩;have B1:Below w.heap.size w w1:=Below.then_ bE hb1;have s1:=B1.size;rw [HN.out];have K1:=LH (bB H.out hb1);have O1:=LH (HO.out.below hb1);go_wp2_with fail;refine(probe_look _ g b sb off _ cap _ _ _ S0 r id K1.out O1.out HI.out HF.out.1 hq3 (by omega) hid1 hkb).mono ?_;rintro e w3 ⟨i,d,rfl,hL,hb3⟩;have B3:Below w.heap.size w w3:=Below.then_ bE hb3;have s3:=B3.size;have k3:=bB K1.out hb3;have o3:=O1.out.below hb3;have cc3:=bC k3;have cf3:=bF k3;have hil:i<S0.length:=by rw [HF.out.2.2];exact hL.i_lt
 have hx:=HG.out _ _ hL;have d1:=o3.slT.cell_at hil 1 (.int .i64 S0[i].2) rfl;have d0:=o3.slT.cell_at hil 0 (.int .i64 S0[i].1) rfl;have HX:=LH hx;rw [List.getElem?_eq_getElem hil] at hx
 injection hx with hx
 rw [hx] at d1 d0;simp only [Nat.add_zero] at d0;have fb:=o3.frozen;have zg3:=lB k3;have zb3:=(o3.lt _ rfl).2;have hnb:g≠sb:=fun he=>o3.ne_block k3 (by decide) (by rw [he];rfl);have T3:Turn (foot2 g (.slice (some ⟨sb,off,none⟩) S0.length cap)) w w3:=.of_below B3;have HI2:=LH (show i<2^b from hL.i_lt);obtain⟨E,hE⟩:=Del.start HI.out HX.out h0 HF.out.1 HM.out.2.2.1;have HE:=LH hE;have K3:=LH k3;have o4:=own_slot o3 i hil (0,0);have O4:=LH o4;have k4: ((w3.setCell ⟨sb,off+i*2,none⟩ (.int .i64 0)).setCell ⟨sb,off+i*2+1,none⟩ (.int .i64 0)).heap[g]? =_:=(Below.heap_setCell _ _ _ _ hnb).trans ((Below.heap_setCell _ _ _ _ hnb).trans k3);have K4:=LH k4;have T4:=LH ((T3.setCell (p:=⟨sb,off+i*2,none⟩) (.inl (.inr rfl)) (.int .i64 0)).setCell (p:=⟨sb,off+i*2+1,none⟩) (.inl (.inr rfl)) (.int .i64 0));clear hL hx k3 o3 hb3 K1 O1 T3 hE o4 k4;have hil2: (i:Int) < (S0.length:Int):=by omega
 go_upto_region 8 with fail;generalize (w3.setCell ⟨sb,off+i*2,none⟩ (.int .i64 0)).setCell ⟨sb,off+i*2+1,none⟩ (.int .i64 0) =W4 at K4 O4 T4⊢;clear cc3 cf3 d1 d0 fb zg3 zb3 K3;go_wp2_with fail;refine(probe_next _ g S0.length b i _ _ cap K4.out rfl HL2.out (by omega) hil).mono ?_;rintro e w5 ⟨rfl,hb5⟩;have K5:=LH (bB K4.out hb5);have O5:=LH (O4.out.below hb5);have T5:=LH (T4.out.more hb5);clear K4 O4 T4 hb5 B3 s3;go_wp2_with fail
 go_loopw [5,8] (fun hole at_ wr=>∃(S:List Nd) (c t:Nat),hole=.int .i64 (step (2^b) i c)∧at_=.int .i64 (step (2^b) i t)∧Del b (S0.set i (0,0)) i E S (delR r id) c t∧
  wr.heap[g]? =some (.cells #[.int .i64 l,.int .i64 b,.int .i64 r.length,.int .i64 (sumR r),.slice (some ⟨sb,off,none⟩) S0.length cap] 221 (0,0))∧Own wr 0 172 encN (.slice (some ⟨sb,off,none⟩) S0.length cap) S∧
  Turn (foot2 g (.slice (some ⟨sb,off,none⟩) S0.length cap)) w wr) (fun _ at_ _=>E - wayOf (2^b) i (intOf at_).toNat)
 case atStart=>exact⟨_,0,1,by rw [step_zero HI2.out],val_int (by rw [HL2.out];unfold step;push_cast;rfl),HE.out,K5.out,O5.out,T5.out⟩
 case round=>
  obtain⟨S,c,t,rfl,rfl,hD,hK,hO,hT⟩:=hrel;have HD:=LH hD;have KW:=LH hK;have OW:=LH hO;have TW:=LH hT;have hSl2:S.length=S0.length:=by rw [hD.len,HL2.out]
  have HSL:=LH hSl2;have hpb:=Nat.two_pow_pos b;obtain⟨p,hp_⟩ : ∃p,p=step (2^b) i t:=⟨_,rfl⟩;obtain⟨q,hq_⟩ : ∃q,q=step (2^b) i c:=⟨_,rfl⟩;have HP:=LH hp_;have HQ:=LH hq_;have hpn:p<2^b:=by rw [hp_];exact step_lt hpb
  have hqn:q<2^b:=by rw [hq_];exact step_lt hpb
  have hpl:p<S.length:=by rw [hD.len];exact hpn
  have hql:q<S.length:=by rw [hD.len];exact hqn
  have hpl0:p<S0.length:=by rw [←hSl2];exact hpl
  have hql0:q<S0.length:=by rw [←hSl2];exact hql
  rw [←hp_,←hq_];have cc:=bC hK;have cf:=bF hK;have zg:=lB hK;have zb:=(hO.lt _ rfl).2;have fb:=hO.frozen;have d0:=hO.slT.cell_at hpl 0 (.int .i64 S[p].1) rfl;have d1:=hO.slT.cell_at hpl 1 (.int .i64 S[p].2) rfl;simp only [Nat.add_zero] at d0;obtain⟨x,hx⟩ : ∃x,x=S[p]:=⟨_,rfl⟩;rw [←hx] at d0 d1;have HX:=LH (show S[p]? =some x by rw [hx];exact List.getElem?_eq_getElem hpl);have HX2:=LH (show S[step (2^b) i t]? =some x by rw [←hp_];exact HX.out);clear hD hK hO hT hp_ hq_ hx hpb hSl2;by_cases hx0:0<x.2
  ·have hmem:Hid (1≤x.1∧x.1≤562949953421312):=LH (HM.out.2.2.2.2 x (HD.out.perm.subset (List.mem_filter.2 ⟨List.mem_of_getElem? HX.out,by simp [full];omega⟩)))
   have HH:=LH (fun W=>probe_Home W b x.1 (by omega) (by omega) hmem.out.1 hmem.out.2);have hhn:homeOf b x.1<2^b:=homeOf_lt (by omega) x.1;have HS1:=LH (fun hw=>HD.out.stay (by omega) HX2.out (by omega) hw);have HS2:=LH (fun hw=>HD.out.move (by omega) HX2.out (by omega) hw);have HE2:=LH (HD.out.ne HX2.out (by omega));rw [←HP.out,←HQ.out] at HS1 HS2;generalize homeOf b x.1=ho at HH hhn HS1 HS2;have hho0:ho<S0.length:=by rw [HL2.out];exact hhn
   go_upto_region 11 with fail;refine rX (by kernel_rfl) (by kernel_rfl) ?_
   repeat (go_big_quiet_step ((go_at_call 303;exact quiet_ext (HH.out _))))
   refine wpQuiet_nil ?_;intro w6 h6;have hb6:=bX h6;have K6:=LH (bB KW.out hb6);have O6:=LH (OW.out.below hb6);have T6:=LH (TW.out.more hb6);clear h6 hb6 cc cf zg zb fb d0 d1;go_wp2_with fail;refine(probe_way _ g S0.length b ho q _ _ cap K6.out rfl HL2.out (by omega) hho0 hql0).mono ?_;rintro e w7 ⟨rfl,hb7⟩;have K7:=LH (bB K6.out hb7);have O7:=LH (O6.out.below hb7);have T7:=LH (T6.out.more hb7);clear K6 O6 T6 hb7;go_wp2_with fail;refine(probe_way _ g S0.length b ho p _ _ cap K7.out rfl HL2.out (by omega) hho0 hpl0).mono ?_;rintro e w8 ⟨rfl,hb8⟩;have K8:=LH (bB K7.out hb8);have O8:=LH (O7.out.below hb8);have T8:=LH (T7.out.more hb8);clear K7 O7 T7 hb8;rw [←HL2.out] at HS1 HS2;generalize wayOf S0.length ho p=wp_ at HS1 HS2⊢;generalize wayOf S0.length ho q=wq at HS1 HS2⊢;by_cases hw:wq≤wp_
   ·have hwi: (wq:Int)≤(wp_:Int):=by omega
    have HS:=LH (HS2.out hw);clear HS1 HS2;have cc:=bC K8.out;have cf:=bF K8.out;have zg:=lB K8.out;have zb:=(O8.out.lt _ rfl).2;have fb:=O8.out.frozen;have d0:=O8.out.slT.cell_at hpl 0 (.int .i64 S[p].1) rfl;have d1:=O8.out.slT.cell_at hpl 1 (.int .i64 S[p].2) rfl;have d2:=O8.out.slT.cell_at hql 0 (.int .i64 S[q].1) rfl;have d3:=O8.out.slT.cell_at hql 1 (.int .i64 S[q].2) rfl;have hxx:S[p] =x:=by have:=HX.out;rw [List.getElem?_eq_getElem hpl] at this;exact Option.some.inj this
    rw [hxx] at d0 d1;simp only [Nat.add_zero] at d0 d2;obtain⟨y,hy⟩ : ∃y,y=S[q]:=⟨_,rfl⟩;rw [←hy] at d2 d3;clear hy
    have hpq: ¬p=q:=fun he=>by
     rw [HP.out,HQ.out] at he;have h1:=HD.out.ct;have h2:=HE2.out;have h3:=HD.out.En;have:=step_inj (by omega) (by omega) he;omega
    have hpq1: ¬q=p:=fun he=>hpq he.symm;have hpq2: ¬p*2=q*2+1:=by omega
    have hpq3: ¬q*2+1=p*2:=by omega
    have hpq4: ¬p*2+1=q*2:=by omega
    have hpq5: ¬q*2=p*2+1:=by omega
    have hpi: (p:Int) < (S0.length:Int):=by omega
    have hqi: (q:Int) < (S0.length:Int):=by omega
    have o9:=own_slot (own_slot O8.out q hql x) p (by simpa using hpl) (0,0);have O9:=LH o9;have k9:=(Below.heap_setCell (((w8.setCell ⟨sb,off+q*2,none⟩ (.int .i64 x.1)).setCell ⟨sb,off+q*2+1,none⟩ (.int .i64 x.2)).setCell ⟨sb,off+p*2,none⟩ (.int .i64 0)) ⟨sb,off+p*2+1,none⟩ (.int .i64 0) g hnb).trans ((Below.heap_setCell ((w8.setCell ⟨sb,off+q*2,none⟩ (.int .i64 x.1)).setCell ⟨sb,off+q*2+1,none⟩ (.int .i64 x.2)) ⟨sb,off+p*2,none⟩ (.int .i64 0) g hnb).trans ((Below.heap_setCell (w8.setCell ⟨sb,off+q*2,none⟩ (.int .i64 x.1)) ⟨sb,off+q*2+1,none⟩ (.int .i64 x.2) g hnb).trans ((Below.heap_setCell w8 ⟨sb,off+q*2,none⟩ (.int .i64 x.1) g hnb).trans K8.out)));have K9:=LH k9;have T9:=LH ((((T8.out.setCell (p:=⟨sb,off+q*2,none⟩) (.inl (.inr rfl)) (.int .i64 x.1)).setCell (p:=⟨sb,off+q*2+1,none⟩) (.inl (.inr rfl)) (.int .i64 x.2)).setCell (p:=⟨sb,off+p*2,none⟩) (.inl (.inr rfl)) (.int .i64 0)).setCell (p:=⟨sb,off+p*2+1,none⟩) (.inl (.inr rfl)) (.int .i64 0));clear o9 k9 hxx;go_upto_region 13 with fail
    go_region
    generalize (((w8.setCell ⟨sb,off+q*2,none⟩ (.int .i64 x.1)).setCell ⟨sb,off+q*2+1,none⟩ (.int .i64 x.2)).setCell ⟨sb,off+p*2,none⟩ (.int .i64 0)).setCell ⟨sb,off+p*2+1,none⟩ (.int .i64 0) =w9 at K9 O9 T9⊢;have K9:Hid (w9.drew.heap[g]? =_):=LH K9.out;have O9:=LH O9.out.drew;have T9:=LH T9.out.drew;generalize w9.drew=w9d at K9 O9 T9⊢;clear cc cf zg zb fb d0 d1 d2 d3 hpq hpq1 hpq2 hpq3 hpq4 hpq5 K8 O8 T8;go_wp2_with fail;refine(probe_next _ g S0.length b p _ _ cap K9.out rfl HL2.out (by omega) hpl0).mono ?_;rintro e wA ⟨rfl,hbA⟩;have KA:=LH (bB K9.out hbA);have OA:=LH (O9.out.below hbA);have TA:=LH (T9.out.more hbA);go_wp2_with fail;go_roundw
    case rel=>exact⟨_,t,t+1,by rw [HP.out],by rw [HP.out,HL2.out];exact val_int (by push_cast;exact_mod_cast step_next (Nat.two_pow_pos b)),HS.out,KA.out,OA.out,TA.out⟩
    case measure=>exact del_less HI2.out HE2.out HD.out.En HP.out HL2.out
   ·have hwi:decide ((wq:Int)≤(wp_:Int)) =false:=by simp;omega
    have HS:=LH (HS1.out (by omega));clear HS1 HS2;go_wp2_with fail;refine(probe_next _ g S0.length b p _ _ cap K8.out rfl HL2.out (by omega) hpl0).mono ?_;rintro e w9 ⟨rfl,hb9⟩;have K9:=LH (bB K8.out hb9);have O9:=LH (O8.out.below hb9);have T9:=LH (T8.out.more hb9);go_wp2_with fail;go_roundw
    case rel=>exact⟨S,c,t+1,by rw [HQ.out],by rw [HP.out,HL2.out];exact val_int (by push_cast;exact_mod_cast step_next (Nat.two_pow_pos b)),HS.out,K9.out,O9.out,T9.out⟩
    case measure=>exact del_less HI2.out HE2.out HD.out.En HP.out HL2.out
  ·have hx0':decide (0<x.2) =false:=by simpa using hx0
   have hz:x.2=0:=by
    by_cases hz:x.2=0
    ·exact hz
    ·have:=(HM.out.2.2.2.1.2 x (HD.out.perm.subset (List.mem_filter.2 ⟨List.mem_of_getElem? HX.out,by simp [full];omega⟩))).2
     omega
   have HPI:=LH (HD.out.done HX2.out hz HM.out.2.2.2.1.ids fun y hy=>(HM.out.2.2.2.1.2 y hy).2);have hpi: (p:Int) < (S0.length:Int):=by omega
   have hrl2: (r.length:Int)≤72057594037927935:=by omega
   clear hz HD HX HX2;go_wp2_with fail;go_ret;refine⟨rfl,?_,?_⟩
   ·exact probe_taken (r':=delR r id) KW.out OW.out HPI.out hq3 hq34 (by have:=HM.out.1;have:=HF.out.2.1;omega) HM.out.1 HM.out.2.1
   ·refine Turn.setCell (Turn.setCell TW.out ?_ _) ?_ _
    ·exact .inl (.inl rfl)
    ·exact .inl (.inl rfl)
theorem probe_Take (w:World) (g l:Nat) (r:List Nd) (F:Nat→Prop) (h:ProbeAt w g l r F) (hf:Fits l r) (hl:l≤48) (id:Int) (hn: ∀x∈r,isNode l x.1=true) :
 Calls Tryz.prog 321 #[.pointer (some ⟨g,0,none⟩),.int .i64 id] w fun e w'=>e=.returned (.int .i64 (getR r id))∧ProbeAt w' g l (delR r id) F∧Turn F w w':=by
 by_cases h0:getR r id=0
 ·refine(probe_Take_none w g l r F h hl id hn h0).mono ?_
  rintro e w' ⟨rfl,hb⟩;rw [h0,del_zero hf.roll h0];exact⟨rfl,h.below hb,.of_below hb⟩
 ·exact probe_Take_some w g l r F h hf hl id hn h0
theorem Fits.del {l:Nat} {r:List Nd} (hf:Fits l r) (id:Int) :Fits l (delR r id):=
 ⟨hf.roll.del id,fun x hx=>hf.lt x (delR_sub hx),by rw [sumR_del hf.roll];have:=getR_nonneg hf.roll id;have:=hf.sum;omega⟩
theorem pool_Take (w:World) (g K l:Nat) (r:List Nd) (F:Nat→Prop) (h:PoolAt w g K l r F) (id:Int) :
 Calls Tryz.prog 300 #[.pointer (some ⟨g,0,none⟩),.int .i64 id] w fun e w'=>e=.returned (.int .i64 (getR r id))∧PoolAt w' g K l (delR r id) F∧Turn F w w':=by
 have hn:=h.fits.nodes h.l_le;obtain⟨h1,h2,h3,p,F0,rfl,h4⟩:=h;have hF:=h3.del id;rcases h4 with ⟨rfl,h16,hh,hd⟩ | ⟨rfl,hh,hd⟩
 ·have hgF: ¬F0 g:=fun hg=>by
   rcases hd.typed g hg with h|h
   ·exact absurd (typeAt_eq h (.of hh)) (by decide)
   ·exact absurd (typeAt_eq h (.of hh)) (by decide)
  have HC:=LH (fun W (h:DenseAt W p l r F0)=>dense_Take W p l r F0 h h3 id hn);have H:=LH hh;have HD:=LH hd;generalize getR r id=n at HC⊢;clear hh hd hn
  go_enter Tryz.func300,Tryz.ntmps300
  go_wp2_with fail;refine(pool_isArray _ g p _ H.out).mono ?_;rintro e w1 ⟨rfl,hb1⟩;have k1:=bB H.out hb1;have c1:=bC k1;have z1:=lB k1;have D1:=LH (HD.out.below hb1);have K1:=LH k1;clear k1;go_wp2_with fail;refine(HC.out _ D1.out).mono ?_;rintro e w2 ⟨rfl,hd2,hT2⟩
  have HP:Hid (PoolAt w2 g 1 l (delR r id) (footP g F0)∧Turn (footP g F0) w w2):=
   ⟨⟨h1,h2,hF,p,F0,rfl,.inl ⟨rfl,h16,hT2.keep K1.out hgF,hd2⟩⟩,(Turn.of_below hb1).trans hT2 (fun b hb=>.inl (.inr hb))⟩
  clear hd2 hT2;go_wp2_with fail;go_ret;exact⟨rfl,HP.out⟩
 ·have hgF: ¬F0 g:=fun hg=>by
   rcases hd.typed g hg with h|h
   ·exact absurd (typeAt_eq h (.of hh)) (by decide)
   ·exact absurd (typeAt_eq h (.of hh)) (by decide)
  have HC:=LH (fun W (h:ProbeAt W p l r F0)=>probe_Take W p l r F0 h h3 h2 id hn);have H:=LH hh;have HD:=LH hd;generalize getR r id=n at HC⊢;clear hh hd hn
  go_enter Tryz.func300,Tryz.ntmps300
  go_wp2_with fail;refine(pool_isArray_no _ g _ H.out).mono ?_;rintro e w0 ⟨rfl,hb0⟩;have K0:=LH (bB H.out hb0);go_wp2_with fail;refine(pool_inner _ g _ _ K0.out).mono ?_;rintro e w1 ⟨rfl,hb1'⟩;have hb1:=hb0.trans (hb1'.mono hb0.size);have D1:=LH (HD.out.below hb1);have K1:=LH (bB H.out hb1);clear hb0 hb1' K0;go_wp2_with fail;refine(HC.out _ D1.out).mono ?_;rintro e w2 ⟨rfl,hd2,hT2⟩
  have HP:Hid (PoolAt w2 g 2 l (delR r id) (footP g F0)∧Turn (footP g F0) w w2):=
   ⟨⟨h1,h2,hF,p,F0,rfl,.inr ⟨rfl,hT2.keep K1.out hgF,hd2⟩⟩,(Turn.of_below hb1).trans hT2 (fun b hb=>.inl (.inr hb))⟩
  clear hd2 hT2;go_wp2_with fail;go_ret;exact⟨rfl,HP.out⟩
theorem kids_yes {l:Nat} {p:Int} (h: (kidsOf l p).2.2=true) :kidsOf l p= (2*p,2*p+1,true):=by
 unfold kidsOf at h⊢
 split
 ·rfl
 ·rename_i hn;rw [if_neg hn] at h;cases h
theorem kids_no {l:Nat} {p:Int} (h: (kidsOf l p).2.2=false) :kidsOf l p= (0,0,false):=by
 unfold kidsOf at h⊢
 split
 ·rename_i hn;rw [if_pos hn] at h;cases h
 ·rfl
theorem fold_Mass (w:World) (g K l:Nat) (r:List Nd) (F:Nat→Prop) (h:PoolAt w g K l r F) (p:Int) :
 Calls Tryz.prog 299 #[.pointer (some ⟨g,0,none⟩),.int .i64 p] w fun e w'=>e=.returned (.tuple #[.int .i64 (if (kidsOf l p).2.2=true then pairR r p else 0),.int .i64 (if (kidsOf l p).2.2=true then pairR r p+getR r p else 0)])∧Below w.heap.size w w':=by
 have HL:=LH (fun W h=>pool_L W g K l r F h);have HP:=LH h
 cases hk: (kidsOf l p).2.2
 ·have HK:=LH (kids_no hk)
  rw [if_neg (by simp),if_neg (by simp)];clear h hk
  go_enter Tryz.func299,Tryz.ntmps299
  go_wp2_with fail;refine(HL.out _ HP.out).mono ?_;rintro e w1 ⟨rfl,hb1⟩;have B1:=LH hb1;go_wp2_with fail;refine(twig_Kids _ l p).mono ?_;rintro e w2 ⟨rfl,hb2⟩;rw [HK.out];unfold endsV;have B2:=LH (Below.then_ B1.out hb2);clear hb1 hb2;go_wp2_with fail
  go_ret2
  exact⟨rfl,B2.out⟩
 ·have HK:=LH (kids_yes hk)
  rw [if_pos rfl,if_pos rfl];have HG:=LH (fun W id h=>pool_Get W g K l r F h id);have hs:=h.fits.sum;have a0:=getR_nonneg h.fits.roll (2*p);have a1:=getR_le_sum h.fits.roll (2*p);have b0:=getR_nonneg h.fits.roll (2*p+1);have b1:=getR_le_sum h.fits.roll (2*p+1);have c0:=getR_nonneg h.fits.roll p;have c1:=getR_le_sum h.fits.roll p;have HG1:=LH (fun W h=>HG.out W (2*p) h);have HG2:=LH (fun W h=>HG.out W (2*p+1) h);have HG3:=LH (fun W h=>HG.out W p h);unfold pairR;generalize getR r (2*p) =n1 at HG1 a0 a1⊢;generalize getR r (2*p+1) =n2 at HG2 b0 b1⊢;generalize getR r p=n3 at HG3 c0 c1⊢;generalize sumR r=n4 at hs a1 b1 c1;clear h hk HG
  go_enter Tryz.func299,Tryz.ntmps299
  go_wp2_with fail;refine(HL.out _ HP.out).mono ?_;rintro e w1 ⟨rfl,hb1⟩;have B1:=LH hb1;go_wp2_with fail;refine(twig_Kids _ l p).mono ?_;rintro e w2 ⟨rfl,hb2⟩;rw [HK.out];unfold endsV;have B2:=LH (Below.then_ B1.out hb2);clear hb1 hb2;go_wp2_with fail;refine(HG1.out _ (HP.out.below B2.out)).mono ?_;rintro e w3 ⟨rfl,hb3⟩;have B3:=LH (Below.then_ B2.out hb3);clear hb3;go_wp2_with fail;refine(HG2.out _ (HP.out.below B3.out)).mono ?_;rintro e w4 ⟨rfl,hb4⟩;have B4:=LH (Below.then_ B3.out hb4);clear hb4;go_wp2_with fail;refine(HG3.out _ (HP.out.below B4.out)).mono ?_;rintro e w5 ⟨rfl,hb5⟩;have B5:=LH (Below.then_ B4.out hb5);clear hb5;go_wp2_with fail
  go_ret2
  exact⟨rfl,B5.out⟩
theorem fold_Ready (w:World) (g K l:Nat) (r:List Nd) (F:Nat→Prop) (h:PoolAt w g K l r F) (p most:Int) :
 Calls Tryz.prog 257 #[.pointer (some ⟨g,0,none⟩),.int .i64 p,.int .i64 most] w fun e w'=>e=.returned (.bool (readyR l r p most))∧Below w.heap.size w w':=by
 have HM:=LH (fold_Mass w g K l r F h p)
 cases hk: (kidsOf l p).2.2
 ·have e1:readyR l r p most=false:=by simp [readyR,hk]
  rw [e1];rw [if_neg (by simp [hk]),if_neg (by simp [hk])] at HM;clear h hk e1
  go_enter Tryz.func257,Tryz.ntmps257
  go_wp2_with fail;refine HM.out.mono ?_;rintro e w1 ⟨rfl,hb1⟩;go_wp2_with fail;go_ret;exact⟨rfl,hb1⟩
 ·have e1:readyR l r p most=decide (0<pairR r p∧pairR r p+getR r p≤most):=by simp [readyR,hk]
  rw [e1];rw [if_pos hk,if_pos hk] at HM;generalize pairR r p+getR r p=m at HM⊢;generalize pairR r p=n at HM⊢;clear h hk e1;by_cases h1:0<n
  ·by_cases h2:m≤most
   ·rw [decide_eq_true ⟨h1,h2⟩]
    go_enter Tryz.func257,Tryz.ntmps257
    go_wp2_with fail;refine HM.out.mono ?_;rintro e w1 ⟨rfl,hb1⟩;go_wp2_with fail;go_ret;exact⟨rfl,hb1⟩
   ·rw [decide_eq_false (fun h=>h2 h.2)]
    have h3:decide (m≤most) =false:=by simpa using h2
    clear h2
    go_enter Tryz.func257,Tryz.ntmps257
    go_wp2_with fail;refine HM.out.mono ?_;rintro e w1 ⟨rfl,hb1⟩;go_wp2_with fail;go_ret;exact⟨rfl,hb1⟩
  ·rw [decide_eq_false (fun h=>h1 h.1)]
   have h3:decide (0<n) =false:=by simpa using h1
   clear h1
   go_enter Tryz.func257,Tryz.ntmps257
   go_wp2_with fail;refine HM.out.mono ?_;rintro e w1 ⟨rfl,hb1⟩;go_wp2_with fail;go_ret;exact⟨rfl,hb1⟩
def PoolTo (w:World) (g K l:Nat) (s:List Nd) (F:Nat→Prop) (w':World) :Prop:=∃F',PoolAt w' g K l s F'∧Turn F w w'∧Grow w F F'
theorem fold_Do (w:World) (g K l:Nat) (r:List Nd) (F:Nat→Prop) (h:PoolAt w g K l r F) (p most:Int) (hy:readyR l r p most=true) (hr30:r.length<1073741824) :
 Calls Tryz.prog 258 #[.pointer (some ⟨g,0,none⟩),.int .i64 p] w fun e w'=>(∃n,e=.returned (.int .i64 n))∧PoolTo w g K l (foldR r p) F w':=by
 obtain⟨hk,hpos,hmost⟩:=ready_iff.1 hy;have hl:=h.l_le;have hid:=isNode_lt (kids_iff.1 hk).1;obtain⟨k,rfl⟩ : ∃k:Nat,p=k:=⟨p.toNat,by omega⟩;have HK:=LH (kids_yes hk);have HL:=LH (fun W h=>pool_L W g K l r F h);have HP:=LH h;have hs:=h.fits.sum;have hroll:=h.fits.roll;have a0:=getR_nonneg hroll (2* (k:Int));have a1:=getR_le_sum hroll (2* (k:Int));have b0:=getR_nonneg hroll (2* (k:Int) +1);have b1:=getR_le_sum hroll (2* (k:Int) +1);have hk1:1≤k:=by omega
 have hk2:k<2*2^l:=by have:=hid.2;exact_mod_cast this
 have e2:getR (delR r (2* (k:Int))) (2* (k:Int) +1) =getR r (2* (k:Int) +1):=by rw [getR_del hroll,if_neg (by omega)]
 have sm:sumR (delR (delR r (2* (k:Int))) (2* (k:Int) +1)) +pairR r k≤72057594037927935:=by
  rw [sumR_del (hroll.del _),e2,sumR_del hroll];unfold pairR;omega
 have ln: (delR (delR r (2* (k:Int))) (2* (k:Int) +1)).length<1073741824:=by
  have l1:=(delR_len (r:=r) (2* (k:Int))).1;have l2:=(delR_len (r:=delR r (2* (k:Int))) (2* (k:Int) +1)).1;omega
 have HT1:=LH (fun W h=>pool_Take W g K l r F h (2* (k:Int)));have HT2:=LH (fun W h=>pool_Take W g K l (delR r (2* (k:Int))) F h (2* (k:Int) +1));rw [e2] at HT2;have HA:=LH (fun W h=>pool_Add W g K l (delR (delR r (2* (k:Int))) (2* (k:Int) +1)) F h k hk1 hk2 (pairR r k) hpos sm ln);unfold foldR;generalize addR (delR (delR r (2* (k:Int))) (2* (k:Int) +1)) k (pairR r k) =s at HA⊢;unfold pairR at HA hpos;generalize delR (delR r (2* (k:Int))) (2* (k:Int) +1) =r2 at HT2 HA sm ln;generalize delR r (2* (k:Int)) =r1 at HT1 HT2 e2;generalize getR r (2* (k:Int)) =n1 at HT1 HA a0 a1 hpos;generalize getR r (2* (k:Int) +1) =n2 at HT2 HA b0 b1 hpos;generalize sumR r=n4 at hs a1 b1;clear h hk hy hmost hroll e2 sm ln hid
 go_enter Tryz.func258,Tryz.ntmps258
 go_wp2_with fail;refine(HL.out _ HP.out).mono ?_;rintro e w1 ⟨rfl,hb1⟩;have B1:=LH hb1;go_wp2_with fail;refine(twig_Kids _ l k).mono ?_;rintro e w2 ⟨rfl,hb2⟩;rw [HK.out];unfold endsV;have B2:=LH (Below.then_ B1.out hb2);clear hb1 hb2;go_wp2_with fail;refine(HT1.out _ (HP.out.below B2.out)).mono ?_;rintro e w3 ⟨rfl,hp3,ht3⟩;have P3:=LH hp3;have T3:=LH ((Turn.of_below B2.out).trans ht3 Grow.refl);clear hp3 ht3;go_wp2_with fail;refine(HT2.out _ P3.out).mono ?_;rintro e w4 ⟨rfl,hp4,ht4⟩;have P4:=LH hp4;have T4:=LH (T3.out.trans ht4 Grow.refl);clear hp4 ht4;go_wp2_with fail;refine(HA.out _ P4.out).mono ?_;rintro e w5 ⟨F5,rfl,hp5,ht5,hg5⟩
 have HE:Hid (PoolTo w g K l s F w5):=LH ⟨F5,hp5,T4.out.trans ht5 Grow.refl,fun b hb=>by
  rcases hg5 b hb with h|h
  ·exact .inl h
  ·exact .inr (Nat.le_trans T4.out.size h)⟩
 clear hp5 ht5 hg5;go_wp2_with fail;go_ret;exact⟨⟨_,rfl⟩,HE.out⟩
end Go.Proofs.YtlgnakobjkhmhaaGreatDoor
