/-
  Texts of this proof, one behind the other: Ref10Put, Ref10Of, BagMade, RoomLaw, JoinLaw, FoldN, Ref11, Ref16S, Ref11A, Ref11B, Ref06S, Ref06T, FoldS, Ref06F, Ref07A, Ref07B, Ref11C, Ref11D.
-/
import Derived.Deep.RegionWith
import Derived.Deep.DeepCutAuto
import Derived.Test.YtandlhihcnadmaaGreatR1
import Derived.Test.YtandlhihcnadmaaGreatR2
import Derived.Test.YtandlhihcnadmaaGreatR3
import Derived.Test.YtandlhihcnadmaaGreatR4
set_option linter.unusedVariables false
set_option linter.unusedSimpArgs false
set_option maxRecDepth 100000
set_option maxHeartbeats 16000000
namespace Go.Proofs.YtandlhihcnadmaaGreat
open Go.ChangeShapes Go.WideShapes Go.ChangeAt Go.RowKit
def putL:List Nd→Int→Int→Bool→List Nd
 | [],x,c,d=>if d=true then [] else [(x,c)]
 |z :: m,x,c,d=>if z.1=x then (z.1,z.2+c) :: putL m x c true else if x<z.1∧d=false then (x,c) :: z :: putL m x c true else z :: putL m x c d

def madeB (l:Nat) (r:List Nd) :List Nd:=r.foldl (fun m z=>(addB l m z.1 z.2).1) []
def sumP (P:List Int) (g:Int→Int) :Int:=(P.map g).sum
theorem sumP_add (P:List Int) (g h:Int→Int) :sumP P (fun p=>g p+h p) =sumP P g+sumP P h:=by
 unfold sumP
 induction P with
 |nil=>rfl
 |cons p P ih=>simp only [List.map_cons,List.sum_cons,ih];omega
theorem sumP_zero (P:List Int) (a c:Int) (h:a∉P) :sumP P (fun p=>if a=p then c else 0) =0:=by
 unfold sumP
 induction P with
 |nil=>rfl
 |cons p P ih=>
  simp only [List.map_cons,List.sum_cons];rw [ih fun hm=>h (List.mem_cons_of_mem _ hm),if_neg (by rintro rfl;exact h (by simp))]
  rfl
theorem sumP_one (P:List Int) (hP:P.Nodup) (a c:Int) (h:a∈P) :sumP P (fun p=>if a=p then c else 0) =c:=by
 induction P with
 |nil=>simp at h
 |cons p P ih=>
  obtain⟨h1,h2⟩:=List.nodup_cons.1 hP;have e:sumP (p :: P) (fun p=>if a=p then c else 0) = (if a=p then c else 0) +sumP P (fun p=>if a=p then c else 0):=by simp [sumP]
  rw [e];by_cases hap:a=p
  ·subst hap
   rw [if_pos rfl,sumP_zero P a c h1];omega
  ·rw [if_neg hap,ih h2 (by simpa [hap] using h)];omega
theorem sumP_le {P:List Int} {g h:Int→Int} (hg: ∀p∈P,g p≤h p) :sumP P g≤sumP P h:=by
 unfold sumP
 induction P with
 |nil=>simp
 |cons p P ih=>
  simp only [List.map_cons,List.sum_cons];have:=hg p (by simp);have:=ih fun q hq=>hg q (by simp [hq]);omega
theorem sumP_const (P:List Int) (c:Int) :sumP P (fun _=>c) =P.length*c:=by
 unfold sumP
 induction P with
 |nil=>simp
 |cons p P ih=>simp only [List.map_cons,List.sum_cons,ih,List.length_cons];push_cast;rw [Int.add_mul];omega
theorem pairR_cons {x:Nd} {r:List Nd} (h:Roll (x :: r)) (p:Int) :pairR (x :: r) p= (if x.1 / 2=p then x.2 else 0) +pairR r p:=by
 have hn:getR r x.1=0:=getR_none fun y hy=>by have:=h.head y hy;omega
 unfold pairR;simp only [getR];by_cases h1:x.1=2*p
 ·rw [if_pos h1,if_neg (by omega),if_pos (by omega)]
  rw [h1] at hn;omega
 ·rw [if_neg h1]
  by_cases h2:x.1=2*p+1
  ·rw [if_pos h2,if_pos (by omega)]
   rw [h2] at hn;omega
  ·rw [if_neg h2,if_neg (by omega)];omega
theorem getR_cons {x:Nd} {r:List Nd} (h:Roll (x :: r)) (p:Int) :getR (x :: r) p= (if x.1=p then x.2 else 0) +getR r p:=by
 have hn:getR r x.1=0:=getR_none fun y hy=>by have:=h.head y hy;omega
 simp only [getR];by_cases h1:x.1=p
 ·rw [if_pos h1,if_pos h1];rw [h1] at hn;omega
 ·rw [if_neg h1,if_neg h1];omega
theorem sum_pairs_le {P:List Int} (hP:P.Nodup) : ∀{r:List Nd},Roll r→sumP P (pairR r)≤sumR r:=by
 intro r
 induction r with
 |nil=>intro _;have:pairR [] =fun _=>0:=by funext p;rfl
       rw [this,sumP_const];simp [sumR]
 |cons x r ih=>
  intro h;have e:pairR (x :: r) =fun p=>(if x.1 / 2=p then x.2 else 0) +pairR r p:=by funext p;exact pairR_cons h p
  rw [e,sumP_add];have h1:=ih h.tail;have h2:=(h.2 x (by simp)).2;simp only [sumR];by_cases hm:x.1 / 2∈P
  ·rw [sumP_one P hP _ _ hm];omega
  ·rw [sumP_zero P _ _ hm];omega
theorem sum_own_le {P:List Int} (hP:P.Nodup) : ∀{r:List Nd},Roll r→sumP P (getR r)≤sumR r:=by
 intro r
 induction r with
 |nil=>intro _;have:getR [] =fun _=>0:=by funext p;rfl
       rw [this,sumP_const];simp [sumR]
 |cons x r ih=>
  intro h;have e:getR (x :: r) =fun p=>(if x.1=p then x.2 else 0) +getR r p:=by funext p;exact getR_cons h p
  rw [e,sumP_add];have h1:=ih h.tail;have h2:=(h.2 x (by simp)).2;simp only [sumR];by_cases hm:x.1∈P
  ·rw [sumP_one P hP _ _ hm];omega
  ·rw [sumP_zero P _ _ hm];omega
theorem sum_pairs_ge {P:List Int} (hP:P.Nodup) : ∀{r:List Nd},Roll r→(∀x∈r,x.1≠1→x.1 / 2∈P)→sumR r≤sumP P (pairR r) +getR r 1:=by
 intro r
 induction r with
 |nil=>intro _ _;have:pairR [] =fun _=>0:=by funext p;rfl
       rw [this,sumP_const];simp [sumR,getR]
 |cons x r ih=>
  intro h hc;have e:pairR (x :: r) =fun p=>(if x.1 / 2=p then x.2 else 0) +pairR r p:=by funext p;exact pairR_cons h p
  rw [e,sumP_add,getR_cons h];have h1:=ih h.tail fun y hy=>hc y (by simp [hy]);have h2:=(h.2 x (by simp)).2;simp only [sumR];by_cases h1':x.1=1
  ·rw [if_pos h1']
   have:0≤sumP P (fun p=>if x.1 / 2=p then x.2 else 0):=by
    by_cases hm:x.1 / 2∈P
    ·rw [sumP_one P hP _ _ hm];omega
    ·rw [sumP_zero P _ _ hm];omega
   omega
  ·rw [if_neg h1',sumP_one P hP _ _ (hc x (by simp) h1')];omega
def onesR (r:List Nd) :List Nd:=r.map fun x=>(x.1,1)
theorem ones_roll {r:List Nd} (h:Roll r) :Roll (onesR r):=by
 refine⟨?_,fun x hx=> ?_⟩
 ·unfold onesR;rw [List.pairwise_map];exact h.1
 ·obtain⟨y,hy,rfl⟩:=List.mem_map.1 hx
  have:=h.2 y hy;exact⟨this.1,Int.le_refl _⟩
theorem ones_sum (r:List Nd) :sumR (onesR r) =r.length:=by
 induction r with
 |nil=>rfl
 |cons x r ih=>simp only [onesR,List.map_cons,sumR,List.length_cons] at ih⊢;rw [ih];push_cast;omega
theorem ones_get (r:List Nd) (id:Int) :getR (onesR r) id≤1:=by
 induction r with
 |nil=>simp [onesR,getR]
 |cons x r ih=>
  simp only [onesR,List.map_cons,getR] at ih⊢
  split
  ·omega
  ·exact ih
theorem tight_len {l:Nat} {r:List Nd} (hf:Fits l r) (hl:1≤l∧l≤48) {k:Int} (hk:1≤k) (ht: ∀p,readyR l r p (sumR r / k) =false) : (r.length:Int)≤4*k - 1:=by
 have hP:=(putAll_wait (halves r)).once;have hPm:=putAll_mem (halves r);generalize putAll (halves r) =P at hP hPm
 have hcov: ∀x∈r,x.1≠1→x.1 / 2∈P:=fun x hx h1=>by
  have:=(hf.roll.2 x hx).1;exact(hPm _).2 ⟨by omega,List.mem_map.2 ⟨x,hx,rfl⟩⟩
 have hbig: ∀p∈P,sumR r / k+1≤pairR r p+getR r p:=fun p hp=>by
  obtain⟨h1,h2⟩:=(hPm p).1 hp;obtain⟨x,hx,rfl⟩:=List.mem_map.1 h2;have h3:=hf.lt x hx;have h4:=(hf.roll.2 x hx).2;have h5:=getR_mem hf.roll hx;have h6:=hf.nodes hl x hx
  have hpos:0<pairR r (x.1 / 2):=by
   have g1:=getR_nonneg hf.roll (2* (x.1 / 2));have g2:=getR_nonneg hf.roll (2* (x.1 / 2) +1);unfold pairR;rcases (by omega:x.1=2* (x.1 / 2)∨x.1=2* (x.1 / 2) +1) with e|e
   ·have e':=congrArg (getR r) e
    omega
   ·have e':=congrArg (getR r) e
    omega
  have hk1: (kidsOf l (x.1 / 2)).2.2=true:=by
   rw [kids_iff];refine⟨?_,by omega⟩;have hp:=pow_pos' l;simp only [isNode,decide_eq_true_eq,Int.toNat_natCast] at h6⊢;omega
  have hnot:=ht (x.1 / 2);rw [←Bool.not_eq_true,ready_iff] at hnot
  apply Classical.byContradiction
  intro hc;exact hnot ⟨hk1,hpos,by omega⟩
 have a1:=sum_pairs_le hP hf.roll;have a2:=sum_own_le hP hf.roll;have a3:=sumP_le hbig;rw [sumP_const P (sumR r / k+1),sumP_add P (pairR r) (getR r)] at a3
 have a4:=sum_pairs_ge hP (ones_roll hf.roll) (fun x hx h1=>by
  obtain⟨y,hy,rfl⟩:=List.mem_map.1 hx;exact hcov y hy h1)
 rw [ones_sum] at a4
 have a5:sumP P (pairR (onesR r))≤sumP P (fun _=>2):=sumP_le fun p _=>by
  have:=ones_get r (2*p);have:=ones_get r (2*p+1);unfold pairR;omega
 rw [sumP_const] at a5;have a6:=ones_get r 1;have hN:=sumR_nonneg hf.roll
 have hm:sumR r<k* (sumR r / k+1):=by
  have:=Int.lt_ediv_add_one_mul_self (sumR r) (show 0<k by omega);rw [Int.mul_comm];exact this
 have hm0:0≤sumR r / k:=Int.ediv_nonneg hN (by omega)
 have hP2: (P.length:Int) <2*k:=by
  apply Classical.byContradiction
  intro hc;have:2*k* (sumR r / k+1)≤P.length* (sumR r / k+1):=Int.mul_le_mul_of_nonneg_right (by omega) (by omega);rw [Int.mul_assoc] at this;omega
 omega
theorem DoTo.room {l:Nat} {k:Int} {r r':List Nd} {o:Op3} {n:Int} (h:DoTo l k r o r' n) (hf:Fits l r) (hl:1≤l∧l≤48) (hk:1≤k) (hr: (r.length:Int)≤8*k) : (r'.length:Int)≤8*k:=by
 rcases h with ⟨_,ps,h,_⟩ | ⟨_,rfl,_⟩ | ⟨_,_,h,_⟩
 ·have:=h.folded.len hf;omega
 ·simp;omega
 ·rcases h with ⟨_,rfl⟩ | ⟨_,s,h,rfl⟩
  ·exact hr
  ·have hs:=h.same hf
   rw [len_add hs.1.roll];rcases h with ⟨_,h1,ps,h⟩ | ⟨h1,rfl⟩
   ·have ht:=tight_len hs.1 hl hk (fun p=>by rw [hs.2.1];exact h.tight p)
    split <;> omega
   ·split
    ·rename_i h0
     have: ¬8*k≤s.length:=fun h2=>h1 ⟨h0,h2⟩;omega
    ·omega
theorem total_ok {n:Int} {r:List Nd} (h1: ∀x∈r,1≤x.2) (hn:0≤n) (hs:n+sumR r≤72057594037927935) :totalFrom n r= (n+sumR r,true):=by
 induction r generalizing n with
 |nil=>simp [totalFrom,sumR]
 |cons x r ih=>
  have h2:=h1 x (by simp);have h3:=(sumR_pos fun y hy=>h1 y (List.mem_cons_of_mem _ hy)).1;simp only [sumR] at hs⊢;have e:addOf n x.2= (n+x.2,true):=by unfold addOf;rw [if_pos (by omega)]
  simp only [totalFrom,e];rw [if_pos ⟨trivial,by unfold most;omega⟩,ih (fun y hy=>h1 y (List.mem_cons_of_mem _ hy)) (by omega) (by omega)]
  congr 1;omega
theorem rises_ok {l last:Int} {r:List Nd} (h: ∀x∈r,last<x.1∧isNode l x.1=true∧1≤x.2) (hp:r.Pairwise fun a b=>a.1<b.1) :risesFrom l last r=true:=by
 induction r generalizing last with
 |nil=>rfl
 |cons x r ih=>
  obtain⟨h1,h2,h3⟩:=h x (by simp);obtain⟨p1,p2⟩:=List.pairwise_cons.1 hp;simp only [risesFrom,Bool.and_eq_true,decide_eq_true_eq];exact⟨⟨⟨h1,h2⟩,h3⟩,ih (fun y hy=>⟨p1 y hy,(h y (List.mem_cons_of_mem _ hy)).2⟩) p2⟩
theorem fits_right {l:Nat} {r:List Nd} (hf:Fits l r) (hl:1≤l∧l≤48) :rightOf l r=true:=by
 have hp:=pow_pos' l;unfold rightOf totalOf;rw [total_ok (fun x hx=>(hf.roll.2 x hx).2) (Int.le_refl _) (by have:=hf.sum;omega),rises_ok (fun x hx=>⟨by have:=(hf.roll.2 x hx).1;omega,hf.nodes hl x hx,(hf.roll.2 x hx).2⟩) hf.roll.1];simp only [Bool.true_and,isNode,decide_eq_true_eq,Int.toNat_natCast];omega
def joinR (a b:List Nd) :List Nd:=addAll [] (msort (a ++ b))
theorem joinR_sum {a b:List Nd} (ha:Roll a) (hb:Roll b) :SumOf a b (joinR a b):=fold_sum ha hb
theorem addAll_len: ∀(L r:List Nd),(addAll r L).length≤r.length+L.length:=by
 intro L
 induction L with
 |nil=>intro r;simp [addAll]
 |cons x L ih=>
  intro r;have h1:=ih (addR r x.1 x.2);have h2:=addR_len r x.1 x.2;simp only [addAll,List.foldl_cons,List.length_cons] at h1⊢;omega
theorem joinR_len (a b:List Nd) : (joinR a b).length≤a.length+b.length:=by
 have h:=addAll_len (msort (a ++ b)) [];rw [msort_len,List.length_append,List.length_nil] at h;unfold joinR;omega
theorem fits_ints {l:Nat} {r:List Nd} (hf:Fits l r) (hl:l≤48) :ints r:=by
 intro x hx;have h1:=hf.roll.2 x hx;have h2:=hf.lt x hx;have h3:=getR_le_sum hf.roll x.1;rw [getR_mem hf.roll hx] at h3;have h4:=hf.sum;have h5: (2:Int) ^l≤2^48:=by exact_mod_cast Nat.pow_le_pow_right (by decide) hl
 have h6: (2:Int) ^48=281474976710656:=by decide
 unfold i64;omega
theorem light_weaker {l:Nat} {k k2:Int} {r:List Nd} (hf:Roll r) (h:lightOf l r k=true) (h1:1≤k2) (h2:k2≤k) :lightOf l r k2=true:=light_of fun x hx hk=>by
 have a:=light_all h x hx hk;have s0:=sumR_nonneg hf
 have:sumR r / k≤sumR r / k2:=by
  have e1:=Int.mul_ediv_add_emod (sumR r) k;have e2:=Int.emod_nonneg (sumR r) (show k≠0 by omega);have q0:0≤sumR r / k:=Int.ediv_nonneg s0 (by omega);refine Int.le_ediv_of_mul_le (by omega) ?_;have:sumR r / k*k2≤sumR r / k*k:=Int.mul_le_mul_of_nonneg_left h2 q0;have e3:k* (sumR r / k) =sumR r / k*k:=Int.mul_comm _ _;omega
 omega
structure Joined (l:Nat) (k2:Int) (ra rb rc:List Nd) :Prop where
 fits:Fits l rc
 light:lightOf l rc k2=true
 room: (rc.length:Int)≤8*k2
 len:rc.length≤ra.length+rb.length
 sum:sumR rc=sumR ra+sumR rb
 by_: ∃pa sa pb sb,RunTo l (sumR ra / k2) ra pa sa∧RunTo l (sumR rb / k2) rb pb sb∧rc=joinR sa sb
theorem joined_of {l:Nat} {k2:Int} {ra rb sa sb:List Nd} {pa pb:List Int} (hl:1≤l∧l≤48) (hk:1≤k2) (fa:Fits l ra) (fb:Fits l rb) (la:lightOf l ra k2=true) (lb:lightOf l rb k2=true) (hs:sumR ra+sumR rb≤72057594037927935)
 (ha:RunTo l (sumR ra / k2) ra pa sa) (hb:RunTo l (sumR rb / k2) rb pb sb) :Joined l k2 ra rb (joinR sa sb):=by
 have fsa:=ha.folded.fits fa;have fsb:=hb.folded.fits fb;have lsa:=ha.folded.light fa la;have lsb:=hb.folded.light fb lb;have esa:=ha.folded.sum fa;have esb:=hb.folded.sum fb;have hS:=joinR_sum fsa.roll fsb.roll;have ta:=tight_len fsa hl hk (fun p=>by rw [esa];exact ha.tight p);have tb:=tight_len fsb hl hk (fun p=>by rw [esb];exact hb.tight p);have hlen:=joinR_len sa sb;have na:=ha.folded.len fa;have nb:=hb.folded.len fb;have hsum:sumR (joinR sa sb) =sumR ra+sumR rb:=by rw [hS.sum,esa,esb]
 refine⟨⟨hS.roll,fun x hx=> ?_,by rw [hsum];exact hs⟩,light_of fun x hx hi=> ?_,by omega,by omega,hsum,pa,sa,pb,sb,ha,hb,rfl⟩
 ·rcases hS.cases fsa.roll fsb.roll hx with ⟨y,hy,e⟩ | ⟨y,hy,e⟩
  ·rw [←e];exact fsa.lt y hy
  ·rw [←e];exact fsb.lt y hy
 ·have h1:=getR_mem hS.roll hx
  have h2:=get_light fsa.roll hk lsa hi;have h3:=get_light fsb.roll hk lsb hi;have h4:=div_add_le (a:=sumR sa) (b:=sumR sb) hk;rw [hS.get] at h1;rw [hS.sum];omega
theorem Joined.load {l K:Nat} {k2:Int} {ra rb rc:List Nd} (h:Joined l k2 ra rb rc) (hl:1≤l∧l≤48) (hd:isDig l k2 K=true) :loadErr l k2 K rc=0:=by
 unfold loadErr;rw [if_neg (by simp [hd]),if_neg (by simp [fits_right h.fits hl]),if_neg (by have:=h.room;omega),if_neg (by simp [h.light])]
theorem fold_step {l:List Nd} (hp: ∀x∈l,1≤x.1∧1≤x.2) (hs:sumR l≤72057594037927935) {q:Nat} (h:q< (msort l).length) :
 (addAll [] ((msort l).take q) = []∧addAll [] ((msort l).take (q+1)) = [(msort l)[q]])∨
 ∃(L:List Nd) (y:Nd),addAll [] ((msort l).take q) =L ++ [y]∧L.length<q∧0≤y.2∧y.2+ (msort l)[q].2≤72057594037927935+72057594037927935∧
  ((y.1= (msort l)[q].1∧addAll [] ((msort l).take (q+1)) =L ++ [(y.1,y.2+ (msort l)[q].2)])∨(y.1≠(msort l)[q].1∧addAll [] ((msort l).take (q+1)) = (L ++ [y]) ++ [(msort l)[q]])):=by
 have hpm: ∀x∈msort l,1≤x.1∧1≤x.2:=fun x hx=>hp x ((msort_perm l).mem_iff.1 hx);have e:=addAll_take h;have hsort:=msort_sorted l
 have hsum: ∀k,sumR ((msort l).take k)≤sumR l:=fun k=>by
  rw [←fold_sumR_perm (msort_perm l)];have e1:sumR ((msort l).take k ++ (msort l).drop k) =sumR (msort l):=by rw [List.take_append_drop]
  have e2:=(sumR_pos fun x hx=>(hpm x (List.mem_of_mem_drop (i:=k) hx)).2).1;rw [sumR_append] at e1;omega
 have hx:=hpm _ (List.getElem_mem h);obtain⟨i1,i2,_⟩:=addAll_roll (r:= []) (L:=(msort l).take q) ⟨.nil,by simp⟩ fun x hx=>hpm x (List.mem_of_mem_take hx)
 have hle: ∀z∈addAll [] ((msort l).take q),z.1≤(msort l)[q].1:=addAll_le (by simp) fun z hz=>by
  obtain⟨i,hi,rfl⟩:=List.getElem_of_mem hz;rw [List.length_take] at hi;rw [List.getElem_take];exact List.pairwise_iff_getElem.1 hsort i q (by omega) h (by omega)
 have hlen:=addAll_len ((msort l).take q) [];rw [List.length_take,List.length_nil] at hlen;have hq:=hsum q
 have hxl: (msort l)[q].2≤sumR l:=by
  have e3:=hsum (q+1);rw [List.take_succ_eq_append_getElem h,sumR_append] at e3;have e4:=(sumR_pos fun x hx=>(hpm x (List.mem_of_mem_take (i:=q) hx)).2).1;simp only [sumR] at e3;omega
 rw [e];generalize addAll [] ((msort l).take q) =M at i1 i2 hle hlen⊢;generalize (msort l)[q] =x at hx hle hxl⊢;rcases List.eq_nil_or_concat M with rfl| ⟨L,y,rfl⟩
 ·left;exact⟨rfl,by simp [addR]⟩
 ·right
  simp only [List.concat_eq_append] at*;have hy:=i1.2 y (by simp);have hlt: ∀z∈L,z.1<y.1:=fun z hz=>(List.pairwise_append.1 i1.1).2.2 z hz y (by simp);have hyx:=hle y (by simp);have hL:=(sumR_pos fun z hz=>(i1.2 z (List.mem_append_left _ hz)).2).1;rw [sumR_append] at i2;simp only [sumR] at i2;rw [List.length_append] at hlen;refine⟨L,y,rfl,by simp at hlen;omega,by omega,by omega,?_⟩;by_cases hxy:y.1=x.1
  ·left
   refine⟨hxy,?_⟩;rw [←hxy];exact addR_bump hlt
  ·right
   refine⟨hxy,?_⟩
   exact addR_new fun z hz=>by
    rcases List.mem_append.1 hz with hz|hz
    ·have:=hlt z hz;omega
    ·rw [List.mem_singleton.1 hz];omega
theorem own_last {w:World} {base e:Nat} {v:Value} {L:List Nd} {y:Nd} (h:Own w base e encN v (L ++ [y])) : ∃g off n cap,v=.slice (some ⟨g,off,none⟩) n cap∧n=L.length+1:=by
 rcases h with ⟨_,h⟩ | ⟨g,off,cap,cur,rfl,_⟩
 ·simp at h
 ·exact⟨g,off,_,cap,rfl,by simp⟩
theorem own_last_cells {w:World} {base e g off n cap:Nat} {L:List Nd} {y:Nd} (h:Own w base e encN (.slice (some ⟨g,off,none⟩) n cap) (L ++ [y])) :
 g<w.heap.size∧base≤g∧(∀j,w.frozen? ⟨g,j,none⟩ =false)∧w.cell? ⟨g,off+L.length*2,none⟩ =some (.int .i64 y.1)∧w.cell? ⟨g,off+L.length*2+1,none⟩ =some (.int .i64 y.2):=by
 have h1:=h.lt g rfl;have hk: (L ++ [y])[L.length]? =some y:=by simp
 rcases h.sl with h2| ⟨b,o,hA,_,hc⟩
 ·simp at h2
 ·cases hA
  exact⟨h1.2,h1.1,fun j=>h.frozen j,hc _ y hk 0 _ rfl,hc _ y hk 1 _ rfl⟩
def BumpS (w2:World) (g oo n co:Nat) (L:List Nd) (y:Nd) (px:Nat) (x1 x2:Int) (W:World) :Prop:=
 Own W w2.heap.size 154 encN (.slice (some ⟨g,oo,none⟩) n co) (L ++ [y])∧W.heap[px]? =some (.cells #[.int .i64 x1,.int .i64 x2] 154 (0,0))∧Below w2.heap.size w2 W
theorem bump_own {w2:World} {g oo n co:Nat} {L:List Nd} {y1 y2:Int} {px:Nat} {x2:Int} {W:World} (h:BumpS w2 g oo n co L (y1,y2) px y1 x2 W) :
 Own (W.setCell ⟨g,oo+L.length*2+1,none⟩ (.int .i64 (y2+x2))) w2.heap.size 154 encN (.slice (some ⟨g,oo,none⟩) n co) (L ++ [(y1,y2+x2)]):=by
 have hk:L.length< (L ++ [(y1,y2)]).length:=by simp
 have:=h.1.setElem L.length 1 hk (by decide) (.int .i64 (y2+x2)) (y1,y2+x2) (by rw [List.getElem_append_right (Nat.le_refl _)];simp [encN])
 rwa [List.set_append_right _ _ (Nat.le_refl _),Nat.sub_self,List.set_cons_zero] at this
theorem bump_below {w2:World} {g oo n co:Nat} {L:List Nd} {y:Nd} {px:Nat} {x1 x2:Int} {W:World} (h:BumpS w2 g oo n co L y px x1 x2 W) (u:Value) {o:Nat} :Below w2.heap.size w2 (W.setCell ⟨g,o,none⟩ u):=
 h.2.2.setCell (p:=⟨g,o,none⟩) (own_last_cells h.1).2.1 u
def FoldPost (l:List Nd) (w:World) (e:Ending) (w':World) :Prop:=∃v,e=.returned (.tuple #[v,.bool true])∧Own w' w.heap.size 154 encN v (addAll [] (msort l))∧Below w.heap.size w w'
theorem roll_Fold (w:World) (A:Option Addr) (cap:Nat) (l:List Nd) (hS:Sl w w.heap.size encN A l) (hI:ints l) (hp: ∀x∈l,1≤x.1∧1≤x.2) (hs:sumR l≤72057594037927935) (hc:l.length≤cap) (hcm:cap≤maxLen) (hn:l.length≤67108863) :
 Calls Tryz.prog 195 #[.slice A l.length cap] w (FoldPost l w):=by
 have hT:totalOf l= (sumR l,true):=by unfold totalOf;rw [total_ok (fun x hx=>(hp x hx).2) (Int.le_refl _) (by omega)];simp
 have HT:=LH (fun W h=>roll_Total W A cap l h hI (by omega));rw [hT] at HT;unfold okV at HT;have HSo:=LH (fun W h=>roll_Sorted W (.slice A l.length cap) l h (by omega));have HStep:=LH (fun q (h:q< (msort l).length)=>fold_step hp hs h);have hpm: ∀x∈msort l,1≤x.1∧1≤x.2:=fun x hx=>hp x ((msort_perm l).mem_iff.1 hx);have HP:=LH hpm;have hml:=msort_len l;have HS:=LH hS;unfold FoldPost;obtain⟨S,hSe⟩ : ∃S,S=msort l:=⟨_,rfl⟩;rw [←hSe] at HSo HStep HP hml⊢;clear hS hI hp hs hT hpm hSe;have hc':=LH hc;have hcm':=LH hcm;clear hc hcm
 go_enter Tryz.func195,Tryz.ntmps195
 go_wp2_with fail;refine(HT.out w HS.out).mono ?_;rintro e w1 ⟨rfl,hb1⟩;have R1:Hid (Rd w1 encN (.slice A l.length cap) l):=LH ⟨A,cap,rfl,hc'.out,hcm'.out,HS.out.keep hb1.size fun p hp=>hb1.cell hp⟩;have B1:=LH hb1;clear hb1 HT HS;go_wp2_with fail;refine(HSo.out w1 R1.out).mono ?_;rintro e w2 ⟨v2,rfl,ho2,hb2⟩;obtain⟨A2,c2,rfl,_⟩:=ho2.form;have S2:=LH ho2.sl;have B2:=LH (Below.then_ B1.out hb2);clear ho2 hb2 HSo R1 B1;have hSl:S.length≤67108863:=by omega
 clear hml hn;go_wp2_with fail
 go_loopw [6,20] (fun o i wr=>∃q,q≤S.length∧i=.int .i64 q∧Own wr w2.heap.size 154 encN o (addAll [] (S.take q))∧Below w2.heap.size w2 wr) (fun _ i _=>S.length - (intOf i).toNat)
 case atStart=>exact⟨0,Nat.zero_le _,rfl,.nil _ _ _ _,Below.refl _ _⟩
 case round=>
  obtain⟨q,hq,rfl,ho,hB⟩:=hrel;have HO:=LH ho;have HB:=LH hB;have sz:=hB.size;clear ho hB;by_cases hlt:q<S.length
  ·obtain⟨b,off,rfl,hb,hc⟩:=S2.out.at_ hlt
   have d0:=(HB.out.cell (p:=⟨b,off+q*2+0,none⟩) hb).trans (hc 0 (.int .i64 S[q].1) rfl);have d1:=(HB.out.cell (p:=⟨b,off+q*2+1,none⟩) hb).trans (hc 1 (.int .i64 S[q].2) rfl);simp only [Nat.add_zero] at d0;have hx:=HP.out _ (List.getElem_mem hlt);have hst:=HStep.out q hlt;have lb:b<wr.heap.size:=Nat.lt_of_lt_of_le hb sz;obtain⟨x,hxe⟩ : ∃x,x=S[q]:=⟨_,rfl⟩;rw [←hxe] at d0 d1 hx hst;clear hc hxe;obtain⟨x1,x2⟩:=x;simp only at d0 d1 hx hst;have hx1: ¬x1<1:=by omega
   have hx2: (x2 == 0) =false:=by simp;omega
   obtain⟨M,hM⟩ : ∃M,M=addAll [] (S.take q):=⟨_,rfl⟩;rw [←hM] at HO hst;clear hM;rcases hst with ⟨rfl,hN⟩ | ⟨L,y,rfl,hLq,hy0,hyx,hN⟩
   ·-- the list is empty
    have HN:=LH hN;clear hN;obtain⟨Ao,co,rfl,_⟩:=HO.out.form;have OA:=LH (HO.out.alloc (.cells #[.int .i64 x1,.int .i64 x2] 154));have BA:=LH (HB.out.alloc sz (.cells #[.int .i64 x1,.int .i64 x2] 154));have XA:=LH (heap_alloc_new wr (.cells #[.int .i64 x1,.int .i64 x2] 154));go_upto_region 13 with fail;obtain⟨px,hpx⟩ : ∃p,p=wr.heap.size:=⟨_,rfl⟩;rw [←hpx] at XA⊢;generalize wr.alloc (.cells #[.int .i64 x1,.int .i64 x2] 154) =w3 at OA BA XA⊢;clear hpx d0 d1 lb HO HB sz;have sz:=BA.out.size;have x0:=bC XA.out;have xz:=lB XA.out;refine rX (by kernel_rfl) (by kernel_rfl) ?_
    repeat (go_big_quiet_step (fail))
    refine wpQuiet_nil ?_;intro w4 hb4;have hb4:=bX hb4;have O4:=LH (OA.out.below hb4);have X4:=LH (bB XA.out hb4);have B4:=LH (BA.out.trans (hb4.mono sz));clear hb4 OA XA BA x0 xz;have x0:=bC X4.out;have xz:=lB X4.out;have sz4:=B4.out.size;have O5:=LH (O4.out.alloc (.cells #[.int .i64 x1,.int .i64 x2] 154));go_wp2_with ((at_builtin;refine wpList_push tyN rfl _ _ rfl encN w4 w2.heap.size (.slice Ao ([] :List Nd).length co) [] rfl O4.out (x1,x2) (by go_simp) rfl ?c1 ?c2 ?c3 ?c4))
    try case c1=>simp
    try case c2=>simp [maxLen]
    try case c3=>exact sz4
    case c4=>
     intro v5 w5 ho5 _ _ _ hb5 _;have H5:=LH (And.intro ho5 (B4.out.trans hb5));clear ho5 hb5;go_wp2_with fail;go_roundw
     case rel=>exact⟨q+1,by omega,by go_num,by rw [HN.out];exact H5.out.1,H5.out.2⟩
     case measure=>simp [intOf];omega
   ·have HN:=LH hN
    clear hN;obtain⟨g,oo,n,co,rfl,hn⟩:=own_last HO.out;have hn':=LH hn;clear hn;have OA:=LH (HO.out.alloc (.cells #[.int .i64 x1,.int .i64 x2] 154));have BA:=LH (HB.out.alloc sz (.cells #[.int .i64 x1,.int .i64 x2] 154));have XA:=LH (heap_alloc_new wr (.cells #[.int .i64 x1,.int .i64 x2] 154));go_upto_region 13 with fail;obtain⟨px,hpx⟩ : ∃p,p=wr.heap.size:=⟨_,rfl⟩;rw [←hpx] at XA⊢;generalize wr.alloc (.cells #[.int .i64 x1,.int .i64 x2] 154) =w3 at OA BA XA⊢;clear hpx d0 d1 lb HO HB sz;have sz:=BA.out.size;have x0:=bC XA.out;have xz:=lB XA.out;obtain⟨gl,hgb,gf,c0,c1⟩:=own_last_cells OA.out;obtain⟨y1,y2⟩:=y;simp only at c0 c1 hy0 hyx HN;have hn:=hn'.out;have k0:wrap64 ((n:Int) - 1) = (L.length:Int):=by unfold wrap64;omega
    have k1: (0:Int) < (n:Int):=by omega
    have k1n:0<n:=by omega
    have k1d:decide ((0:Int) < (n:Int)) =true:=by simp;omega
    have k1e:decide (0<n) =true:=by simp;omega
    have k1g:decide ((n:Int) >0) =true:=by simp;omega
    have k2: (L.length:Int) < (n:Int):=by omega
    have k3: (0:Int)≤(L.length:Int):=by omega
    have kw:wrap64 (y2+x2) =y2+x2:=by unfold wrap64;omega
    have k0':IntKind.i64.wrap ((n:Int) - 1) = (L.length:Int):=by rw [IntKind.wrap_i64];omega
    have kw':IntKind.i64.wrap (y2+x2) =y2+x2:=by rw [IntKind.wrap_i64];omega
    clear hn;by_cases hxy:y1=x1
    ·subst hxy
     have HN2:Hid (addAll [] (S.take (q+1)) =L ++ [(y1,y2+x2)]):=LH (by rcases HN.out with ⟨_,h⟩ | ⟨h,_⟩ <;> first|exact h|exact absurd rfl h);clear HN;refine rX (by kernel_rfl) (by kernel_rfl) ?_
     repeat (go_big_quiet_step (fail))
     refine wpQuiet_nil ?_;intro w4 hb4;have hb4:=bX hb4;have S4:Hid (BumpS w2 g oo n co L (y1,y2) px y1 x2 w4):=LH ⟨OA.out.below hb4,bB XA.out hb4,BA.out.trans (hb4.mono sz)⟩;clear hb4 OA XA BA x0 xz gl hgb gf c0 c1 sz;go_upto_region 14 with fail;refine wp_region_noPanic ?_;refine wp_region_N (fun W'=>BumpS w2 g oo n co L (y1,y2) px y1 x2 W') [11] (by kernel_rfl) (⟨S4.out.1.drew,S4.out.2.1,S4.out.2.2.drew⟩) (fun hHeld=> ?_);have S5:=LH hHeld;refine nP 0 (Value.slice (some ⟨g,oo,none⟩) n co) (h:= ?_)
     (try simp only [zA,zB,zC,Act.put,zD,zE,zF])
     refine nP 1 (Value.int .i64 n) (h:= ?_)
     (try simp only [zA,zB,zC,Act.put,zD,zE,zF])
     refine nP 2 (Value.int .i64 L.length) (h:= ?_)
     (try simp only [zA,zB,zC,Act.put,zD,zE,zF])
     refine nP 3 (Value.pointer (some ⟨g,oo+L.length*2,none⟩)) (h:= ?_)
     (try simp only [zA,zB,zC,Act.put,zD,zE,zF])
     refine nP 4 (Value.pointer (some ⟨g,oo+L.length*2+1,none⟩)) (h:= ?_)
     (try simp only [zA,zB,zC,Act.put,zD,zE,zF])
     refine nT 5 (Value.int .i64 y2) (y:=Or.inl ⟨by rfl,fun W hW=>by have q1:=bC hW.2.1;have q2:=lB hW.2.1;obtain⟨q3,_,_,q4,q5⟩:=own_last_cells hW.1;go_simp⟩) (s:=S5.out) (h:= ?_)
     (try simp only [zA,zB,zC,Act.put,zD,zE,zF])
     refine nP 6 (Value.pointer (some ⟨px,1,none⟩)) (h:= ?_)
     (try simp only [zA,zB,zC,Act.put,zD,zE,zF])
     refine nT 7 (Value.int .i64 x2) (y:=Or.inl ⟨by rfl,fun W hW=>by have q1:=bC hW.2.1;have q2:=lB hW.2.1;obtain⟨q3,_,_,q4,q5⟩:=own_last_cells hW.1;go_simp⟩) (s:=S5.out) (h:= ?_)
     (try simp only [zA,zB,zC,Act.put,zD,zE,zF])
     refine nP 8 (Value.int .i64 (y2+x2)) (h:= ?_)
     (try simp only [zA,zB,zC,Act.put,zD,zE,zF])
     refine nP 9 (Value.pointer (some ⟨g,oo+L.length*2,none⟩)) (h:= ?_)
     (try simp only [zA,zB,zC,Act.put,zD,zE,zF])
     refine nP 10 (Value.pointer (some ⟨g,oo+L.length*2+1,none⟩)) (h:= ?_)
     (try simp only [zA,zB,zC,Act.put,zD,zE,zF])
     obtain⟨gl,_,gf,c0,c1⟩:=own_last_cells S5.out.1;refine nO (i:=11) (by kernel_rfl) rfl (fun K hK=> ?_);go_simp;refine hK.out _ _ (fun h _=>absurd (List.mem_singleton.2 rfl) h) ?_;clear hK K gl gf c0 c1
     (try simp only [zA,zB,zC,Act.put,zD,zE,zF])
     refine nD (by kernel_rfl) ?_ _;refine NoPanic.normal ?_;have O6:=LH (bump_own S5.out);have B6:=LH (bump_below S5.out (.int .i64 (y2+x2)) (o:=oo+L.length*2+1));clear S4 S5;go_wp2_with fail;go_roundw
     case rel=>exact⟨q+1,by omega,by go_num,by rw [HN2.out];exact O6.out,B6.out⟩
     case measure=>simp [intOf];omega
    ·have HN2:Hid (addAll [] (S.take (q+1)) = (L ++ [(y1,y2)]) ++ [(x1,x2)]):=LH (by rcases HN.out with ⟨h,_⟩ | ⟨_,h⟩ <;> first|exact absurd h hxy|exact h)
     have hne: (y1 == x1) =false:=by simpa using hxy
     clear HN hxy;refine rX (by kernel_rfl) (by kernel_rfl) ?_
     repeat (go_big_quiet_step (fail))
     refine wpQuiet_nil ?_;intro w4 hb4;have hb4:=bX hb4;have S4:Hid (BumpS w2 g oo n co L (y1,y2) px x1 x2 w4):=LH ⟨OA.out.below hb4,bB XA.out hb4,BA.out.trans (hb4.mono sz)⟩;clear hb4 OA XA BA x0 xz gl hgb gf c0 c1 sz;have x0:=bC S4.out.2.1;have xz:=lB S4.out.2.1;have sz4:=S4.out.2.2.size;have O4:=LH S4.out.1;have B4:=LH S4.out.2.2;clear S4;go_wp2_with ((at_builtin;refine wpList_push tyN rfl _ _ rfl encN w4 w2.heap.size (.slice (some ⟨g,oo,none⟩) n co) (L ++ [(y1,y2)]) rfl O4.out (x1,x2) (by go_simp) rfl ?d1 ?d2 ?d3 ?d4))
     case d1=>have:=hn'.out;(try simp only [List.length_append,List.length_cons,List.length_nil]);omega
     case d2=>have:=hn'.out;unfold maxLen;(try simp only [List.length_append,List.length_cons,List.length_nil]);omega
     try case d3=>exact sz4
     case d4=>
      intro v5 w5 ho5 _ _ _ hb5 _;have H5:=LH (And.intro ho5 (B4.out.trans hb5));clear ho5 hb5;go_wp2_with fail;go_roundw
      case rel=>exact⟨q+1,by omega,by go_num,by rw [HN2.out];simpa using H5.out.1,H5.out.2⟩
      case measure=>simp [intOf];omega
  ·obtain rfl:q=S.length:=by omega
   have HO2:Hid (Own wr w2.heap.size 154 encN u6 (addAll [] S)):=LH (by have:=HO.out;rwa [List.take_length] at this);clear HO;go_wp2_with fail
   go_ret2
   exact⟨_,rfl,HO2.out.base_le B2.out.size,B2.out.trans (HB.out.mono B2.out.size)⟩
theorem getR_no {r:List Nd} {id:Int} (h: ∀x∈r,x.1≠id) :getR r id=0:=by
 induction r with
 |nil=>rfl
 |cons x r ih=>simp only [getR];rw [if_neg (h x (by simp)),ih fun y hy=>h y (by simp [hy])]
theorem getR_first {r:List Nd} {id:Int} {q:Nat} (hq:q<r.length) (h: ∀x∈r.take q,x.1≠id) (he:r[q].1=id) :getR r id=r[q].2:=by
 induction r generalizing q with
 |nil=>simp at hq
 |cons x r ih=>
  cases q with
  |zero=>simp only [List.getElem_cons_zero] at he⊢;simp [getR,he]
  |succ q=>
   simp only [List.take_succ_cons,List.mem_cons] at h;simp only [List.getElem_cons_succ] at he⊢;simp only [getR];rw [if_neg (h x (.inl rfl))];exact ih (by simpa using hq) (fun y hy=>h y (.inr hy)) he
theorem ref6_Find (w:World) (A:Option Addr) (cap:Nat) (r:List Nd) (hS:Sl w w.heap.size encN A r) (hI:ints r) (hm:r.length≤maxLen) (id:Int) :
 Calls Tryz.prog 176 #[.slice A r.length cap,.int .i64 id] w fun e w'=>e=.returned (.int .i64 (getR r id))∧Below w.heap.size w w':=by
 have HS:=LH hS;have HI:=LH hI;unfold maxLen at hm;have HNo:=LH (@getR_no r id);have HYes:=LH (fun (q:Nat) hq h he=>@getR_first r id q hq h he);obtain⟨n,hn⟩ : ∃n,n=getR r id:=⟨_,rfl⟩;rw [←hn] at HNo HYes⊢;clear hS hI hn
 go_enter Tryz.func176,Tryz.ntmps176
 go_wp2_with fail
 go_loopw [5] (fun i wr=>∃q:Nat,q≤r.length∧i=.int .i64 q∧(∀x∈r.take q,x.1≠id)∧wr=w) (fun i _=>r.length - (intOf i).toNat)
 case atStart=>exact⟨0,Nat.zero_le _,rfl,by simp,rfl⟩
 case round=>
  obtain⟨q,hq,rfl,hX,rfl⟩:=hrel;have HX:=LH hX;clear hX;by_cases hlt:q<r.length
  ·obtain⟨b,off,rfl,hb,hc⟩:=HS.out.at_ hlt
   have d0:=hc 0 (.int .i64 r[q].1) rfl;have d1:=hc 1 (.int .i64 r[q].2) rfl;simp only [Nat.add_zero] at d0;have i1: (q:Int) < (r.length:Int):=by omega
   have HY:=LH (fun he=>HYes.out q hlt HX.out he)
   have HXx:Hid (r[q].1≠id→∀x∈r.take (q+1),x.1≠id):=LH fun h z hz=>by
    rw [List.take_succ_eq_append_getElem hlt] at hz;rcases List.mem_append.1 hz with hz|hz
    ·exact HX.out z hz
    ·rw [List.mem_singleton.1 hz];exact h
   obtain⟨x,hxe⟩ : ∃x,x=r[q]:=⟨_,rfl⟩;rw [←hxe] at d0 d1 HY HXx;clear hc hxe;by_cases he:x.1=id
   ·have he': (x.1 == id) =true:=by simpa using he
    have E2:=LH (HY.out he);clear he;go_wp2_with fail;go_ret;exact⟨by rw [E2.out];rfl,bE⟩
   ·have he': (x.1 == id) =false:=by simpa using he
    have HX2:=LH (HXx.out he);clear he;go_wp2_with fail;go_roundw
    case rel=>exact⟨q+1,by omega,by go_num,HX2.out,by first|rfl|trivial⟩
    case measure=>simp [intOf];omega
  ·obtain rfl:q=r.length:=by omega
   rw [List.take_length] at HX;have E2:=LH (HNo.out HX.out);have hqi:decide ((r.length:Int) < (r.length:Int)) =false:=by simp
   go_wp2_with fail;go_ret;exact⟨by rw [E2.out];rfl,bE⟩
theorem ref7_Get (w:World) (u:Int) (A:Option Addr) (cap:Nat) (r:List Nd) (hS:Sl w w.heap.size encN A r) (hI:ints r) (hm:r.length≤maxLen) (id:Int) :
 Calls Tryz.prog 138 #[.agg #[.int .i64 u,.slice A r.length cap],.int .i64 id] w fun e w'=>e=.returned (.int .i64 (getR r id))∧Below w.heap.size w w':=by
 have HC:=LH (ref6_Find · A cap r · hI hm id);have HS:=LH hS;clear hS hI hm;generalize getR r id=t at HC⊢
 go_enter Tryz.func138,Tryz.ntmps138
 go_wp2_with fail;refine(HC.out _ (HS.out.keep (by simp) fun p hp=>((Below.refl w.heap.size w).alloc (Nat.le_refl _) _).cell hp)).mono ?_;rintro e w1 ⟨rfl,hb1⟩;have B1:Below w.heap.size w w1:=Below.then_ bE hb1;have s1:=B1.size;have z1_0:w.heap.size<w1.heap.size:=by have:=hb1.size;(try simp at this);omega
 have y1_0:w.heap.size≤w1.heap.size:=Nat.le_of_lt z1_0;have c1_0:=czB hb1 (w.heap.size);have f1_0:=fzB hb1 (w.heap.size);go_wp2_with fail;go_ret;exact⟨rfl,bE⟩
def massR (l:Nat) (r:List Nd) (p:Int) :Int×Int:=if (kidsOf l p).2.2=true then (pairR r p,pairR r p+getR r p) else (0,0)
theorem ref11_Mass (w:World) (l:Nat) (A:Option Addr) (cap:Nat) (r:List Nd) (hS:Sl w w.heap.size encN A r) (hI:ints r) (hm:r.length≤maxLen) (hr:Roll r) (hs:sumR r≤72057594037927935) (p:Int) (hp:p≤9223372036854775807) :
 Calls Tryz.prog 217 #[.agg #[.int .i64 l,.slice A r.length cap],.int .i64 p] w fun e w'=>e=.returned (.tuple #[.int .i64 (massR l r p).1,.int .i64 (massR l r p).2])∧Below w.heap.size w w':=by
 have HK:=LH (ref2_Kids · l p hp);have HS:=LH (hS.keep (B':=w.heap.size) (Nat.le_refl _) fun p hp=>((Below.refl w.heap.size w).alloc (Nat.le_refl _) (.cells #[.int .i64 l,.slice A r.length cap] 33)).cell hp)
 cases hk: (kidsOf l p).2.2
 ·have e1:massR l r p= (0,0):=by simp [massR,hk]
  rw [e1];rw [kids_no hk] at HK;unfold endsV at HK;clear hS hI hr hk e1
  go_enter Tryz.func217,Tryz.ntmps217
  go_wp2_with fail;refine(HK.out _).mono ?_;rintro e w1 ⟨rfl,hb1⟩;have B1:Below w.heap.size w w1:=Below.then_ bE hb1;have s1:=B1.size;have z1_0:w.heap.size<w1.heap.size:=by have:=hb1.size;(try simp at this);omega
  have y1_0:w.heap.size≤w1.heap.size:=Nat.le_of_lt z1_0;have c1_0:=czB hb1 (w.heap.size);have f1_0:=fzB hb1 (w.heap.size);go_wp2_with fail
  go_ret2
  exact⟨rfl,bE⟩
 ·have e1:massR l r p= (pairR r p,pairR r p+getR r p):=by simp [massR,hk]
  rw [e1];rw [kids_yes hk] at HK;unfold endsV at HK;have HG1:=LH (ref7_Get · l A cap r · hI hm (2*p));have HG2:=LH (ref7_Get · l A cap r · hI hm (2*p+1));have HG3:=LH (ref7_Get · l A cap r · hI hm p);have a0:=getR_nonneg hr (2*p);have a1:=getR_le_sum hr (2*p);have b0:=getR_nonneg hr (2*p+1);have b1:=getR_le_sum hr (2*p+1);have c0:=getR_nonneg hr p;have c1:=getR_le_sum hr p;unfold pairR;generalize getR r (2*p) =n1 at HG1 a0 a1⊢;generalize getR r (2*p+1) =n2 at HG2 b0 b1⊢;generalize getR r p=n3 at HG3 c0 c1⊢;generalize sumR r=n4 at hs a1 b1 c1;obtain⟨p1,hp1⟩ : ∃z,z=2*p:=⟨_,rfl⟩;obtain⟨p2,hp2⟩ : ∃z,z=2*p+1:=⟨_,rfl⟩;rw [←hp2] at HK HG2;rw [←hp1] at HK HG1;clear hS hI hr hk e1 hp1 hp2
  go_enter Tryz.func217,Tryz.ntmps217
  go_wp2_with fail;refine(HK.out _).mono ?_;rintro e w1 ⟨rfl,hb1⟩;have B1:Below w.heap.size w w1:=Below.then_ bE hb1;have s1:=B1.size;have z1_0:w.heap.size<w1.heap.size:=by have:=hb1.size;(try simp at this);omega
  have y1_0:w.heap.size≤w1.heap.size:=Nat.le_of_lt z1_0;have c1_0:=czB hb1 (w.heap.size);have f1_0:=fzB hb1 (w.heap.size);have zw1:w.heap.size≤w1.heap.size:=by have:=hb1.size;simp at this;omega
  have S1:=LH ((HS.out.below (hb1.mono (by simp))).keep (B':=w1.heap.size) zw1 fun p hp=>rfl);go_wp2_with fail;refine rX (by kernel_rfl) (by kernel_rfl) ?_
  repeat (go_big_quiet_step (first| (go_at_call_of 138 (Value.int IntKind.i64 p1);exact quiet_ext (HG1.out _ (S1.out.keep (ext_below _ _).size fun p hp=>(ext_below _ _).cell hp))) | (go_at_call 138;first|exact quiet_ext (HG1.out _ (S1.out.keep (ext_below _ _).size fun p hp=>(ext_below _ _).cell hp)) |exact quiet_ext (HG2.out _ (S1.out.keep (ext_below _ _).size fun p hp=>(ext_below _ _).cell hp)))))
  refine wpQuiet_nil ?_;intro w2 hb2;replace hb2:=bX hb2;have B2:Below w.heap.size w w2:=Below.then_ bE hb2;have s2:=B2.size;have z2_0:w.heap.size<w2.heap.size:=by have:=hb2.size;(try simp at this);omega
  have y2_0:w.heap.size≤w2.heap.size:=Nat.le_of_lt z2_0;have c2_0:=czB hb2 (w.heap.size);have f2_0:=fzB hb2 (w.heap.size);have S2:=LH ((S1.out.below hb2).keep (B':=w2.heap.size) hb2.size fun p hp=>rfl);go_wp2_with fail;refine(HG3.out _ (S2.out.keep (Nat.le_refl _) fun p hp=>rfl)).mono ?_;rintro e w3 ⟨rfl,hb3⟩;have B3:Below w.heap.size w w3:=Below.then_ bE hb3;have s3:=B3.size;go_wp2_with fail
  go_ret2
  exact⟨rfl,bE⟩
structure StepsIs (l:Int) (r:List Nd) (S:List Int) :Prop where
 up:S.Pairwise (· < ·)
 mem: ∀z,z∈S↔∃x∈r,(endsOf l x.1).2.1=z
def pickB (c:Prop) [Decidable c] (x y:Option Addr) :Option Addr:=if c then x else y
theorem slice_pickB (c:Prop) [Decidable c] (x y:Option Addr) (n m:Nat) :Value.slice (if c then x else y) n m=Value.slice (pickB c x y) n m:=rfl
section
attribute [local go_sem] slice_pickB
end
theorem ready_mass (l:Nat) (r:List Nd) (p most:Int) :readyR l r p most= (decide (0< (massR l r p).1) && decide ((massR l r p).2≤most)):=by
 unfold readyR massR
 cases (kidsOf l p).2.2
 ·simp
 ·simp [Bool.decide_and]
theorem ref11_Ready (w:World) (l:Nat) (A:Option Addr) (cap:Nat) (r:List Nd) (hS:Sl w w.heap.size encN A r) (hI:ints r) (hm:r.length≤maxLen) (hr:Roll r) (hs:sumR r≤72057594037927935) (p most:Int) (hp:p≤9223372036854775807) :
 Calls Tryz.prog 216 #[.agg #[.int .i64 l,.slice A r.length cap],.int .i64 p,.int .i64 most] w fun e w'=>e=.returned (.bool (readyR l r p most))∧Below w.heap.size w w':=by
 have HC:=LH (ref11_Mass · l A cap r · hI hm hr hs p hp);have HS:=LH hS;rw [ready_mass];clear hS hI hm hr hs;generalize (massR l r p).1=a at HC⊢;generalize (massR l r p).2=b at HC⊢;by_cases h1:0<a
 ·by_cases h2:b≤most
  ·go_enter Tryz.func216,Tryz.ntmps216
   go_wp2_with fail;refine(HC.out _ (HS.out.keep (by simp) fun p hp=>((Below.refl w.heap.size w).alloc (Nat.le_refl _) _).cell hp)).mono ?_;rintro e w1 ⟨rfl,hb1⟩;have B1:Below w.heap.size w w1:=Below.then_ bE hb1;have s1:=B1.size;have z1_0:w.heap.size<w1.heap.size:=by have:=hb1.size;(try simp at this);omega
   have y1_0:w.heap.size≤w1.heap.size:=Nat.le_of_lt z1_0;have c1_0:=czB hb1 (w.heap.size);have f1_0:=fzB hb1 (w.heap.size);go_wp2_with fail;go_ret;exact⟨ret_bool (by simp [h1,h2]),bE⟩
  ·have h2':decide (b≤most) =false:=by simpa using h2
   clear h2
   go_enter Tryz.func216,Tryz.ntmps216
   go_wp2_with fail;refine(HC.out _ (HS.out.keep (by simp) fun p hp=>((Below.refl w.heap.size w).alloc (Nat.le_refl _) _).cell hp)).mono ?_;rintro e w1 ⟨rfl,hb1⟩;have B1:Below w.heap.size w w1:=Below.then_ bE hb1;have s1:=B1.size;have z1_0:w.heap.size<w1.heap.size:=by have:=hb1.size;(try simp at this);omega
   have y1_0:w.heap.size≤w1.heap.size:=Nat.le_of_lt z1_0;have c1_0:=czB hb1 (w.heap.size);have f1_0:=fzB hb1 (w.heap.size);go_wp2_with fail;go_ret;exact⟨ret_bool (by simp [h2']),bE⟩
 ·have h1':decide (0<a) =false:=by simpa using h1
  clear h1
  go_enter Tryz.func216,Tryz.ntmps216
  go_wp2_with fail;refine(HC.out _ (HS.out.keep (by simp) fun p hp=>((Below.refl w.heap.size w).alloc (Nat.le_refl _) _).cell hp)).mono ?_;rintro e w1 ⟨rfl,hb1⟩;have B1:Below w.heap.size w w1:=Below.then_ bE hb1;have s1:=B1.size;have z1_0:w.heap.size<w1.heap.size:=by have:=hb1.size;(try simp at this);omega
  have y1_0:w.heap.size≤w1.heap.size:=Nat.le_of_lt z1_0;have c1_0:=czB hb1 (w.heap.size);have f1_0:=fzB hb1 (w.heap.size);go_wp2_with fail;go_ret;exact⟨ret_bool (by simp [h1']),bE⟩
theorem depth_any (n:Int) : (if 1≤n then Value.tuple #[.int .i64 n.toNat.log2,.bool true] else Value.tuple #[.int .i64 0,.bool false]) =.tuple #[.int .i64 (n.toNat.log2:Nat),.bool (decide (1≤n))]:=by
 by_cases h:1≤n
 ·rw [if_pos h];simp [h]
 ·rw [if_neg h]
  have:n.toNat=0:=by omega
  rw [this];simp [h,Nat.log2_zero]
theorem ref11_Ahead (w:World) (a b:Int) (ha:a≤9223372036854775807) (hb:b≤9223372036854775807) :
 Calls Tryz.prog 242 #[.int .i64 a,.int .i64 b] w fun e w'=>e=.returned (.bool (aheadI a b))∧Below w.heap.size w w':=by
 have HX:=LH (fun W=>ref2_Depth W a ha);have HY:=LH (fun W=>ref2_Depth W b hb);rw [depth_any] at HX HY;unfold aheadI;generalize a.toNat.log2=n at HX⊢;generalize b.toNat.log2=m at HY⊢;clear ha hb;by_cases he:n=m
 ·subst he
  rw [if_neg (by simp)];have hnn:decide (n<n) =false:=by simp
  have hnn2:decide ((n:Int) < (n:Int)) =false:=by simp
  by_cases hlt:a<b
  ·rw [decide_eq_true hlt]
   go_enter Tryz.func242,Tryz.ntmps242
   go_wp2_with fail;refine(HX.out _).mono ?_;rintro e w1 ⟨rfl,hb1⟩;have B1:Below w.heap.size w w1:=Below.then_ bE hb1;have s1:=B1.size;go_wp2_with fail;refine(HY.out _).mono ?_;rintro e w2 ⟨rfl,hb2⟩;have B2:Below w.heap.size w w2:=Below.then_ bE hb2;have s2:=B2.size;go_wp2_with fail;go_ret;exact⟨rfl,bE⟩
  ·have hlt':decide (a<b) =false:=by simpa using hlt
   rw [hlt'];clear hlt
   go_enter Tryz.func242,Tryz.ntmps242
   go_wp2_with fail;refine(HX.out _).mono ?_;rintro e w1 ⟨rfl,hb1⟩;have B1:Below w.heap.size w w1:=Below.then_ bE hb1;have s1:=B1.size;go_wp2_with fail;refine(HY.out _).mono ?_;rintro e w2 ⟨rfl,hb2⟩;have B2:Below w.heap.size w w2:=Below.then_ bE hb2;have s2:=B2.size;go_wp2_with fail;go_ret;exact⟨rfl,bE⟩
 ·rw [if_pos he]
  have he': ((n:Int) == (m:Int)) =false:=by simp;omega
  have he2: (n == m) =false:=by simpa using he
  by_cases hlt:m<n
  ·rw [decide_eq_true hlt]
   have hlt2: (m:Int) < (n:Int):=by omega
   clear he
   go_enter Tryz.func242,Tryz.ntmps242
   go_wp2_with fail;refine(HX.out _).mono ?_;rintro e w1 ⟨rfl,hb1⟩;have B1:Below w.heap.size w w1:=Below.then_ bE hb1;have s1:=B1.size;go_wp2_with fail;refine(HY.out _).mono ?_;rintro e w2 ⟨rfl,hb2⟩;have B2:Below w.heap.size w w2:=Below.then_ bE hb2;have s2:=B2.size;go_wp2_with fail;go_ret;exact⟨rfl,bE⟩
  ·have hlt':decide (m<n) =false:=by simpa using hlt
   have hlt2:decide ((m:Int) < (n:Int)) =false:=by simp;omega
   rw [hlt'];clear hlt he
   go_enter Tryz.func242,Tryz.ntmps242
   go_wp2_with fail;refine(HX.out _).mono ?_;rintro e w1 ⟨rfl,hb1⟩;have B1:Below w.heap.size w w1:=Below.then_ bE hb1;have s1:=B1.size;go_wp2_with fail;refine(HY.out _).mono ?_;rintro e w2 ⟨rfl,hb2⟩;have B2:Below w.heap.size w w2:=Below.then_ bE hb2;have s2:=B2.size;go_wp2_with fail;go_ret;exact⟨rfl,bE⟩
theorem zl_take {w:World} {B:Nat} {A:Option Addr} {l:List Int} (h:Sl w B encZ A l) (a:Nat) :Sl w B encZ A (l.take a):=by
 rcases h with h| ⟨b,off,rfl,hb,hc⟩
 ·subst h;exact .inl (by simp)
 ·refine .inr ⟨b,off,rfl,hb,fun i x hi j u hj=> ?_⟩
  rw [List.getElem?_take] at hi
  split at hi
  ·exact hc i x hi j u hj
  ·cases hi
theorem zl_drop {w:World} {B b off:Nat} {l:List Int} (h:Sl w B encZ (some ⟨b,off,none⟩) l) (a:Nat) :Sl w B encZ (some ⟨b,off+a,none⟩) (l.drop a):=by
 rcases h with h| ⟨b',off',hA,hb,hc⟩
 ·subst h;exact .inl (by simp)
 ·cases hA
  refine .inr ⟨b,off+a,rfl,hb,fun i x hi j u hj=> ?_⟩;rw [List.getElem?_drop] at hi;have:=hc (a+i) x hi j u hj;rw [show off+a+i*1+j=off+ (a+i) *1+j by omega];exact this
def pickZ (c:Prop) [Decidable c] (x y:Option Addr) :Option Addr:=if c then x else y
theorem slice_pickZ (c:Prop) [Decidable c] (x y:Option Addr) (n m:Nat) :Value.slice (if c then x else y) n m=Value.slice (pickZ c x y) n m:=rfl
theorem zl_pick {w:World} {B:Nat} {c:Prop} [Decidable c] {x y:Option Addr} {l:List Int} (h:c→l= []) (h2:Sl w B encZ y l) :Sl w B encZ (pickZ c x y) l:=by
 unfold pickZ;by_cases hc:c
 ·rw [if_pos hc];exact .inl (h hc)
 ·rw [if_neg hc];exact h2
theorem mem_cut {L:List Int} {q:Nat} {id:Int} (z:Int) :z∈(L.take q ++ [id]) ++ L.drop q↔z∈L∨z=id:=by
 have h:z∈L↔z∈L.take q∨z∈L.drop q:=by rw [←List.mem_append,List.take_append_drop]
 simp only [List.mem_append,List.mem_singleton,h]
 constructor
 ·rintro((h|h) |h) <;> simp [h]
 ·rintro((h|h) |h) <;> simp [h]
theorem own_addr {w:World} {base e n cap:Nat} {E:Enc Int 1} {A:Option Addr} {l:List Int} (h:Own w base e E (.slice A n cap) l) : (A=none∧cap=0)∨∃b off,A=some ⟨b,off,none⟩:=by
 rcases h with ⟨hv,_⟩ | ⟨g,off,cap',cur,hv,_⟩
 ·cases hv;exact .inl ⟨rfl,rfl⟩
 ·cases hv;exact .inr ⟨_,_,rfl⟩
theorem cut_sorted {L:List Int} {q:Nat} {id:Int} (h1: ∀x∈L.take q,aheadI x id=true) (h2: ∀y∈(L.drop q).head?,leA id y) (h:L.Pairwise leA) : ((L.take q ++ [id]) ++ L.drop q).Pairwise leA:=by
 rw [List.append_assoc];rw [←List.take_append_drop q L] at h;obtain⟨a1,a2,a3⟩:=List.pairwise_append.1 h
 have h3: ∀y∈L.drop q,leA id y:=by
  cases hd:L.drop q with
  |nil=>simp
  |cons z D=>
   rw [hd] at a2 h2;have hz:leA id z:=h2 z (by simp);intro y hy;rcases List.mem_cons.1 hy with rfl|hy
   ·exact hz
   ·exact leA_trans hz ((List.pairwise_cons.1 a2).1 y hy)
 refine List.pairwise_append.2 ⟨a1,List.pairwise_cons.2 ⟨h3,a2⟩,fun a ha b hb=> ?_⟩;rcases List.mem_cons.1 hb with rfl|hb
 ·exact leA_of (h1 a ha)
 ·exact a3 a ha b hb
def WithPost (L:List Int) (id:Int) (w:World) (e:Ending) (w':World) :Prop:=
 ∃(A':Option Addr) (cap':Nat) (L':List Int),e=.returned (.slice A' L'.length cap')∧L'.length≤cap'∧cap'≤maxLen∧((A'=none∧cap'=0)∨∃b off,A'=some ⟨b,off,none⟩)∧Sl w' w'.heap.size encZ A' L'∧(∀z,z∈L'↔z∈L∨z=id)∧(L.Pairwise leA→L'.Pairwise leA)∧L'.length≤L.length+1∧Below w.heap.size w w'
section
attribute [local go_sem] slice_pickZ
theorem ref11_With (w:World) (A:Option Addr) (cap:Nat) (L:List Int) (id:Int) (hS:Sl w w.heap.size encZ A L) (hc1:L.length≤cap) (hc2:cap≤maxLen) (hO: (A=none∧cap=0)∨∃b off,A=some ⟨b,off,none⟩) (hlen:L.length≤1000) (hI: ∀x∈L,x≤9223372036854775807) (hid:id≤9223372036854775807) :
 Calls Tryz.prog 238 #[.slice A L.length cap,.int .i64 id] w (WithPost L id w):=by
 have HS:=LH hS;have HI:=LH hI;unfold WithPost;unfold maxLen at hc2;clear hS hI
 go_enter Tryz.func238,Tryz.ntmps238
 go_wp2_with fail
 go_loopw [5] (fun i wr=>∃q:Nat,q≤L.length∧i=.int .i64 q∧(∀x∈L.take q,aheadI x id=true)∧Below w.heap.size w wr) (fun i _=>L.length - (intOf i).toNat)
 case atStart=>exact⟨0,Nat.zero_le _,rfl,by simp,Below.refl _ _⟩
 case round=>
  obtain⟨q,hq,rfl,hAh,hBr⟩:=hrel;have HAh:=LH hAh;clear hAh;have BR:=LH hBr;have sR:=hBr.size;clear hBr;by_cases hlt:q<L.length
  ·obtain⟨b,off,rfl,hb,hc⟩:=HS.out.at_ hlt
   have c0:=(BR.out.cell (p:=⟨b,off+q,none⟩) hb).trans (by have:=hc 0 (.int .i64 L[q]) rfl;simpa using this);have lb:b<wr.heap.size:=Nat.lt_of_lt_of_le hb sR;have i1: (q:Int) < (L.length:Int):=by omega
   have hx1:=HI.out _ (List.getElem_mem hlt);obtain⟨x,hx⟩ : ∃x,x=L[q]:=⟨_,rfl⟩;have HX:Hid (x∈L):=LH (hx ▸ List.getElem_mem hlt);rw [←hx] at c0 hx1;have HA:=LH (fun W=>ref11_Ahead W x id hx1 hid)
   have HAn:Hid (aheadI x id=true→∀y∈L.take (q+1),aheadI y id=true):=LH fun h y hy=>by
    rw [List.take_succ_eq_append_getElem hlt] at hy;rcases List.mem_append.1 hy with hy|hy
    ·exact HAh.out y hy
    ·rw [List.mem_singleton.1 hy,←hx];exact h
   have HCut:Hid (aheadI x id=false→L.Pairwise leA→((L.take q ++ [id]) ++ L.drop q).Pairwise leA):=LH fun h=>cut_sorted HAh.out fun y hy=>by
    rw [List.drop_eq_getElem_cons hlt,List.head?_cons,Option.mem_some_iff] at hy;rw [←hy,←hx];exact h
   generalize aheadI x id=ah at HA HAn HCut;clear hx hc hx1
   cases ah
   ·go_wp2_with fail
    refine(HA.out wr).mono ?_;rintro e w1 ⟨rfl,hb1⟩;have c1:=(hb1.cell (p:=⟨b,off+q,none⟩) lb).trans c0;have l1:b<w1.heap.size:=Nat.lt_of_lt_of_le lb hb1.size;have BV:=LH (Below.then_ BR.out hb1);have SV:=LH (HS.out.keep (B':=w1.heap.size) BV.out.size fun p hp=>BV.out.cell hp);clear hb1 HA c0 lb;by_cases he:x=id
    ·subst he
     have he1: (x == x) =true:=by simp
     go_wp2_with fail;go_ret;exact⟨some ⟨b,off,none⟩,cap,L,rfl,hc1,by unfold maxLen;omega,.inr ⟨b,off,rfl⟩,SV.out,fun z=>⟨.inl,fun h=>by rcases h with h|rfl;exact h;exact HX.out⟩,id,by omega,BV.out⟩
    ·have he1: (x == id) =false:=by simpa using he
     clear he;obtain⟨M,hM⟩ : ∃M,M=L.take q:=⟨_,rfl⟩;obtain⟨D,hD⟩ : ∃D,D=L.drop q:=⟨_,rfl⟩;have HM:=LH (show M.length=q by rw [hM,List.length_take];omega);have HDl:=LH (show D.length=L.length - q by rw [hD,List.length_drop]);have HMD:Hid (∀z,z∈(M ++ [id]) ++ D↔z∈L∨z=id):=LH (fun z=>by rw [hM,hD];exact mem_cut z);have HSd:Hid (L.Pairwise leA→((M ++ [id]) ++ D).Pairwise leA):=LH (by rw [hM,hD];exact HCut.out trivial);have TM:=LH (hM ▸ zl_take SV.out q);have TD:=LH (hD ▸ zl_drop SV.out q);have TD0:Hid (cap=q→D= []):=LH (fun h=>List.eq_nil_of_length_eq_zero (by rw [HDl.out];omega));have hDs:=TD;clear hM hD;have i1:q≤cap:=by omega
     go_wp2_with ((at_builtin;refine wpList_app tyZ rfl _ _ rfl encZ w1.heap.size (.slice none 0 0) [] rfl (Own.nil _ _ _ _) (some ⟨b,off,none⟩) cap M w1.heap.size ?hx TM.out ?c1 ?c2 ?c3 ?c4))
     case hx=>rw [HM.out];rfl
     case c1=>have:=HM.out;simp only [List.length_nil];omega
     case c2=>have:=HM.out;simp only [maxLen,List.length_nil];omega
     case c3=>exact Nat.le_refl _
     case c4=>
      intro v4 w4 ho4 hg4 _ hb4 _;have O4:=LH (show Own w4 w1.heap.size 3 encZ v4 M from ho4);have B4:=LH (Below.then_ BV.out hb4);have b4:=hb4.size;have TD4:=LH (TD.out.keep (B':=w4.heap.size) hb4.size fun p hp=>hb4.cell hp);have HB4:=LH hb4;clear ho4 hg4 hb4 TM TD;obtain⟨A4,c4,rfl,_⟩:=O4.out.form;go_wp2_with ((at_builtin;refine wpList_push tyZ rfl _ _ rfl encZ w4 w1.heap.size (.slice A4 M.length c4) M rfl O4.out id (by go_simp) rfl ?d1 ?d2 ?d3 ?d4))
      case d1=>have:=HM.out;omega
      case d2=>have:=HM.out;simp only [maxLen];omega
      case d3=>exact b4
      case d4=>
       intro v5 w5 ho5 hg5 hs5 _ hb5 _;obtain⟨N,hN⟩ : ∃N,N=M ++ [id]:=⟨_,rfl⟩;have HN:=LH (show N.length=q+1 by rw [hN,List.length_append,HM.out];rfl);rw [←hN] at ho5 HMD HSd;have O5:=LH ho5;have B5:=LH (B4.out.trans (hb5.mono BV.out.size));have b5:w4.heap.size≤w5.heap.size:=Nat.le_of_lt hs5;have b6:w1.heap.size≤w5.heap.size:=Nat.le_trans b4 b5;have HB5:=LH (HB4.out.trans hb5);clear ho5 hg5 hb5 hN;obtain⟨A5,c5,rfl,_⟩:=O5.out.form;have TDx:=LH ((hDs.out).keep (B':=w5.heap.size) b6 fun p hp=>HB5.out.cell hp);go_wp2_with ((at_builtin;refine wpList_app tyZ rfl _ _ rfl encZ w1.heap.size (.slice A5 N.length c5) N rfl O5.out (some ⟨b,off+q,none⟩) (cap - q) D w5.heap.size ?hx TDx.out ?e1 ?e2 ?e3 ?e4))
       case hx=>rw [HDl.out];rfl
       case e1=>have:=HN.out;have:=HDl.out;omega
       case e2=>have:=HN.out;have:=HDl.out;simp only [maxLen];omega
       case e3=>exact b6
       case e4=>
        intro v6 w6 ho6 _ _ hb6 _;obtain⟨Z,hZ⟩ : ∃Z,Z=N ++ D:=⟨_,rfl⟩;have HZ:Hid (Z.length≤L.length+1):=LH (by rw [hZ,List.length_append,HN.out,HDl.out];omega);rw [←hZ] at ho6 HMD HSd;have B6:=LH (B5.out.trans (hb6.mono BV.out.size));have O6:=LH ho6;clear ho6 hb6 hZ;obtain⟨A6,c6,rfl,k1,k2,_⟩:=O6.out.form;go_wp2_with fail;go_ret;exact⟨A6,c6,Z,rfl,k1,k2,own_addr O6.out,O6.out.sl,HMD.out,HSd.out,HZ.out,B6.out⟩
   ·go_wp2_with fail
    refine(HA.out wr).mono ?_;rintro e w1 ⟨rfl,hb1⟩;have BV:=LH (Below.then_ BR.out hb1);clear hb1 HA c0 lb;go_wp2_with fail;go_roundw
    case rel=>exact⟨q+1,by omega,by go_num,HAn.out trivial,BV.out⟩
    case measure=>simp [intOf];omega
  ·have hqe:q=L.length:=by omega
   have hqi:decide ((q:Int) < (L.length:Int)) =false:=by simp;omega
   clear hlt;have BV:=BR;have SV:=LH (HS.out.keep (B':=wr.heap.size) BV.out.size fun p hp=>BV.out.cell hp);rcases hO with ⟨rfl,rfl⟩ | ⟨b,off,rfl⟩
   ·obtain rfl:L= []:=by
     rcases HS.out with h| ⟨b,off,h,_⟩
     ·exact h
     ·cases h
    obtain rfl:q=0:=by simpa using hqe
    clear hqe hq;go_wp2_with ((at_builtin;refine wpList_app tyZ rfl _ _ rfl encZ wr.heap.size (.slice none 0 0) [] rfl (Own.nil _ _ _ _) none 0 [] wr.heap.size ?hx (.inl rfl) ?c1 ?c2 ?c3 ?c4))
    case hx=>rfl
    case c1=>simp
    case c2=>simp [maxLen]
    case c3=>exact Nat.le_refl _
    case c4=>
     intro v4 w4 ho4 hg4 _ hb4
     try intro _
     have O4:=LH (show Own w4 wr.heap.size 3 encZ v4 [] from ho4);have B4:=LH (Below.then_ BV.out hb4);have b4:=hb4.size;have HB4:=LH hb4;clear ho4 hg4 hb4;obtain⟨A4,c4,rfl,_⟩:=O4.out.form;go_wp2_with ((at_builtin;refine wpList_push tyZ rfl _ _ rfl encZ w4 wr.heap.size (.slice A4 ([] :List Int).length c4) [] rfl O4.out id (by go_simp) rfl ?d1 ?d2 ?d3 ?d4))
     case d1=>simp
     case d2=>simp [maxLen]
     case d3=>exact b4
     case d4=>
      intro v5 w5 ho5 hg5 hs5 _ hb5 _;have O5:=LH (show Own w5 wr.heap.size 3 encZ v5 [id] from ho5);have B5:=LH (B4.out.trans (hb5.mono BV.out.size));have b6:wr.heap.size≤w5.heap.size:=Nat.le_trans b4 (Nat.le_of_lt hs5);clear ho5 hg5 hb5;obtain⟨A5,c5,rfl,_⟩:=O5.out.form;go_wp2_with ((at_builtin;refine wpList_app tyZ rfl _ _ rfl encZ wr.heap.size (.slice A5 ([id] :List Int).length c5) [id] rfl O5.out none 0 [] w5.heap.size ?hx (.inl rfl) ?e1 ?e2 ?e3 ?e4))
      case hx=>rfl
      case e1=>simp
      case e2=>simp [maxLen]
      case e3=>exact b6
      case e4=>
       intro v6 w6 ho6 _ _ hb6
       try intro _
       have B6:=LH (B5.out.trans (hb6.mono BV.out.size));have O6:=LH (show Own w6 wr.heap.size 3 encZ v6 [id] from by simpa using ho6);clear ho6 hb6;obtain⟨A6,c6,rfl,k1,k2,_⟩:=O6.out.form;go_wp2_with fail;go_ret;exact⟨A6,c6, [id],rfl,k1,k2,own_addr O6.out,O6.out.sl,fun z=>by simp,fun _=>by simp,by simp,B6.out⟩
   ·have hqe':L.length≤q:=by omega
    clear hqe;obtain⟨M,hM⟩ : ∃M,M=L.take q:=⟨_,rfl⟩;obtain⟨D,hD⟩ : ∃D,D=L.drop q:=⟨_,rfl⟩;have HM:=LH (show M.length=q by rw [hM,List.length_take];omega);have HDl:=LH (show D.length=L.length - q by rw [hD,List.length_drop]);have HMD:Hid (∀z,z∈(M ++ [id]) ++ D↔z∈L∨z=id):=LH (fun z=>by rw [hM,hD];exact mem_cut z);have HSd:Hid (L.Pairwise leA→((M ++ [id]) ++ D).Pairwise leA):=LH (by rw [hM,hD];exact cut_sorted HAh.out (by rw [List.drop_eq_nil_of_le hqe'];simp));have TM:=LH (hM ▸ zl_take SV.out q);have TD:=LH (hD ▸ zl_drop SV.out q);have TD0:Hid (cap=q→D= []):=LH (fun h=>List.eq_nil_of_length_eq_zero (by rw [HDl.out];omega));have hDs:=TD;clear hM hD;have i1:q≤cap:=by omega
    go_wp2_with ((at_builtin;refine wpList_app tyZ rfl _ _ rfl encZ wr.heap.size (.slice none 0 0) [] rfl (Own.nil _ _ _ _) (some ⟨b,off,none⟩) cap M wr.heap.size ?hx TM.out ?c1 ?c2 ?c3 ?c4))
    case hx=>rw [HM.out];rfl
    case c1=>have:=HM.out;simp only [List.length_nil];omega
    case c2=>have:=HM.out;simp only [maxLen,List.length_nil];omega
    case c3=>exact Nat.le_refl _
    case c4=>
     intro v4 w4 ho4 hg4 _ hb4 _;have O4:=LH (show Own w4 wr.heap.size 3 encZ v4 M from ho4);have B4:=LH (Below.then_ BV.out hb4);have b4:=hb4.size;have TD4:=LH (TD.out.keep (B':=w4.heap.size) hb4.size fun p hp=>hb4.cell hp);have HB4:=LH hb4;clear ho4 hg4 hb4 TM TD;obtain⟨A4,c4,rfl,_⟩:=O4.out.form;go_wp2_with ((at_builtin;refine wpList_push tyZ rfl _ _ rfl encZ w4 wr.heap.size (.slice A4 M.length c4) M rfl O4.out id (by go_simp) rfl ?d1 ?d2 ?d3 ?d4))
     case d1=>have:=HM.out;omega
     case d2=>have:=HM.out;simp only [maxLen];omega
     case d3=>exact b4
     case d4=>
      intro v5 w5 ho5 hg5 hs5 _ hb5 _;obtain⟨N,hN⟩ : ∃N,N=M ++ [id]:=⟨_,rfl⟩;have HN:=LH (show N.length=q+1 by rw [hN,List.length_append,HM.out];rfl);rw [←hN] at ho5 HMD HSd;have O5:=LH ho5;have B5:=LH (B4.out.trans (hb5.mono BV.out.size));have b5:w4.heap.size≤w5.heap.size:=Nat.le_of_lt hs5;have b6:wr.heap.size≤w5.heap.size:=Nat.le_trans b4 b5;have HB5:=LH (HB4.out.trans hb5);clear ho5 hg5 hb5 hN;obtain⟨A5,c5,rfl,_⟩:=O5.out.form;have TDx:=LH (zl_pick (c:=cap=q) (x:=some ⟨b,off,none⟩) TD0.out ((hDs.out).keep (B':=w5.heap.size) b6 fun p hp=>HB5.out.cell hp));go_wp2_with ((at_builtin;refine wpList_app tyZ rfl _ _ rfl encZ wr.heap.size (.slice A5 N.length c5) N rfl O5.out (pickZ (cap=q) (some ⟨b,off,none⟩) (some ⟨b,off+q,none⟩)) (cap - q) D w5.heap.size ?hx TDx.out ?e1 ?e2 ?e3 ?e4))
      case hx=>rw [show D.length=0 by rw [HDl.out];omega];rfl
      case e1=>have:=HN.out;have:=HDl.out;omega
      case e2=>have:=HN.out;have:=HDl.out;simp only [maxLen];omega
      case e3=>exact b6
      case e4=>
       intro v6 w6 ho6 _ _ hb6 _;obtain⟨Z,hZ⟩ : ∃Z,Z=N ++ D:=⟨_,rfl⟩;have HZ:Hid (Z.length≤L.length+1):=LH (by rw [hZ,List.length_append,HN.out,HDl.out];omega);rw [←hZ] at ho6 HMD HSd;have B6:=LH (B5.out.trans (hb6.mono BV.out.size));have O6:=LH ho6;clear ho6 hb6 hZ;obtain⟨A6,c6,rfl,k1,k2,_⟩:=O6.out.form;go_wp2_with fail;go_ret;exact⟨A6,c6,Z,rfl,k1,k2,own_addr O6.out,O6.out.sl,HMD.out,HSd.out,HZ.out,B6.out⟩
end
theorem sl_pickN {w:World} {B:Nat} {c:Prop} [Decidable c] {x y:Option Addr} {l:List Nd} (h:c→l= []) (h2:Sl w B encN y l) :Sl w B encN (pickZ c x y) l:=by
 unfold pickZ;by_cases hc:c
 ·rw [if_pos hc];exact .inl (h hc)
 ·rw [if_neg hc];exact h2
theorem own_addrN {w:World} {base e n cap:Nat} {E:Enc Nd 2} {A:Option Addr} {l:List Nd} (h:Own w base e E (.slice A n cap) l) : (A=none∧cap=0)∨∃b off,A=some ⟨b,off,none⟩:=by
 rcases h with ⟨hv,_⟩ | ⟨g,off,cap',cur,hv,_⟩
 ·cases hv;exact .inl ⟨rfl,rfl⟩
 ·cases hv;exact .inr ⟨_,_,rfl⟩
def putAt (L:List Nd) (q:Nat) (x:Nd) :List Nd:=(L.take q ++ [x]) ++ L.drop q
section
attribute [local go_sem] slice_pickZ
theorem ref06_put (w:World) (A:Option Addr) (cap:Nat) (L:List Nd) (q:Nat) (x:Nd) (hS:Sl w w.heap.size encN A L) (hc1:L.length≤cap) (hc2:cap≤maxLen) (hO: (A=none∧cap=0)∨∃b off,A=some ⟨b,off,none⟩) (hlen:L.length≤1000000) (hq:q≤L.length) :
 Calls Tryz.prog 221 #[.slice A L.length cap,.int .i64 q,.agg #[.int .i64 x.1,.int .i64 x.2]] w fun e w'=>∃v,e=.returned v∧Own w' w.heap.size 154 encN v (putAt L q x)∧Below w.heap.size w w':=by
 have HS:=LH hS;unfold maxLen at hc2;obtain⟨x1,x2⟩:=x;obtain⟨Z,hZ⟩ : ∃Z,Z=putAt L q (x1,x2):=⟨_,rfl⟩;rw [←hZ];unfold putAt at hZ;obtain⟨M,hM⟩ : ∃M,M=L.take q:=⟨_,rfl⟩;obtain⟨D,hD⟩ : ∃D,D=L.drop q:=⟨_,rfl⟩;rw [←hM,←hD] at hZ;have HZ:=LH hZ;have HM:=LH (show M.length=q by rw [hM,List.length_take];omega);have HDl:=LH (show D.length=L.length - q by rw [hD,List.length_drop]);have B0:Hid (Below w.heap.size w (w.alloc (.cells #[.int .i64 x1,.int .i64 x2] 154))):=LH bE;have X0:Hid ((w.alloc (.cells #[.int .i64 x1,.int .i64 x2] 154)).heap[w.heap.size]? =some (.cells #[.int .i64 x1,.int .i64 x2] 154 (0,0))):=LH (heap_alloc_new w _);have SW:Hid (Sl (w.alloc (.cells #[.int .i64 x1,.int .i64 x2] 154)) (w.alloc (.cells #[.int .i64 x1,.int .i64 x2] 154)).heap.size encN A L):=LH (HS.out.keep B0.out.size fun p hp=>B0.out.cell hp);clear hS HS;have hO': (A=none∧cap=0)∨∃b off,A=some ⟨b,off,none⟩:=hO;clear hO;rcases hO' with ⟨rfl,rfl⟩ | ⟨b,off,rfl⟩
 ·obtain rfl:L= []:=by
   rcases SW.out with h| ⟨b,off,h,_⟩
   ·exact h
   ·cases h
  obtain rfl:q=0:=by simpa using hq
  have HZ1:=LH (show Z= [(x1,x2)] by rw [HZ.out,hM,hD];simp);clear hZ hq hM hD HZ HM HDl SW
  go_enter Tryz.func221,Tryz.ntmps221
  go_upto_region 2 with fail;have B0':=B0;generalize w.alloc (.cells #[.int .i64 x1,.int .i64 x2] 154) =W0 at X0 B0'⊢;have c0:=bC X0.out;have z0:=lB X0.out;go_wp2_with ((at_builtin;refine wpList_app tyN rfl _ _ rfl encN W0.heap.size (.slice none 0 0) [] rfl (Own.nil _ _ _ _) none 0 [] W0.heap.size ?hx (.inl rfl) ?c1 ?c2 ?c3 ?c4))
  case hx=>rfl
  case c1=>simp
  case c2=>simp [maxLen]
  case c3=>exact Nat.le_refl _
  case c4=>
   intro v4 w4 ho4 hg4 _ hb4
   try intro _
   have O4:=LH (show Own w4 W0.heap.size 154 encN v4 [] from ho4);have B4:=LH (Below.then_ B0'.out hb4);have b4:=hb4.size;have HB4:=LH hb4;have X4:=LH (bB X0.out hb4);clear ho4 hg4 hb4 c0 z0;have c4:=bC X4.out;have z4:=lB X4.out;obtain⟨A4,cp4,rfl,_⟩:=O4.out.form;go_wp2_with ((at_builtin;refine wpList_push tyN rfl _ _ rfl encN w4 W0.heap.size (.slice A4 ([] :List Nd).length cp4) [] rfl O4.out (x1,x2) (by go_simp) rfl ?d1 ?d2 ?d3 ?d4))
   case d1=>simp
   case d2=>simp [maxLen]
   case d3=>exact b4
   case d4=>
    intro v5 w5 ho5 hg5 hs5 _ hb5 _;have O5:=LH (show Own w5 W0.heap.size 154 encN v5 [(x1,x2)] from ho5);have B5:=LH (B4.out.trans (hb5.mono B0'.out.size));have b6:W0.heap.size≤w5.heap.size:=Nat.le_trans b4 (Nat.le_of_lt hs5);clear ho5 hg5 hb5 c4 z4;obtain⟨A5,cp5,rfl,_⟩:=O5.out.form;go_wp2_with ((at_builtin;refine wpList_app tyN rfl _ _ rfl encN W0.heap.size (.slice A5 ([(x1,x2)] :List Nd).length cp5) [(x1,x2)] rfl O5.out none 0 [] w5.heap.size ?hx (.inl rfl) ?e1 ?e2 ?e3 ?e4))
    case hx=>rfl
    case e1=>simp
    case e2=>simp [maxLen]
    case e3=>exact b6
    case e4=>
     intro v6 w6 ho6 _ _ hb6
     try intro _
     have B6:=LH (B5.out.trans (hb6.mono B0'.out.size));have O6:=LH (show Own w6 W0.heap.size 154 encN v6 Z from by rw [HZ1.out];simpa using ho6);clear ho6 hb6;go_wp2_with fail;exact bR (v:=v6) (by simp only [results,Tryz.results221];go_simp) rfl ⟨v6,rfl,O6.out.base_le B0'.out.size,B6.out⟩
 ·have hDl:=HDl.out
  have TM:=LH (hM ▸ SW.out.take q);have TD:=LH (hD ▸ SW.out.drop q);have TD0:Hid (cap=q→D= []):=LH (fun h=>List.eq_nil_of_length_eq_zero (by omega));have i1:q≤cap:=by omega
  clear hZ hM hD hDl SW
  go_enter Tryz.func221,Tryz.ntmps221
  go_upto_region 2 with fail;have B0':=B0;generalize w.alloc (.cells #[.int .i64 x1,.int .i64 x2] 154) =W0 at X0 B0' TM TD⊢;have c0:=bC X0.out;have z0:=lB X0.out;go_wp2_with ((at_builtin;refine wpList_app tyN rfl _ _ rfl encN W0.heap.size (.slice none 0 0) [] rfl (Own.nil _ _ _ _) (some ⟨b,off,none⟩) cap M W0.heap.size ?hx TM.out ?c1 ?c2 ?c3 ?c4))
  case hx=>rw [HM.out];rfl
  case c1=>have:=HM.out;simp only [List.length_nil];omega
  case c2=>have:=HM.out;simp only [maxLen,List.length_nil];omega
  case c3=>exact Nat.le_refl _
  case c4=>
   intro v4 w4 ho4 hg4 _ hb4
   try intro _
   have O4:=LH (show Own w4 W0.heap.size 154 encN v4 M from ho4);have B4:=LH (Below.then_ B0'.out hb4);have b4:=hb4.size;have HB4:=LH hb4;have X4:=LH (bB X0.out hb4);clear ho4 hg4 hb4 c0 z0 TM;have c4:=bC X4.out;have z4:=lB X4.out;obtain⟨A4,cp4,rfl,_⟩:=O4.out.form;go_wp2_with ((at_builtin;refine wpList_push tyN rfl _ _ rfl encN w4 W0.heap.size (.slice A4 M.length cp4) M rfl O4.out (x1,x2) (by go_simp) rfl ?d1 ?d2 ?d3 ?d4))
   case d1=>have:=HM.out;omega
   case d2=>have:=HM.out;simp only [maxLen];omega
   case d3=>exact b4
   case d4=>
    intro v5 w5 ho5 hg5 hs5 _ hb5 _;obtain⟨N,hN⟩ : ∃N,N=M ++ [(x1,x2)]:=⟨_,rfl⟩;have HN:=LH (show N.length=q+1 by rw [hN,List.length_append,HM.out];rfl);rw [←hN] at ho5 HZ;have O5:=LH ho5;have B5:=LH (B4.out.trans (hb5.mono B0'.out.size));have b6:W0.heap.size≤w5.heap.size:=Nat.le_trans b4 (Nat.le_of_lt hs5);have HB5:=LH (HB4.out.trans hb5);clear ho5 hg5 hb5 hN c4 z4;obtain⟨A5,cp5,rfl,_⟩:=O5.out.form;have TDx:=LH (sl_pickN (c:=cap=q) (x:=some ⟨b,off,none⟩) TD0.out ((TD.out).keep (B':=w5.heap.size) b6 fun p hp=>HB5.out.cell hp));go_wp2_with ((at_builtin;refine wpList_app tyN rfl _ _ rfl encN W0.heap.size (.slice A5 N.length cp5) N rfl O5.out (pickZ (cap=q) (some ⟨b,off,none⟩) (some ⟨b,off+q*2,none⟩)) (cap - q) D w5.heap.size ?hx TDx.out ?e1 ?e2 ?e3 ?e4))
    case hx=>rw [HDl.out];rfl
    case e1=>have:=HN.out;have:=HDl.out;omega
    case e2=>have:=HN.out;have:=HDl.out;simp only [maxLen];omega
    case e3=>exact b6
    case e4=>
     intro v6 w6 ho6 _ _ hb6
     try intro _
     rw [←HZ.out] at ho6;have B6:=LH (B5.out.trans (hb6.mono B0'.out.size));have O6:=LH ho6;clear ho6 hb6;go_wp2_with fail;exact bR (v:=v6) (by simp only [results,Tryz.results221];go_simp) rfl ⟨v6,rfl,O6.out.base_le B0'.out.size,B6.out⟩
end
theorem putAt_perm (S:List Nd) (p:Nat) (x:Nd) : (putAt S p x).Perm (S ++ [x]):=by
 unfold putAt
 have h: (S.take p ++ [x] ++ S.drop p).Perm (S.take p ++ S.drop p ++ [x]):=by
  rw [List.append_assoc,List.append_assoc];exact List.Perm.append_left _ List.perm_append_comm
 rwa [List.take_append_drop] at h
theorem putAt_sorted {S:List Nd} {p:Nat} {x:Nd} (hs:S.Pairwise fun a b=>a.1≤b.1) (hp:p≤S.length) (h1: ∀y∈S.drop p,x.1<y.1) (h2: ∀y∈S.take p,y.1≤x.1) : (putAt S p x).Pairwise fun a b=>a.1≤b.1:=by
 unfold putAt;rw [List.append_assoc];have h3:=hs;rw [←List.take_append_drop p S] at h3;obtain⟨a1,a2,a3⟩:=List.pairwise_append.1 h3;refine List.pairwise_append.2 ⟨a1,?_,fun a ha b hb=> ?_⟩
 ·exact List.pairwise_cons.2 ⟨fun b hb=>by have:=h1 b hb;omega,a2⟩
 ·rcases List.mem_cons.1 hb with rfl|hb
  ·exact h2 a ha
  ·exact a3 a ha b hb
theorem take_le {S:List Nd} {p':Nat} {x:Int} (hs:S.Pairwise fun a b=>a.1≤b.1) (hp:p'<S.length) (h:S[p'].1≤x) : ∀y∈S.take (p'+1),y.1≤x:=by
 intro y hy;obtain⟨i,hi,rfl⟩:=List.getElem_of_mem hy;rw [List.length_take] at hi;rw [List.getElem_take];rcases Nat.lt_or_ge i p' with hlt|hge
 ·have:=List.pairwise_iff_getElem.1 hs i p' (by omega) hp hlt
  omega
 ·have:i=p':=by omega
  subst this;exact h
theorem drop_lt {S:List Nd} {p':Nat} {x:Int} (hp:p'<S.length) (h:x<S[p'].1) (h2: ∀y∈S.drop (p'+1),x<y.1) : ∀y∈S.drop p',x<y.1:=by
 intro y hy;rw [List.drop_eq_getElem_cons hp] at hy;rcases List.mem_cons.1 hy with rfl|hy
 ·exact h
 ·exact h2 y hy
theorem wrap_nat31 {p:Nat} (h:p≤100000) :wrap64 (p:Int) = (p:Int):=by unfold wrap64;omega
theorem meas31 {p p':Nat} (h:p=p'+1) : (intOf (.int .i64 (p':Int))).toNat< (intOf (.int .i64 (p:Int))).toNat:=by subst h;simp [intOf]
def SortNPost (l:List Nd) (w:World) (e:Ending) (w':World) :Prop:=∃v S,e=.returned v∧Own w' w.heap.size 154 encN v S∧S.Perm l∧(S.Pairwise fun a b=>a.1≤b.1)∧Below w.heap.size w w'
theorem ref06_Sorted (w:World) (A:Option Addr) (cap:Nat) (l:List Nd) (hS:Sl w w.heap.size encN A l) (hlen:l.length≤100000) :
 Calls Tryz.prog 181 #[.slice A l.length cap] w (SortNPost l w):=by
 have HS:=LH hS;clear hS;unfold SortNPost
 go_enter Tryz.func181,Tryz.ntmps181
 go_wp2_with fail
 go_loopw [3,4] (fun u j wr=>∃(q:Nat) (S:List Nd),j=.int .i64 q∧q≤l.length∧Own wr w.heap.size 154 encN u S∧S.Perm (l.take q)∧(S.Pairwise fun a b=>a.1≤b.1)∧Below w.heap.size w wr) (fun _ j _=>l.length - (intOf j).toNat)
 case atStart=>exact⟨0, [],rfl,Nat.zero_le _,Own.nil _ _ _ _,by simp,.nil,Below.refl _ _⟩
 case round=>
  obtain⟨q,S,rfl,hq,ho,hp,hs,hB⟩:=hrel;have HO:=LH ho;have HP:=LH hp;have HSt:=LH hs;have HB:=LH hB;have hSl:S.length=q:=by have:=hp.length_eq;rw [List.length_take] at this;omega
  have HLe:=LH (show S.length≤100000 by omega);obtain⟨Au,cu,rfl,k1,k2,_⟩:=ho.form;have hO:=own_addrN ho;have HR:=LH (HS.out.keep (B':=wr.heap.size) hB.size fun p hp=>hB.cell hp);have sz:=hB.size;clear ho hp hs hB;by_cases hlt:q<l.length
  ·have hqi: (q:Int) < (l.length:Int):=by omega
   obtain⟨b,off,rfl,hb,hc⟩:=HR.out.at_ hlt;have d0:=hc 0 (.int .i64 l[q].1) rfl;have d1:=hc 1 (.int .i64 l[q].2) rfl;simp only [Nat.add_zero] at d0;have HTk:=LH (show l.take (q+1) =l.take q ++ [l[q]] from List.take_succ_eq_append_getElem hlt);obtain⟨x,hx⟩ : ∃x,l[q] =x:=⟨_,rfl⟩;rw [hx] at d0 d1 HTk;have HSl:=LH hSl;clear hc hx hlt hSl;obtain⟨w1,hw1⟩ : ∃W,W=wr:=⟨_,rfl⟩;subst hw1;go_wp2_with fail
   go_loopw [5] (fun j wr=>∃p:Nat,j=.int .i64 p∧p≤S.length∧(∀y∈S.drop p,x.1<y.1)∧Below w1.heap.size w1 wr) (fun j _=>(intOf j).toNat)
   case atStart=>exact⟨S.length,rfl,Nat.le_refl _,by simp,Below.refl _ _⟩
   case round=>
    obtain⟨p,rfl,hp,hd,hB⟩:=hrel;have BR:=LH hB;have HDr:=LH hd;have sr:=hB.size;have e0:=(hB.cell (p:=⟨b,off+q*2,none⟩) hb).trans d0;have e1:=(hB.cell (p:=⟨b,off+q*2+1,none⟩) hb).trans d1;have lb:b<wr.heap.size:=Nat.lt_of_lt_of_le hb sr;have OW:=LH (HO.out.below hB);clear hB hd d0 d1;rcases Nat.eq_zero_or_pos p with hp0|hp0
    ·have hg:decide (0<p) =false:=by simp [hp0]
     have hg1:decide ((0:Int) < (p:Int)) =false:=by simp [hp0]
     have hg2: ¬0<p:=by omega
     have HPt:=LH (putAt_sorted HSt.out hp HDr.out (by rw [hp0];simp));have HPm:=LH ((putAt_perm S p x).trans (List.Perm.append_right [x] HP.out));rw [←HTk.out] at HPm;clear hp0;go_upto_region 6 with fail;refine rX (by kernel_rfl) (by kernel_rfl) ?_
     repeat (go_big_quiet_step (fail))
     have B0:=Below.then_ HB.out BR.out;refine wpQuiet_nil ?_;intro w2 hb2;replace hb2:=bX hb2;have B2:Below w.heap.size w w2:=Below.then_ bE hb2;have s2:=B2.size;have e2:=(hb2.cell (p:=⟨b,off+q*2,none⟩) lb).trans e0;have e3:=(hb2.cell (p:=⟨b,off+q*2+1,none⟩) lb).trans e1;have lb2:b<w2.heap.size:=Nat.lt_of_lt_of_le lb hb2.size;have O2:=LH (OW.out.below hb2);have B2:=LH (Below.then_ BR.out hb2);clear hb2 e0 e1 lb B0;go_wp2_with fail;refine(ref06_put w2 Au cu S p x O2.out.sl k1 k2 hO (Nat.le_trans HLe.out (by decide)) hp).mono ?_;rintro e w3 ⟨v,rfl,ho,hb3⟩;have O3:=LH (ho.base_le (Nat.le_trans sz B2.out.size));have B3:=LH (Below.then_ HB.out (Below.then_ B2.out hb3));clear ho hb3;go_wp2_with fail;go_roundw
     case rel=>exact⟨q+1,putAt S p x,by go_num,by omega,O3.out,HPm.out,HPt.out,B3.out⟩
     case measure=>simp [intOf];omega
    ·obtain⟨p',hp'⟩ : ∃p',p=p'+1:=⟨p - 1,by omega⟩
     have hsub: (p:Int) - 1= (p':Int):=by omega
     have hg:decide (0<p) =true:=by simp;omega
     have hps:p'<S.length:=by omega
     have hpi: (p':Int) < (S.length:Int):=by omega
     have HPp:=LH hp';have HWR:Hid (wrap64 (p':Int) = (p':Int)):=LH (wrap_nat31 (Nat.le_trans (Nat.le_of_lt hps) HLe.out));obtain⟨b',off',hAu,hb',hc'⟩:=OW.out.sl.at_ hps;have f0:=hc' 0 (.int .i64 S[p'].1) rfl;simp only [Nat.add_zero] at f0;have HD2:=LH (fun h=>drop_lt hps h (hp' ▸ HDr.out));have HT2:=LH (fun h=>take_le HSt.out hps (x:=x.1) h);obtain⟨y,hy⟩ : ∃y,S[p'].1=y:=⟨_,rfl⟩;rw [hy] at f0 HD2 HT2;subst hAu;clear hc' hy hp';have HPm:=LH ((putAt_perm S p x).trans (List.Perm.append_right [x] HP.out));rw [←HTk.out] at HPm;by_cases hxy:x.1<y
     ·have HD3:=LH (HD2.out hxy)
      have hple:p'≤S.length:=Nat.le_of_lt hps;have hwr:=HWR.out;go_upto_region 6 with fail;refine rX (by kernel_rfl) (by kernel_rfl) ?_
      repeat (go_big_quiet_step (fail))
      have B0:=Below.then_ HB.out BR.out;refine wpQuiet_nil ?_;intro w2 hb2;replace hb2:=bX hb2;have B2:Below w.heap.size w w2:=Below.then_ bE hb2;have s2:=B2.size;have B2:=LH (Below.then_ BR.out hb2);clear hb2 e0 e1 lb B0 f0;go_wp2_with fail;clear hwr;go_roundw
      case rel=>exact⟨p',by simp only [HWR.out],hple,HD3.out,B2.out⟩
      case measure=>rw [HWR.out];exact meas31 HPp.out
     ·have hxy':decide (x.1<y) =false:=by simpa using hxy
      have HPt:=LH (putAt_sorted HSt.out hp HDr.out (by rw [HPp.out];exact HT2.out (by omega)));have hwr:=HWR.out;clear hxy HD2 HT2;go_upto_region 6 with fail;refine rX (by kernel_rfl) (by kernel_rfl) ?_
      repeat (go_big_quiet_step (fail))
      have B0:=Below.then_ HB.out BR.out;refine wpQuiet_nil ?_;intro w2 hb2;replace hb2:=bX hb2;have B2:Below w.heap.size w w2:=Below.then_ bE hb2;have s2:=B2.size;have e2:=(hb2.cell (p:=⟨b,off+q*2,none⟩) lb).trans e0;have e3:=(hb2.cell (p:=⟨b,off+q*2+1,none⟩) lb).trans e1;have lb2:b<w2.heap.size:=Nat.lt_of_lt_of_le lb hb2.size;have O2:=LH (OW.out.below hb2);have B2:=LH (Below.then_ BR.out hb2);clear hb2 e0 e1 lb B0 f0 hwr;go_wp2_with fail;refine(ref06_put w2 _ cu S p x O2.out.sl k1 k2 hO (Nat.le_trans HLe.out (by decide)) hp).mono ?_;rintro e w3 ⟨v,rfl,ho,hb3⟩;have O3:=LH (ho.base_le (Nat.le_trans sz B2.out.size));have B3:=LH (Below.then_ HB.out (Below.then_ B2.out hb3));clear ho hb3;go_wp2_with fail;go_roundw
      case rel=>exact⟨q+1,putAt S p x,by go_num,by omega,O3.out,HPm.out,HPt.out,B3.out⟩
      case measure=>simp [intOf];omega
  ·obtain rfl:q=l.length:=by omega
   rw [List.take_length] at HP;have hqe:decide ((l.length:Int) < (l.length:Int)) =false:=by simp
   go_wp2_with fail;go_ret;exact⟨_,S,rfl,HO.out,HP.out,HSt.out,HB.out⟩
theorem fold_stepS {l S:List Nd} (hp: ∀x∈l,1≤x.1∧1≤x.2) (hs:sumR l≤72057594037927935) (hperm:S.Perm l) (hsort:S.Pairwise fun a b=>a.1≤b.1) {q:Nat} (h:q<S.length) :
 (addAll [] (S.take q) = []∧addAll [] (S.take (q+1)) = [S[q]])∨
 ∃(L:List Nd) (y:Nd),addAll [] (S.take q) =L ++ [y]∧L.length<q∧0≤y.2∧y.2+S[q].2≤72057594037927935+72057594037927935∧
  ((y.1=S[q].1∧addAll [] (S.take (q+1)) =L ++ [(y.1,y.2+S[q].2)])∨(y.1≠S[q].1∧addAll [] (S.take (q+1)) = (L ++ [y]) ++ [S[q]])):=by
 have hpm: ∀x∈S,1≤x.1∧1≤x.2:=fun x hx=>hp x (hperm.mem_iff.1 hx);have e:=addAll_take h
 have hsum: ∀k,sumR (S.take k)≤sumR l:=fun k=>by
  rw [←fold_sumR_perm hperm];have e1:sumR (S.take k ++ S.drop k) =sumR S:=by rw [List.take_append_drop]
  have e2:=(sumR_pos fun x hx=>(hpm x (List.mem_of_mem_drop (i:=k) hx)).2).1;rw [sumR_append] at e1;omega
 have hx:=hpm _ (List.getElem_mem h);obtain⟨i1,i2,_⟩:=addAll_roll (r:= []) (L:=S.take q) ⟨.nil,by simp⟩ fun x hx=>hpm x (List.mem_of_mem_take hx)
 have hle: ∀z∈addAll [] (S.take q),z.1≤S[q].1:=addAll_le (by simp) fun z hz=>by
  obtain⟨i,hi,rfl⟩:=List.getElem_of_mem hz;rw [List.length_take] at hi;rw [List.getElem_take];exact List.pairwise_iff_getElem.1 hsort i q (by omega) h (by omega)
 have hlen:=addAll_len (S.take q) [];rw [List.length_take,List.length_nil] at hlen;have hq:=hsum q
 have hxl:S[q].2≤sumR l:=by
  have e3:=hsum (q+1);rw [List.take_succ_eq_append_getElem h,sumR_append] at e3;have e4:=(sumR_pos fun x hx=>(hpm x (List.mem_of_mem_take (i:=q) hx)).2).1;simp only [sumR] at e3;omega
 rw [e];generalize addAll [] (S.take q) =M at i1 i2 hle hlen⊢;generalize S[q] =x at hx hle hxl⊢;rcases List.eq_nil_or_concat M with rfl| ⟨L,y,rfl⟩
 ·left;exact⟨rfl,by simp [addR]⟩
 ·right
  simp only [List.concat_eq_append] at*;have hy:=i1.2 y (by simp);have hlt: ∀z∈L,z.1<y.1:=fun z hz=>(List.pairwise_append.1 i1.1).2.2 z hz y (by simp);have hyx:=hle y (by simp);have hL:=(sumR_pos fun z hz=>(i1.2 z (List.mem_append_left _ hz)).2).1;rw [sumR_append] at i2;simp only [sumR] at i2;rw [List.length_append] at hlen;refine⟨L,y,rfl,by simp at hlen;omega,by omega,by omega,?_⟩;by_cases hxy:y.1=x.1
  ·left
   refine⟨hxy,?_⟩;rw [←hxy];exact addR_bump hlt
  ·right
   refine⟨hxy,?_⟩
   exact addR_new fun z hz=>by
    rcases List.mem_append.1 hz with hz|hz
    ·have:=hlt z hz;omega
    ·rw [List.mem_singleton.1 hz];omega
theorem addAll_perm {l S:List Nd} (hp: ∀x∈l,1≤x.1∧1≤x.2) (h:S.Perm l) :addAll [] S=addAll [] l:=by
 obtain⟨a1,_,a3⟩:=addAll_roll (r:= []) (L:=S) ⟨.nil,by simp⟩ fun x hx=>hp x (h.mem_iff.1 hx);obtain⟨b1,_,b3⟩:=addAll_roll (r:= []) (L:=l) ⟨.nil,by simp⟩ hp;refine a1.ext b1 fun id=> ?_;rw [a3,b3,atR_perm h]
theorem addAll_one {r:List Nd} (hr:Roll r) {id c:Int} (h1:1≤id) (h2:1≤c) :addAll [] (r ++ [(id,c)]) =addR r id c:=by
 obtain⟨a1,_,a3⟩:=addAll_roll (r:= []) (L:=r ++ [(id,c)]) ⟨.nil,by simp⟩ fun x hx=>by
  rcases List.mem_append.1 hx with hx|hx
  ·exact hr.2 x hx
  ·rw [List.mem_singleton.1 hx];exact⟨h1,h2⟩
 refine a1.ext (hr.add h1 h2) fun j=> ?_;rw [a3,getR_add hr,atR_append,atR_roll hr];simp only [getR,atR,List.map_cons,List.map_nil,List.sum_cons,List.sum_nil];by_cases e:j=id
 ·subst e;simp
 ·rw [if_neg e,if_neg (Ne.symm e)];omega
theorem addAll_join {a b:List Nd} (ha:Roll a) (hb:Roll b) :addAll [] (a ++ b) =joinR a b:=by
 unfold joinR
 have hp: ∀x∈a ++ b,1≤x.1∧1≤x.2:=fun x hx=>by
  rcases List.mem_append.1 hx with h|h
  ·exact ha.2 x h
  ·exact hb.2 x h
 exact(addAll_perm hp (msort_perm _)).symm
theorem bump_ownO {W:World} {base g oo n co:Nat} {L:List Nd} {y1 y2 x2:Int} (h:Own W base 154 encN (.slice (some ⟨g,oo,none⟩) n co) (L ++ [(y1,y2)])) :
 Own (W.setCell ⟨g,oo+L.length*2+1,none⟩ (.int .i64 (y2+x2))) base 154 encN (.slice (some ⟨g,oo,none⟩) n co) (L ++ [(y1,y2+x2)]):=by
 have hk:L.length< (L ++ [(y1,y2)]).length:=by simp
 have:=h.setElem L.length 1 hk (by decide) (.int .i64 (y2+x2)) (y1,y2+x2) (by rw [List.getElem_append_right (Nat.le_refl _)];simp [encN])
 rwa [List.set_append_right _ _ (Nat.le_refl _),Nat.sub_self,List.set_cons_zero] at this
def BumpF (w2:World) (g oo n co:Nat) (L:List Nd) (y:Nd) (b o:Nat) (x1 x2:Int) (W:World) :Prop:=
 Own W w2.heap.size 154 encN (.slice (some ⟨g,oo,none⟩) n co) (L ++ [y])∧W.cell? ⟨b,o,none⟩ =some (.int .i64 x1)∧W.cell? ⟨b,o+1,none⟩ =some (.int .i64 x2)∧b<w2.heap.size∧Below w2.heap.size w2 W
theorem BumpF.below {w2:World} {g oo n co:Nat} {L:List Nd} {y:Nd} {b o:Nat} {x1 x2:Int} {W W':World} (h:BumpF w2 g oo n co L y b o x1 x2 W) (hb:Below W.heap.size W W') :BumpF w2 g oo n co L y b o x1 x2 W':=by
 obtain⟨h1,h2,h3,h4,h5⟩:=h;have hs:=h5.size;exact⟨h1.below hb,(hb.cell (by show b<_;omega)).trans h2,(hb.cell (by show b<_;omega)).trans h3,h4,Below.then_ h5 hb⟩
theorem BumpF.lt {w2:World} {g oo n co:Nat} {L:List Nd} {y:Nd} {b o:Nat} {x1 x2:Int} {W:World} (h:BumpF w2 g oo n co L y b o x1 x2 W) :b<W.heap.size:=by
 have:=h.2.2.2.1;have:=h.2.2.2.2.size;omega
theorem wrap_pred {n L:Nat} (h:n=L+1) (hL:L≤1000000) :wrap64 ((n:Int) - 1) = (L:Int)∧IntKind.i64.wrap ((n:Int) - 1) = (L:Int):=by
 refine⟨by unfold wrap64;omega,by rw [IntKind.wrap_i64];omega⟩
theorem wrap_sum {y x:Int} (h1:0≤y) (h2:0≤x) (h:y+x≤72057594037927935+72057594037927935) :wrap64 (y+x) =y+x∧IntKind.i64.wrap (y+x) =y+x:=by
 refine⟨by unfold wrap64;omega,by rw [IntKind.wrap_i64];omega⟩
def Fold6Post (l:List Nd) (w:World) (e:Ending) (w':World) :Prop:=∃v,e=.returned (.tuple #[v,.bool true])∧Own w' w.heap.size 154 encN v (addAll [] l)∧Below w.heap.size w w'
theorem ref06_Fold (w:World) (A:Option Addr) (cap:Nat) (l:List Nd) (hS:Sl w w.heap.size encN A l) (hI:ints l) (hp: ∀x∈l,1≤x.1∧1≤x.2) (hs:sumR l≤72057594037927935) (hn:l.length≤100000) :
 Calls Tryz.prog 149 #[.slice A l.length cap] w (Fold6Post l w):=by
 have hT:totalOf l= (sumR l,true):=by unfold totalOf;rw [total_ok (fun x hx=>(hp x hx).2) (Int.le_refl _) (by omega)];simp
 have HT:=LH (fun W h=>ref6_Total W A cap l h hI (Nat.le_trans hn (by decide)));rw [hT] at HT;unfold okV at HT;have HSo:=LH (fun W h=>ref06_Sorted W A cap l h hn);have HSt:=LH (fun (S:List Nd) (h1:S.Perm l) (h2:S.Pairwise fun a b=>a.1≤b.1) q (h:q<S.length)=>fold_stepS hp hs h1 h2 h);have HPm:=LH (fun (S:List Nd) (h1:S.Perm l)=>addAll_perm hp h1);have HPp:=LH (fun (S:List Nd) (h1:S.Perm l)=>fun x hx=>hp x (h1.mem_iff.1 hx));have HS:=LH hS;unfold Fold6Post;clear hS hI hp hs hT
 go_enter Tryz.func149,Tryz.ntmps149
 go_wp2_with fail;refine(HT.out w HS.out).mono ?_;rintro e w1 ⟨rfl,hb1⟩;have S1:=LH (HS.out.keep (B':=w1.heap.size) hb1.size fun p hp=>hb1.cell hp);have B1:=LH hb1;clear hb1 HT HS;go_wp2_with fail;refine(HSo.out w1 S1.out).mono ?_;rintro e w2 ⟨v2,S,rfl,ho2,hpm,hst,hb2⟩;obtain⟨A2,c2,rfl,_⟩:=ho2.form;have hSl:S.length≤100000:=by rw [hpm.length_eq];exact hn
 have S2:=LH ho2.sl;have B2:=LH (Below.then_ B1.out hb2);have HStep:=LH (HSt.out S hpm hst);have HEnd:=LH (HPm.out S hpm);have HPos:=LH (HPp.out S hpm);clear ho2 hb2 HSo S1 B1 HSt HPm HPp hpm hst hn;go_wp2_with fail
 go_loopw [7,8] (fun o i wr=>∃q,q≤S.length∧i=.int .i64 q∧Own wr w2.heap.size 154 encN o (addAll [] (S.take q))∧Below w2.heap.size w2 wr) (fun _ i _=>S.length - (intOf i).toNat)
 case atStart=>exact⟨0,Nat.zero_le _,rfl,.nil _ _ _ _,Below.refl _ _⟩
 case round=>
  obtain⟨q,hq,rfl,ho,hB⟩:=hrel;have HO:=LH ho;have HB:=LH hB;have sz:=hB.size;clear ho hB;by_cases hlt:q<S.length
  ·obtain⟨b,off,rfl,hb,hc⟩:=S2.out.at_ hlt
   have d0:=(HB.out.cell (p:=⟨b,off+q*2+0,none⟩) hb).trans (hc 0 (.int .i64 S[q].1) rfl);have d1:=(HB.out.cell (p:=⟨b,off+q*2+1,none⟩) hb).trans (hc 1 (.int .i64 S[q].2) rfl);simp only [Nat.add_zero] at d0;have hx:=HPos.out _ (List.getElem_mem hlt);have hst:=HStep.out q hlt;have lb:b<wr.heap.size:=Nat.lt_of_lt_of_le hb sz;obtain⟨x,hxe⟩ : ∃x,x=S[q]:=⟨_,rfl⟩;rw [←hxe] at d0 d1 hx hst;have hqi: (q:Int) < (S.length:Int):=by omega
   clear hc hxe;obtain⟨x1,x2⟩:=x;simp only at d0 d1 hx hst;have hx1:decide (x1<1) =false:=by simp;omega
   have hx2: (x2 == 0) =false:=by simp;omega
   have hx3:=hx.2;clear hx;obtain⟨M,hM⟩ : ∃M,M=addAll [] (S.take q):=⟨_,rfl⟩;rw [←hM] at HO hst;clear hM;rcases hst with ⟨rfl,hN⟩ | ⟨L,y,rfl,hLq,hy0,hyx,hN⟩
   ·have HN:=LH hN
    clear hN;obtain⟨Ao,co,rfl,_⟩:=HO.out.form;go_upto_region 13 with fail;refine rX (by kernel_rfl) (by kernel_rfl) ?_
    repeat (go_big_quiet_step (fail))
    refine wpQuiet_nil ?_;intro w4 hb4;have hb4:=bX hb4;have O4:=LH (HO.out.below hb4);have B4:=LH (HB.out.trans (hb4.mono sz));have e0:=(hb4.cell (p:=⟨b,off+q*2,none⟩) lb).trans d0;have e1:=(hb4.cell (p:=⟨b,off+q*2+1,none⟩) lb).trans d1;have lb4:b<w4.heap.size:=Nat.lt_of_lt_of_le lb hb4.size;have sz4:=B4.out.size;clear hb4 d0 d1 lb HO HB sz;go_wp2_with ((at_builtin;refine wpList_push tyN rfl _ _ rfl encN w4 w2.heap.size (.slice Ao ([] :List Nd).length co) [] rfl O4.out (x1,x2) (by go_simp) rfl ?c1 ?c2 ?c3 ?c4))
    try case c1=>simp
    try case c2=>simp [maxLen]
    try case c3=>exact sz4
    case c4=>
     intro v5 w5 ho5 _ _ _ hb5 _;have H5:=LH (And.intro ho5 (B4.out.trans hb5));clear ho5 hb5;go_wp2_with fail;go_roundw
     case rel=>exact⟨q+1,by omega,by go_num,by rw [HN.out];exact H5.out.1,H5.out.2⟩
     case measure=>simp [intOf];omega
   ·have HN:=LH hN
    clear hN;obtain⟨g,oo,n,co,rfl,hn⟩:=own_last HO.out;obtain⟨y1,y2⟩:=y;simp only at hy0 hyx HN;have S4:Hid (BumpF w2 g oo n co L (y1,y2) b (off+q*2) x1 x2 wr):=LH ⟨HO.out,d0,d1,hb,HB.out⟩;obtain⟨gl,hgb,gf,c0,c1⟩:=own_last_cells HO.out;simp only at c0 c1;have hk0:=wrap_pred hn (by omega);have hkw:=wrap_sum hy0 (by omega) hyx;have k1: (0:Int) < (n:Int):=by omega
    have k1n:0<n:=by omega
    have k1e:decide (0<n) =true:=by simp;omega
    have k2: (L.length:Int) < (n:Int):=by omega
    have k3: (0:Int)≤(L.length:Int):=by omega
    have hn':=LH hn;have hLl:L.length≤100000:=by omega
    have k0:=hk0.1;have k0':=hk0.2;have kw:=hkw.1;have kw':=hkw.2;clear hn hk0 hkw hy0 hyx;by_cases hxy:y1=x1
    ·have HN2:Hid (addAll [] (S.take (q+1)) =L ++ [(y1,y2+x2)]):=LH (by rcases HN.out with ⟨_,h⟩ | ⟨h,_⟩ <;> first|exact absurd hxy h|exact h)
     have hne: (y1 == x1) =true:=by simpa using hxy
     clear HN hxy;go_upto_region 13 with fail;refine rX (by kernel_rfl) (by kernel_rfl) ?_
     repeat (go_big_quiet_step (fail))
     refine wpQuiet_nil ?_;intro w4 hb4;have hb4:=bX hb4;replace S4:=LH (S4.out.below hb4);clear hb4 gl hgb gf c0 c1 sz d0 d1 lb HO HB;go_upto_region 14 with fail;refine wp_region_noPanic ?_;refine wp_region_N (fun W'=>BumpF w2 g oo n co L (y1,y2) b (off+q*2) x1 x2 W') [17] (by kernel_rfl) (S4.out.below ((Below.refl _ _).drew)) (fun hHeld=> ?_);have S5:=LH hHeld;refine nP 0 (Value.slice (some ⟨g,oo,none⟩) n co) (h:= ?_)
     (try simp only [zA,zB,zC,Act.put,zD,zE,zF])
     refine nP 1 (Value.int .i64 n) (h:= ?_)
     (try simp only [zA,zB,zC,Act.put,zD,zE,zF])
     refine nP 2 (Value.int .i64 L.length) (h:= ?_)
     (try simp only [zA,zB,zC,Act.put,zD,zE,zF])
     refine nP 3 (Value.slice (some ⟨g,oo,none⟩) n co) (h:= ?_)
     (try simp only [zA,zB,zC,Act.put,zD,zE,zF])
     refine nP 4 (Value.int .i64 n) (h:= ?_)
     (try simp only [zA,zB,zC,Act.put,zD,zE,zF])
     refine nP 5 (Value.int .i64 L.length) (h:= ?_)
     (try simp only [zA,zB,zC,Act.put,zD,zE,zF])
     refine nP 6 (Value.pointer (some ⟨g,oo+L.length*2,none⟩)) (h:= ?_)
     (try simp only [zA,zB,zC,Act.put,zD,zE,zF])
     refine nP 7 (Value.pointer (some ⟨g,oo+L.length*2+1,none⟩)) (h:= ?_)
     (try simp only [zA,zB,zC,Act.put,zD,zE,zF])
     refine nT 8 (Value.int .i64 y2) (y:=Or.inl ⟨by rfl,fun W hW=>by have q1:=hW.2.1;have q2:=hW.2.2.1;have q6:=hW.lt;obtain⟨q3,_,_,q4,q5⟩:=own_last_cells hW.1;go_simp⟩) (s:=S5.out) (h:= ?_)
     (try simp only [zA,zB,zC,Act.put,zD,zE,zF])
     refine nP 9 (Value.slice (some ⟨b,off,none⟩) S.length c2) (h:= ?_)
     (try simp only [zA,zB,zC,Act.put,zD,zE,zF])
     refine nP 10 (Value.int .i64 q) (h:= ?_)
     (try simp only [zA,zB,zC,Act.put,zD,zE,zF])
     refine nP 11 (Value.pointer (some ⟨b,off+q*2,none⟩)) (h:= ?_)
     (try simp only [zA,zB,zC,Act.put,zD,zE,zF])
     refine nP 12 (Value.pointer (some ⟨b,off+q*2+1,none⟩)) (h:= ?_)
     (try simp only [zA,zB,zC,Act.put,zD,zE,zF])
     refine nT 13 (Value.int .i64 x2) (y:=Or.inl ⟨by rfl,fun W hW=>by have q1:=hW.2.1;have q2:=hW.2.2.1;have q6:=hW.lt;obtain⟨q3,_,_,q4,q5⟩:=own_last_cells hW.1;go_simp⟩) (s:=S5.out) (h:= ?_)
     (try simp only [zA,zB,zC,Act.put,zD,zE,zF])
     refine nP 14 (Value.int .i64 (y2+x2)) (h:= ?_)
     (try simp only [zA,zB,zC,Act.put,zD,zE,zF])
     refine nP 15 (Value.pointer (some ⟨g,oo+L.length*2,none⟩)) (h:= ?_)
     (try simp only [zA,zB,zC,Act.put,zD,zE,zF])
     refine nP 16 (Value.pointer (some ⟨g,oo+L.length*2+1,none⟩)) (h:= ?_)
     (try simp only [zA,zB,zC,Act.put,zD,zE,zF])
     obtain⟨gl,_,gf,c0,c1⟩:=own_last_cells S5.out.1;refine nO (i:=17) (by kernel_rfl) rfl (fun K hK=> ?_);go_simp;go_simp;refine hK.out _ _ (fun h _=>absurd (List.mem_singleton.2 rfl) h) ?_;clear hK K gl gf c0 c1
     (try simp only [zA,zB,zC,Act.put,zD,zE,zF])
     refine nD (by kernel_rfl) ?_ _;refine NoPanic.normal ?_;have O6:=LH (bump_ownO (x2:=x2) S5.out.1);have B6:=LH (S5.out.2.2.2.2.setCell (p:=⟨g,oo+L.length*2+1,none⟩) (own_last_cells S5.out.1).2.1 (.int .i64 (y2+x2)));clear S4 S5;go_wp2_with fail;clear k0 k0' kw kw';go_roundw
     case rel=>exact⟨q+1,by omega,by go_num,by rw [HN2.out];exact O6.out,B6.out⟩
     case measure=>simp [intOf];omega
    ·have HN2:Hid (addAll [] (S.take (q+1)) = (L ++ [(y1,y2)]) ++ [(x1,x2)]):=LH (by rcases HN.out with ⟨h,_⟩ | ⟨_,h⟩ <;> first|exact absurd h hxy|exact h)
     have hne: (y1 == x1) =false:=by simpa using hxy
     clear HN hxy;go_upto_region 13 with fail;refine rX (by kernel_rfl) (by kernel_rfl) ?_
     repeat (go_big_quiet_step (fail))
     refine wpQuiet_nil ?_;intro w4 hb4;have hb4:=bX hb4;replace S4:=LH (S4.out.below hb4);clear hb4 gl hgb gf c0 c1 sz d0 d1 lb HO HB k0 k0' kw kw';have e0:=S4.out.2.1;have e1:=S4.out.2.2.1;have lb4:=S4.out.lt;have sz4:=S4.out.2.2.2.2.size;have O4:=LH S4.out.1;have B4:=LH S4.out.2.2.2.2;clear S4;go_wp2_with ((at_builtin;refine wpList_push tyN rfl _ _ rfl encN w4 w2.heap.size (.slice (some ⟨g,oo,none⟩) n co) (L ++ [(y1,y2)]) rfl O4.out (x1,x2) (by go_simp) rfl ?d1 ?d2 ?d3 ?d4))
     case d1=>have:=hn'.out;(try simp only [List.length_append,List.length_cons,List.length_nil]);omega
     case d2=>have:=hn'.out;unfold maxLen;(try simp only [List.length_append,List.length_cons,List.length_nil]);omega
     try case d3=>exact sz4
     case d4=>
      intro v5 w5 ho5 _ _ _ hb5 _;have H5:=LH (And.intro ho5 (B4.out.trans hb5));clear ho5 hb5;go_wp2_with fail;go_roundw
      case rel=>exact⟨q+1,by omega,by go_num,by rw [HN2.out];simpa using H5.out.1,H5.out.2⟩
      case measure=>simp [intOf];omega
  ·obtain rfl:q=S.length:=by omega
   have HO2:Hid (Own wr w2.heap.size 154 encN u7 (addAll [] l)):=LH (by have:=HO.out;rw [List.take_length,HEnd.out] at this;exact this);clear HO;have hqe:decide ((S.length:Int) < (S.length:Int)) =false:=by simp
   go_wp2_with fail
   go_ret2
   exact⟨_,rfl,HO2.out.base_le B2.out.size,B2.out.trans (HB.out.mono B2.out.size)⟩
def RollPost (R:List Nd) (w:World) (e:Ending) (w':World) :Prop:=∃v,e=.returned (.tuple #[v,.bool true])∧Own w' w.heap.size 154 encN v R∧Below w.heap.size w w'
theorem roll_all {a b:List Nd} (ha:Roll a) (hb:Roll b) : ∀x∈a ++ b,1≤x.1∧1≤x.2:=fun x hx=>by
 rcases List.mem_append.1 hx with h|h
 ·exact ha.2 x h
 ·exact hb.2 x h
theorem ints_app {a b:List Nd} (ha:ints a) (hb:ints b) :ints (a ++ b):=fun x hx=>by
 rcases List.mem_append.1 hx with h|h
 ·exact ha x h
 ·exact hb x h
theorem ref06_Join (w:World) (A B:Option Addr) (c1 c2:Nat) (a b:List Nd) (hA:Sl w w.heap.size encN A a) (hB:Sl w w.heap.size encN B b) (ra:Roll a) (rb:Roll b) (ia:ints a) (ib:ints b) (hs:sumR a+sumR b≤72057594037927935) (hn:a.length+b.length≤100000) :
 Calls Tryz.prog 100 #[.slice A a.length c1,.slice B b.length c2] w (RollPost (joinR a b) w):=by
 have HF:=LH (fun W A cap h=>ref06_Fold W A cap (a ++ b) h (ints_app ia ib) (roll_all ra rb) (by rw [sumR_append];exact hs) (by simpa using hn));have HE:=LH (addAll_join ra rb);have SA:=LH hA;have SB:=LH hB;unfold RollPost;obtain⟨C,hC⟩ : ∃C,C=a ++ b:=⟨_,rfl⟩;have HCl:=LH (show C.length=a.length+b.length by rw [hC];simp);have HC:=LH hC;rw [←hC] at HF HE;clear hA hB ra rb ia ib hs hC
 go_enter Tryz.func100,Tryz.ntmps100
 go_wp2_with ((at_builtin;refine wpList_app tyN rfl _ _ rfl encN w.heap.size (.slice none 0 0) [] rfl (Own.nil _ _ _ _) A c1 a w.heap.size ?hx SA.out ?c1 ?c2 ?c3 ?c4))
 case hx=>rfl
 case c1=>simp only [List.length_nil];omega
 case c2=>simp only [maxLen,List.length_nil];omega
 case c3=>exact Nat.le_refl _
 case c4=>
  intro v4 w4 ho4 hg4 _ hb4
  try intro _
  have O4:=LH (show Own w4 w.heap.size 154 encN v4 a from ho4);have B4:=LH hb4;have SB4:=LH (SB.out.keep (B':=w4.heap.size) hb4.size fun p hp=>hb4.cell hp);have b4:=hb4.size;clear ho4 hg4 hb4 SA SB;obtain⟨A4,cp4,rfl,_⟩:=O4.out.form;go_wp2_with ((at_builtin;refine wpList_app tyN rfl _ _ rfl encN w.heap.size (.slice A4 a.length cp4) a rfl O4.out B c2 b w4.heap.size ?hx SB4.out ?d1 ?d2 ?d3 ?d4))
  case hx=>rfl
  case d1=>omega
  case d2=>simp only [maxLen];omega
  case d3=>exact b4
  case d4=>
   intro v5 w5 ho5 hg5 _ hb5
   try intro _
   rw [←HC.out] at ho5;obtain⟨A5,cp5,rfl,_⟩:=ho5.form;have O5:=LH ho5.sl;have B5:=LH (B4.out.trans hb5);clear ho5 hg5 hb5;go_wp2_with fail;refine(HF.out w5 A5 cp5 O5.out).mono ?_;rintro e w6 ⟨v,rfl,ho,hb⟩;rw [HE.out] at ho;have O6:=LH (ho.base_le B5.out.size);have B6:=LH (Below.then_ B5.out hb);clear ho hb;go_wp2_with fail
   go_ret2
   exact⟨v,rfl,O6.out,B6.out⟩
def StorePost (l:Nat) (R:List Nd) (n:Int) (w:World) (e:Ending) (w':World) :Prop:=∃A c,e=.returned (.tuple #[.agg #[.int .i64 l,.slice A R.length c],.int .i64 n])∧Own w' w.heap.size 154 encN (.slice A R.length c) R∧Below w.heap.size w w'
theorem tot_roll {r:List Nd} (hr:Roll r) (hs:sumR r≤72057594037927935) : (totalOf r).1=sumR r:=by
 unfold totalOf;rw [total_ok (fun x hx=>(hr.2 x hx).2) (Int.le_refl _) (by omega)];simp
theorem ref07_Add (w:World) (l:Nat) (A:Option Addr) (cap:Nat) (r:List Nd) (id c:Int) (hS:Sl w w.heap.size encN A r) (hr:Roll r) (hI:ints r) (hn:r.length≤99999) (hid:isNode l id=true) (hid1:1≤id) (hid2:id≤9223372036854775807) (hc:1≤c) (hs:sumR r+c≤72057594037927935) :
 Calls Tryz.prog 139 #[.agg #[.int .i64 l,.slice A r.length cap],.int .i64 id,.int .i64 c] w (StorePost l (addR r id c) 0 w):=by
 have hs0:=sumR_nonneg hr;have HRt:=LH (fun W=>ref2_Right W l id hid2);rw [hid] at HRt;have HT:=LH (fun W h=>ref7_Total W l A cap r h hI (Nat.le_trans hn (by decide)));rw [tot_roll hr (by omega)] at HT
 have hi1:ints [(id,c)]:=fun x hx=>by
  rw [List.mem_singleton.1 hx];exact⟨by constructor <;> simp only <;> omega,by constructor <;> simp only <;> omega⟩
 have HF:=LH (fun W A cap h=>ref06_Fold W A cap (r ++ [(id,c)]) h (ints_app hI hi1) (fun x hx=>by
  rcases List.mem_append.1 hx with h|h
  ·exact hr.2 x h
  ·rw [List.mem_singleton.1 h];exact⟨hid1,hc⟩) (by rw [sumR_append];simp only [sumR];omega) (by simp;omega))
 have HE:=LH (addAll_one hr hid1 hc);have hd1:decide (c<0) =false:=by simp;omega
 have hsb:sumR r≤72057594037927934:=by omega
 have hd2:decide (72057594037927935 - sumR r<c) =false:=by simp;omega
 have hw:wrap64 (72057594037927935 - sumR r) =72057594037927935 - sumR r:=by unfold wrap64;omega
 have SA:=LH hS;unfold StorePost;obtain⟨C,hC⟩ : ∃C,C=r ++ [(id,c)]:=⟨_,rfl⟩;have HCl:=LH (show C.length=r.length+1 by rw [hC];simp);have HC:=LH hC;rw [←hC] at HF HE;generalize sumR r=t at HT hs0 hs hd2 hsb hw;clear hS hr hI hC hi1 hid hs;obtain⟨R,hR⟩ : ∃R,R=addR r id c:=⟨_,rfl⟩;rw [←hR] at HE⊢;clear hR;have X0:Hid (((w.alloc (.cells #[.int .i64 l,.slice A r.length cap] 33)).alloc (.cells #[.int .i64 0,.slice none 0 0] 33)).heap[w.heap.size]? =some (.cells #[.int .i64 l,.slice A r.length cap] 33 (0,0))):=LH ((heap_new_lt _ _ _ (by simp)).trans (heap_alloc_new w _));have Y0:Hid (((w.alloc (.cells #[.int .i64 l,.slice A r.length cap] 33)).alloc (.cells #[.int .i64 0,.slice none 0 0] 33)).heap[w.heap.size+1]? =some (.cells #[.int .i64 0,.slice none 0 0] 33 (0,0))):=LH (heap_new_at (w.alloc _) _ _ (by simp));have B0:Hid (Below w.heap.size w ((w.alloc (.cells #[.int .i64 l,.slice A r.length cap] 33)).alloc (.cells #[.int .i64 0,.slice none 0 0] 33))):=LH bE;have Z0:Hid (((w.alloc (.cells #[.int .i64 l,.slice A r.length cap] 33)).alloc (.cells #[.int .i64 0,.slice none 0 0] 33)).heap.size=w.heap.size+2):=LH (by simp)
 go_enter Tryz.func139,Tryz.ntmps139
 go_upto_region 1 with fail;generalize (w.alloc (.cells #[.int .i64 l,.slice A r.length cap] 33)).alloc (.cells #[.int .i64 0,.slice none 0 0] 33) =W0 at X0 Y0 B0 Z0⊢;have c0:=bC X0.out;have z0:=lB X0.out;go_wp2_with fail;refine(HRt.out W0).mono ?_;rintro e w1 ⟨rfl,hb⟩;have X1:=LH (bB X0.out hb);have Y1:=LH (bB Y0.out hb);have B1:=LH (Below.then_ B0.out hb);clear hb c0 z0 X0 Y0;have c1:=bC X1.out;have z1:=lB X1.out;go_wp2_with fail;refine(HT.out w1 (SA.out.keep (B':=w1.heap.size) B1.out.size fun p hp=>B1.out.cell hp)).mono ?_;rintro e w2 ⟨rfl,hb⟩;have X2:=LH (bB X1.out hb);have Y2:=LH (bB Y1.out hb);have B2:=LH (Below.then_ B1.out hb);have S2:=LH (SA.out.keep (B':=w2.heap.size) B2.out.size fun p hp=>B2.out.cell hp);have Z2:Hid (w.heap.size+2≤w2.heap.size):=LH (by have:=Z0.out;have:=B2.out.size;have:=B1.out.size;have:=lB Y2.out;omega);clear hb c1 z1 X1 Y1 B0 B1 SA HRt HT;have c2:=bC X2.out;have z2:=lB X2.out;go_wp2_with ((at_builtin;refine wpList_app tyN rfl _ _ rfl encN w2.heap.size (.slice none 0 0) [] rfl (Own.nil _ _ _ _) A cap r w2.heap.size ?hx S2.out ?c1 ?c2 ?c3 ?c4))
 case hx=>rfl
 case c1=>simp only [List.length_nil];omega
 case c2=>simp only [maxLen,List.length_nil];omega
 case c3=>exact Nat.le_refl _
 case c4=>
  intro v4 w4 ho4 hg4 _ hb4
  try intro _
  have O4:=LH (show Own w4 w2.heap.size 154 encN v4 r from ho4);have X4:=LH (bB X2.out hb4);have Y4:=LH (bB Y2.out hb4);have B4:=LH (Below.then_ B2.out hb4);have b4:=hb4.size;clear ho4 hg4 hb4 S2 c2 z2;obtain⟨A4,cp4,rfl,_⟩:=O4.out.form;go_wp2_with ((at_builtin;refine wpList_push tyN rfl _ _ rfl encN w4 w2.heap.size (.slice A4 r.length cp4) r rfl O4.out (id,c) (by go_simp) rfl ?d1 ?d2 ?d3 ?d4))
  case d1=>omega
  case d2=>simp only [maxLen];omega
  case d3=>exact b4
  case d4=>
   intro v5 w5 ho5 hg5 hs5 _ hb5 _;rw [←HC.out] at ho5;obtain⟨A5,cp5,rfl,_⟩:=ho5.form;have O5:=LH ho5.sl;have X5:=LH ((hb5.block _ (lB X2.out)).trans X4.out);have Y5:=LH ((hb5.block _ (lB Y2.out)).trans Y4.out);have B5:=LH (B4.out.trans (hb5.mono B2.out.size));clear ho5 hg5 hb5 O4 X4 Y4;go_wp2_with fail;refine(HF.out w5 A5 cp5 O5.out).mono ?_;rintro e w6 ⟨v,rfl,ho,hb⟩;rw [HE.out] at ho;obtain⟨A6,cp6,rfl,_⟩:=ho.form;have O6:=LH ho;have X6:=LH (bB X5.out hb);have Y6:=LH (bB Y5.out hb);have B6:=LH (Below.then_ B5.out hb);have hw5:w.heap.size+2≤w5.heap.size:=Nat.le_trans Z2.out (Nat.le_of_lt (Nat.lt_of_le_of_lt b4 hs5));have HW5:=LH hw5;have c6:=bC X6.out;have f6:=bF X6.out;have z6:=lB X6.out;have cy6:=bC Y6.out;have fy6:=bF Y6.out;have zy6:=lB Y6.out;clear ho hb O5 X5 Y5 hw hd2 hs0 hsb hw5 b4 hs5;go_wp2_with fail
   have Y7:Hid ((((w6.setCell ⟨w.heap.size,1,none⟩ (.slice A6 R.length cp6)).setCell ⟨w.heap.size+1,0,none⟩ (.int .i64 l)).setCell ⟨w.heap.size+1,1,none⟩ (.slice A6 R.length cp6)).heap[w.heap.size+1]? =some (.cells #[.int .i64 l,.slice A6 R.length cp6] 33 (0,0))):=LH (by
    have h1: (w6.setCell ⟨w.heap.size,1,none⟩ (.slice A6 R.length cp6)).heap[w.heap.size+1]? =some (.cells #[.int .i64 0,.slice none 0 0] 33 (0,0)):=(Below.heap_setCell _ _ _ _ (by simp)).trans Y6.out;have h2:=zH (i:=0) h1 (.int .i64 l);exact zH (i:=1) h2 _)
   have O7:Hid (Own (((w6.setCell ⟨w.heap.size,1,none⟩ (.slice A6 R.length cp6)).setCell ⟨w.heap.size+1,0,none⟩ (.int .i64 l)).setCell ⟨w.heap.size+1,1,none⟩ (.slice A6 R.length cp6)) w5.heap.size 154 encN (.slice A6 R.length cp6) R):=LH (((O6.out.setCellB (p:=⟨w.heap.size,1,none⟩) (by have:=HW5.out;simp only;omega)).setCellB (p:=⟨w.heap.size+1,0,none⟩) (by have:=HW5.out;simp only;omega)).setCellB (p:=⟨w.heap.size+1,1,none⟩) (by have:=HW5.out;simp only;omega));have B7:Hid (Below w.heap.size w (((w6.setCell ⟨w.heap.size,1,none⟩ (.slice A6 R.length cp6)).setCell ⟨w.heap.size+1,0,none⟩ (.int .i64 l)).setCell ⟨w.heap.size+1,1,none⟩ (.slice A6 R.length cp6))):=LH (Below.setCell (p:=⟨w.heap.size+1,1,none⟩) (Below.setCell (p:=⟨w.heap.size+1,0,none⟩) (Below.setCell (p:=⟨w.heap.size,1,none⟩) B6.out (by simp) _) (by simp) _) (by simp) _);generalize (((w6.setCell ⟨w.heap.size,1,none⟩ (.slice A6 R.length cp6)).setCell ⟨w.heap.size+1,0,none⟩ (.int .i64 l)).setCell ⟨w.heap.size+1,1,none⟩ (.slice A6 R.length cp6)) =w7 at Y7 O7 B7⊢;have c7:=bC Y7.out;have f7:=bF Y7.out;have z7:=lB Y7.out;exact bR (v:=.tuple #[.agg #[.int .i64 l,.slice A6 R.length cp6],.int .i64 0]) (by simp only [results,Tryz.results139];go_simp) rfl ⟨A6,cp6,rfl,O7.out.base_le (by have:=HW5.out;omega),B7.out⟩
def butR (id:Int) (L:List Nd) :List Nd:=L.filter fun x=>x.1 != id
theorem butR_take {L:List Nd} {q:Nat} (id:Int) (h:q<L.length) :butR id (L.take (q+1)) =butR id (L.take q) ++ (if (L[q].1 != id) =true then [L[q]] else []):=by
 rw [List.take_succ_eq_append_getElem h];unfold butR;rw [List.filter_append,List.filter_cons,List.filter_nil]
theorem butR_del {r:List Nd} (hr:Roll r) (id:Int) :butR id r=delR r id:=by
 induction r with
 |nil=>rfl
 |cons x r ih=>
  have hx:=hr.head;simp only [delR];by_cases h:x.1=id
  ·rw [if_pos h]
   unfold butR;rw [List.filter_cons_of_neg (by simp [h])];refine List.filter_eq_self.2 fun y hy=> ?_;have:=hx y hy;simp only [bne_iff_ne,ne_eq];omega
  ·rw [if_neg h,←ih hr.tail]
   unfold butR;rw [List.filter_cons_of_pos (by simpa using h)]
theorem butR_len (id:Int) (L:List Nd) : (butR id L).length≤L.length:=List.length_filter_le _ _
theorem ref07_Take (w:World) (l:Nat) (A:Option Addr) (cap:Nat) (r:List Nd) (id:Int) (hS:Sl w w.heap.size encN A r) (hr:Roll r) (hI:ints r) (hn:r.length≤100000) :
 Calls Tryz.prog 218 #[.agg #[.int .i64 l,.slice A r.length cap],.int .i64 id] w (StorePost l (delR r id) (getR r id) w):=by
 have HG:=LH (fun W h=>ref7_Get W l A cap r h hI (Nat.le_trans hn (by decide)) id);have HE:=LH (butR_del hr id);have SA:=LH hS;unfold StorePost;obtain⟨R,hR⟩ : ∃R,R=delR r id:=⟨_,rfl⟩;rw [←hR] at HE⊢;generalize getR r id=n at HG⊢;clear hS hr hI hR;have X0:Hid (((w.alloc (.cells #[.int .i64 l,.slice A r.length cap] 33)).alloc (.cells #[.int .i64 0,.slice none 0 0] 33)).heap[w.heap.size]? =some (.cells #[.int .i64 l,.slice A r.length cap] 33 (0,0))):=LH ((heap_new_lt _ _ _ (by simp)).trans (heap_alloc_new w _));have Y0:Hid (((w.alloc (.cells #[.int .i64 l,.slice A r.length cap] 33)).alloc (.cells #[.int .i64 0,.slice none 0 0] 33)).heap[w.heap.size+1]? =some (.cells #[.int .i64 0,.slice none 0 0] 33 (0,0))):=LH (heap_new_at (w.alloc _) _ _ (by simp));have B0:Hid (Below w.heap.size w ((w.alloc (.cells #[.int .i64 l,.slice A r.length cap] 33)).alloc (.cells #[.int .i64 0,.slice none 0 0] 33))):=LH bE;have Z0:Hid (((w.alloc (.cells #[.int .i64 l,.slice A r.length cap] 33)).alloc (.cells #[.int .i64 0,.slice none 0 0] 33)).heap.size=w.heap.size+2):=LH (by simp)
 go_enter Tryz.func218,Tryz.ntmps218
 go_upto_region 1 with fail;generalize (w.alloc (.cells #[.int .i64 l,.slice A r.length cap] 33)).alloc (.cells #[.int .i64 0,.slice none 0 0] 33) =W0 at X0 Y0 B0 Z0⊢;have c0:=bC X0.out;have z0:=lB X0.out;go_wp2_with fail;refine(HG.out W0 (SA.out.keep (B':=W0.heap.size) B0.out.size fun p hp=>B0.out.cell hp)).mono ?_;rintro e w1 ⟨rfl,hb⟩;have X1:=LH (bB X0.out hb);have Y1:=LH (bB Y0.out hb);have B1:=LH (Below.then_ B0.out hb);have Z1:Hid (w.heap.size+2≤w1.heap.size):=LH (by have:=Z0.out;have:=hb.size;omega);have S1:=LH (SA.out.keep (B':=w1.heap.size) B1.out.size fun p hp=>B1.out.cell hp);clear hb c0 z0 X0 Y0 B0 Z0 SA HG;go_wp2_with fail
 go_loopw [7,8] (fun o i wr=>∃q,q≤r.length∧i=.int .i64 q∧Own wr w1.heap.size 154 encN o (butR id (r.take q))∧Below w1.heap.size w1 wr) (fun _ i _=>r.length - (intOf i).toNat)
 case atStart=>exact⟨0,Nat.zero_le _,rfl,.nil _ _ _ _,Below.refl _ _⟩
 case round=>
  obtain⟨q,hq,rfl,ho,hB⟩:=hrel;have HO:=LH ho;have HB:=LH hB;have sz:=hB.size;have XR:=LH (bB X1.out hB);have YR:=LH (bB Y1.out hB);have cx:=bC XR.out;have zx:=lB XR.out;clear ho hB;by_cases hlt:q<r.length
  ·obtain⟨b,off,rfl,hb,hc⟩:=S1.out.at_ hlt
   have d0:=(HB.out.cell (p:=⟨b,off+q*2+0,none⟩) hb).trans (hc 0 (.int .i64 r[q].1) rfl);have d1:=(HB.out.cell (p:=⟨b,off+q*2+1,none⟩) hb).trans (hc 1 (.int .i64 r[q].2) rfl);simp only [Nat.add_zero] at d0;have lb:b<wr.heap.size:=Nat.lt_of_lt_of_le hb sz;have hst:=butR_take id hlt;have hbl:=butR_len id (r.take q);rw [List.length_take] at hbl;obtain⟨x,hxe⟩ : ∃x,x=r[q]:=⟨_,rfl⟩;rw [←hxe] at d0 d1 hst;have hqi: (q:Int) < (r.length:Int):=by omega
   clear hc hxe;obtain⟨x1,x2⟩:=x;simp only at d0 d1 hst;have hML: (butR id (r.take q)).length≤100000:=by omega
   obtain⟨M,hM⟩ : ∃M,M=butR id (r.take q):=⟨_,rfl⟩;rw [←hM] at HO hst hML;clear hM hbl;by_cases hxy:x1=id
   ·have hN:Hid (butR id (r.take (q+1)) =M):=LH (by rw [hst,if_neg (by simp [hxy])];simp)
    have hne: (x1 != id) =false:=by simp [hxy]
    have hne2: (x1 == id) =true:=by simp [hxy]
    clear hst hxy;go_wp2_with fail;go_roundw
    case rel=>exact⟨q+1,by omega,by go_num,by rw [hN.out];exact HO.out,HB.out⟩
    case measure=>simp [intOf];omega
   ·have hN:Hid (butR id (r.take (q+1)) =M ++ [(x1,x2)]):=LH (by rw [hst,if_pos (by simpa using hxy)])
    have hne: (x1 != id) =true:=by simpa using hxy
    have hne2: (x1 == id) =false:=by simpa using hxy
    clear hst hxy;obtain⟨Ao,co,rfl,_⟩:=HO.out.form;go_wp2_with ((at_builtin;refine wpList_push tyN rfl _ _ rfl encN wr w1.heap.size (.slice Ao M.length co) M rfl HO.out (x1,x2) (by go_simp) rfl ?d1 ?d2 ?d3 ?d4))
    case d1=>omega
    case d2=>simp only [maxLen];omega
    case d3=>exact sz
    case d4=>
     intro v5 w5 ho5 _ _ _ hb5 _;have H5:=LH (And.intro ho5 (HB.out.trans hb5));clear ho5 hb5;go_wp2_with fail;go_roundw
     case rel=>exact⟨q+1,by omega,by go_num,by rw [hN.out];exact H5.out.1,H5.out.2⟩
     case measure=>simp [intOf];omega
  ·obtain rfl:q=r.length:=by omega
   have HO2:Hid (Own wr w1.heap.size 154 encN u7 R):=LH (by have:=HO.out;rw [List.take_length,HE.out] at this;exact this);clear HO;obtain⟨A6,cp6,rfl,_⟩:=HO2.out.form;have hqe:decide ((r.length:Int) < (r.length:Int)) =false:=by simp
   have f6:=bF XR.out;have cy6:=bC YR.out;have fy6:=bF YR.out;have zy6:=lB YR.out;have B6:=LH (B1.out.trans (HB.out.mono B1.out.size));go_wp2_with fail
   have Y7:Hid ((((wr.setCell ⟨w.heap.size,1,none⟩ (.slice A6 R.length cp6)).setCell ⟨w.heap.size+1,0,none⟩ (.int .i64 l)).setCell ⟨w.heap.size+1,1,none⟩ (.slice A6 R.length cp6)).heap[w.heap.size+1]? =some (.cells #[.int .i64 l,.slice A6 R.length cp6] 33 (0,0))):=LH (by
    have h1: (wr.setCell ⟨w.heap.size,1,none⟩ (.slice A6 R.length cp6)).heap[w.heap.size+1]? =some (.cells #[.int .i64 0,.slice none 0 0] 33 (0,0)):=(Below.heap_setCell _ _ _ _ (by simp)).trans YR.out;have h2:=zH (i:=0) h1 (.int .i64 l);exact zH (i:=1) h2 _)
   have O7:Hid (Own (((wr.setCell ⟨w.heap.size,1,none⟩ (.slice A6 R.length cp6)).setCell ⟨w.heap.size+1,0,none⟩ (.int .i64 l)).setCell ⟨w.heap.size+1,1,none⟩ (.slice A6 R.length cp6)) w1.heap.size 154 encN (.slice A6 R.length cp6) R):=LH (((HO2.out.setCellB (p:=⟨w.heap.size,1,none⟩) (by have:=Z1.out;simp only;omega)).setCellB (p:=⟨w.heap.size+1,0,none⟩) (by have:=Z1.out;simp only;omega)).setCellB (p:=⟨w.heap.size+1,1,none⟩) (by have:=Z1.out;simp only;omega));have B7:Hid (Below w.heap.size w (((wr.setCell ⟨w.heap.size,1,none⟩ (.slice A6 R.length cp6)).setCell ⟨w.heap.size+1,0,none⟩ (.int .i64 l)).setCell ⟨w.heap.size+1,1,none⟩ (.slice A6 R.length cp6))):=LH (Below.setCell (p:=⟨w.heap.size+1,1,none⟩) (Below.setCell (p:=⟨w.heap.size+1,0,none⟩) (Below.setCell (p:=⟨w.heap.size,1,none⟩) B6.out (by simp) _) (by simp) _) (by simp) _);generalize (((wr.setCell ⟨w.heap.size,1,none⟩ (.slice A6 R.length cp6)).setCell ⟨w.heap.size+1,0,none⟩ (.int .i64 l)).setCell ⟨w.heap.size+1,1,none⟩ (.slice A6 R.length cp6)) =w7 at Y7 O7 B7⊢;have c7:=bC Y7.out;have f7:=bF Y7.out;have z7:=lB Y7.out;exact bR (v:=.tuple #[.agg #[.int .i64 l,.slice A6 R.length cp6],.int .i64 n]) (by simp only [results,Tryz.results218];go_simp) rfl ⟨A6,cp6,rfl,O7.out.base_le (by have:=Z1.out;omega),B7.out⟩
structure SlP (w:World) (A:Option Addr) (cap:Nat) (L:List Int) :Prop where
 s:Sl w w.heap.size encZ A L
 c1:L.length≤cap
 c2:cap≤maxLen
 o: (A=none∧cap=0)∨∃b off,A=some ⟨b,off,none⟩
def ParPost (r:List Nd) (w:World) (e:Ending) (w':World) :Prop:=
 ∃(A':Option Addr) (cap':Nat) (L:List Int),e=.returned (.slice A' L.length cap')∧SlP w' A' cap' L∧(∀z∈L,z≤9223372036854775807)∧(∀x∈r,1<x.1→x.1 / 2∈L)∧L.Pairwise leA∧L.length≤r.length∧Below w.heap.size w w'
theorem ref11_Parents (w:World) (A:Option Addr) (cap:Nat) (r:List Nd) (hS:Sl w w.heap.size encN A r) (hI:ints r) (hlen:r.length≤999) :
 Calls Tryz.prog 215 #[.slice A r.length cap] w (ParPost r w):=by
 have HS:=LH hS;have HI:=LH hI;unfold ParPost;clear hS hI
 go_enter Tryz.func215,Tryz.ntmps215
 go_wp2_with fail
 go_loopw [3,4] (fun o i wr=>∃(q:Nat) (A':Option Addr) (cap':Nat) (L:List Int),q≤r.length∧i=.int .i64 q∧o=.slice A' L.length cap'∧SlP wr A' cap' L∧(∀z∈L,z≤9223372036854775807)∧(∀x∈r.take q,1<x.1→x.1 / 2∈L)∧L.Pairwise leA∧L.length≤q∧Below w.heap.size w wr) (fun _ i _=>r.length - (intOf i).toNat)
 case atStart=>exact⟨0,none,0, [],Nat.zero_le _,rfl,rfl,⟨.inl rfl,by simp,by simp,.inl ⟨rfl,rfl⟩⟩,by simp,by simp,.nil,by simp,Below.refl _ _⟩
 case round=>
  obtain⟨q,A',cap',L,hq,rfl,rfl,hP,hZ,hX,hSo,hL,hBr⟩:=hrel;have HSo:=LH hSo;clear hSo;have BR:=LH hBr;have HP:=LH hP;have HZ:=LH hZ;have HX:=LH hX;have HL:=LH hL;have sR:=hBr.size;clear hBr hP hZ hX hL;by_cases hlt:q<r.length
  ·obtain⟨b,off,rfl,hb,hc⟩:=HS.out.at_ hlt
   have c0:=(BR.out.cell (p:=⟨b,off+q*2,none⟩) hb).trans (by have:=hc 0 (.int .i64 r[q].1) rfl;simpa using this);have lb:b<wr.heap.size:=Nat.lt_of_lt_of_le hb sR;have i1: (q:Int) < (r.length:Int):=by omega
   have hx1:=(HI.out _ (List.getElem_mem hlt)).1.2
   have HXx:Hid (∀M:List Int,(∀z∈L,z∈M)→(1<r[q].1→r[q].1 / 2∈M)→∀x∈r.take (q+1),1<x.1→x.1 / 2∈M):=LH fun M h1 h2 x hx h=>by
    rw [List.take_succ_eq_append_getElem hlt] at hx;rcases List.mem_append.1 hx with hx|hx
    ·exact h1 _ (HX.out x hx h)
    ·obtain rfl:=List.mem_singleton.1 hx
     exact h2 h
   obtain⟨x,hxe⟩ : ∃x,x=r[q].1:=⟨_,rfl⟩;rw [←hxe] at c0 hx1 HXx;clear hc hxe;by_cases h1:1<x
   ·have td:Int.tdiv x 2=x / 2:=Int.tdiv_eq_ediv_of_nonneg (by omega)
    have hy:x / 2≤9223372036854775807:=by omega
    have hw:wrap64 (x / 2) =x / 2:=by unfold wrap64;omega
    have HW:=LH (fun W h=>ref11_With W A' cap' L (x / 2) h HP.out.c1 HP.out.c2 HP.out.o (by have:=HL.out;omega) HZ.out hy);obtain⟨y,hye⟩ : ∃y,y=x / 2:=⟨_,rfl⟩;rw [←hye] at td HW HXx hy hw;clear hye;go_wp2_with fail;refine(HW.out wr HP.out.s).mono ?_;rintro e w1 ⟨A2,cap2,M,rfl,k1,k2,k3,hSM,hM,hMs,hMl,hb1⟩;have HMs:=LH (hMs HSo.out);clear hMs
    have HE:Hid (SlP w1 A2 cap2 M∧(∀z∈M,z≤9223372036854775807)∧(∀x∈r.take (q+1),1<x.1→x.1 / 2∈M)∧M.length≤q+1∧Below w.heap.size w w1):=LH ⟨⟨hSM,k1,k2,k3⟩,fun z hz=>by
     rcases (hM z).1 hz with h|rfl
     ·exact HZ.out z h
     ·exact hy,HXx.out M (fun z hz=>(hM z).2 (.inl hz)) (fun _=>(hM y).2 (.inr rfl)),by have:=HL.out;omega,Below.then_ BR.out hb1⟩
    clear k1 k2 k3 hSM hM hMl hb1 HW HXx c0 lb td hw;go_wp2_with fail;go_roundw
    case rel=>exact⟨q+1,A2,cap2,M,by omega,by go_num,rfl,HE.out.1,HE.out.2.1,HE.out.2.2.1,HMs.out,HE.out.2.2.2.1,HE.out.2.2.2.2⟩
    case measure=>simp [intOf];omega
   ·have h1':decide (1<x) =false:=by simpa using h1
    have HE:=LH (HXx.out L (fun z hz=>hz) (fun h=>absurd h h1));clear h1 HXx;go_wp2_with fail;go_roundw
    case rel=>exact⟨q+1,A',cap',L,by omega,by go_num,rfl,HP.out,HZ.out,HE.out,HSo.out,by have:=HL.out;omega,BR.out⟩
    case measure=>simp [intOf];omega
  ·have hqe:q=r.length:=by omega
   have hqi:decide ((q:Int) < (r.length:Int)) =false:=by simp;omega
   have HX2:Hid (∀x∈r,1<x.1→x.1 / 2∈L):=LH (by have:=HX.out;rwa [hqe,List.take_length] at this);clear hqe;go_wp2_with fail;go_ret;exact⟨A',cap',L,rfl,HP.out,HZ.out,HX2.out,HSo.out,by have:=HL.out;omega,BR.out⟩
def First11 (l:Nat) (most:Int) (r:List Nd) (w:World) (e:Ending) (w':World) :Prop:=
 ∃(id:Int) (ok:Bool),e=.returned (.tuple #[.int .i64 id,.bool ok])∧(ok=true→FirstIs l most r id)∧(ok=false→∀p,readyR l r p most=false)∧Below w.heap.size w w'
theorem ref11_First (w:World) (l:Nat) (A:Option Addr) (cap:Nat) (r:List Nd) (hS:Sl w w.heap.size encN A r) (hI:ints r) (hlen:r.length≤999) (hr:Roll r) (hs:sumR r≤72057594037927935) (most:Int) :
 Calls Tryz.prog 177 #[.agg #[.int .i64 l,.slice A r.length cap],.int .i64 most] w (First11 l most r w):=by
 have HPa:=LH (fun W h=>ref11_Parents W A cap r h hI hlen);have HRd:=LH (fun W p h hp=>ref11_Ready W l A cap r h hI (by unfold maxLen;omega) hr hs p most hp);have HWt:Hid (∀L:List Int,(∀x∈r,1<x.1→x.1 / 2∈L)→Waits l most r L):=LH fun L h=>Waits.start (fun x hx h1=>h x hx (by omega)) hr;have BW0:Hid (Below w.heap.size w (w.alloc (.cells #[.int .i64 l,.slice A r.length cap] 33))):=LH bE;have X0:Hid ((w.alloc (.cells #[.int .i64 l,.slice A r.length cap] 33)).heap[w.heap.size]? =some (.cells #[.int .i64 l,.slice A r.length cap] 33 (0,0))):=LH (heap_alloc_new w _);have S0:=LH (hS.keep (B':=(w.alloc (.cells #[.int .i64 l,.slice A r.length cap] 33)).heap.size) BW0.out.size fun p hp=>BW0.out.cell hp);unfold First11;clear hS hI hr hs
 go_enter Tryz.func177,Tryz.ntmps177
 go_upto_region 1 with fail;generalize w.alloc (.cells #[.int .i64 l,.slice A r.length cap] 33) =W0 at X0 BW0 S0⊢;have x0:=bC X0.out;have xz:=lB X0.out;go_wp2_with fail;refine(HPa.out W0 S0.out).mono ?_;rintro e w1 ⟨A2,cap2,L,rfl,hP,hZ,hX,hSo,hL,hb1⟩;have HSo:=LH hSo;clear hSo;have P1:=LH hP;have HZ:=LH hZ;have HW:=LH (HWt.out L hX);have X1:=LH (bB X0.out hb1);have S1:=LH (S0.out.keep (B':=w1.heap.size) hb1.size fun p hp=>hb1.cell hp);have B1:=LH (Below.then_ BW0.out hb1);have hL2:L.length≤999:=by omega
 clear hP hZ hX hb1 x0 xz X0 S0 BW0 HPa HWt hL;go_wp2_with fail
 go_loopw [7] (fun i wr=>∃q:Nat,q≤L.length∧i=.int .i64 q∧(∀z∈L.take q,readyR l r z most=false)∧Below w1.heap.size w1 wr) (fun i _=>L.length - (intOf i).toNat)
 case atStart=>exact⟨0,Nat.zero_le _,rfl,by simp,Below.refl _ _⟩
 case round=>
  obtain⟨q,hq,rfl,hN,hBr⟩:=hrel;have BR:=LH hBr;have HN:=LH hN;have sR:=hBr.size;clear hBr hN;by_cases hlt:q<L.length
  ·obtain⟨b,off,rfl,hb,hc⟩:=P1.out.s.at_ hlt
   have c0:=(BR.out.cell (p:=⟨b,off+q,none⟩) hb).trans (by have:=hc 0 (.int .i64 L[q]) rfl;simpa using this);have lb:b<wr.heap.size:=Nat.lt_of_lt_of_le hb sR;have i1: (q:Int) < (L.length:Int):=by omega
   have hx1:=HZ.out _ (List.getElem_mem hlt)
   have HFi:Hid (readyR l r L[q] most=true→FirstIs l most r L[q]):=LH fun h=>⟨h,fun p hp=>by
    have hm:=HW.out p hp;have hs:=HSo.out;rw [←List.take_append_drop q L] at hm hs;obtain⟨_,a2,_⟩:=List.pairwise_append.1 hs;rw [List.drop_eq_getElem_cons hlt] at a2 hm;rcases List.mem_append.1 hm with hm|hm
    ·have:=HN.out p hm;rw [hp] at this;cases this
    ·rcases List.mem_cons.1 hm with rfl|hm
     ·exact leA_refl _
     ·exact(List.pairwise_cons.1 a2).1 p hm⟩
   have HNx:Hid (readyR l r L[q] most=false→∀z∈L.take (q+1),readyR l r z most=false):=LH fun h z hz=>by
    rw [List.take_succ_eq_append_getElem hlt] at hz;rcases List.mem_append.1 hz with hz|hz
    ·exact HN.out z hz
    ·rw [List.mem_singleton.1 hz];exact h
   obtain⟨x,hxe⟩ : ∃x,x=L[q]:=⟨_,rfl⟩;rw [←hxe] at c0 hx1 HNx HFi;clear hc hxe;have XR:=LH (bB X1.out BR.out);have x1:=bC XR.out;have xz1:=lB XR.out;have SR:=LH (S1.out.keep (B':=wr.heap.size) sR fun p hp=>BR.out.cell hp);have HRx:=LH (fun W h=>HRd.out W x h hx1);obtain⟨y,hy⟩ : ∃y,y=readyR l r x most:=⟨_,rfl⟩;rw [←hy] at HRx HNx;have HY:=LH hy;clear hx1 hy;go_upto_region 5 with fail;refine rX (by kernel_rfl) (by kernel_rfl) ?_
   repeat (go_big_quiet_step (first| (go_at_call 216;exact quiet_ext (HRx.out _ (SR.out.keep (ext_below _ _).size fun p hp=>(ext_below _ _).cell hp)))))
   refine wpQuiet_nil ?_;intro w2 hb2;replace hb2:=bX hb2;have c2:=(hb2.cell (p:=⟨b,off+q,none⟩) lb).trans c0;have l2:b<w2.heap.size:=Nat.lt_of_lt_of_le lb hb2.size;have B2:=LH (Below.then_ BR.out hb2);have B3:=LH (B1.out.trans (B2.out.mono B1.out.size));clear hb2 c0 lb x1 xz1 XR SR HRx
   cases y
   ·have HE:=LH (HNx.out rfl)
    clear HNx;go_wp2_with fail;go_roundw
    case rel=>exact⟨q+1,by omega,by go_num,HE.out,B2.out⟩
    case measure=>simp [intOf];omega
   ·go_wp2_with fail
    go_ret2
    exact⟨x,true,rfl,fun _=>HFi.out HY.out.symm,(fun h=>by cases h),B3.out⟩
  ·have hqe:q=L.length:=by omega
   have hqi:decide ((q:Int) < (L.length:Int)) =false:=by simp;omega
   have HE:Hid (∀p,readyR l r p most=false):=LH fun p=>by
    rw [←Bool.not_eq_true];intro hp;have h1:=HN.out p (by rw [hqe,List.take_length];exact HW.out p hp);rw [hp] at h1;cases h1
   have B3:=LH (B1.out.trans (BR.out.mono B1.out.size));clear hqe;go_wp2_with fail
   go_ret2
   exact⟨0,false,rfl,(fun h=>by cases h),fun _=>HE.out,B3.out⟩
theorem ints_del {r:List Nd} (h:ints r) (id:Int) :ints (delR r id):=fun x hx=>h x (delR_sub hx)
theorem mass_ready {l:Nat} {r:List Nd} {p most:Int} (h:readyR l r p most=true) : (massR l r p).1=pairR r p:=by
 have:=(ready_iff.1 h).1;unfold massR pairR;simp only [this,if_true]
structure ReadyF (l:Nat) (r:List Nd) (p:Int) :Prop where
 p1:1≤p
 p2:p<281474976710656
 node:isNode l p=true
 c1:1≤pairR r p
 s:sumR (delR (delR r (2*p)) (2*p+1)) +pairR r p=sumR r
theorem ReadyF.of {l:Nat} {r:List Nd} {p most:Int} (hl:l≤48) (hr:Roll r) (h:readyR l r p most=true) :ReadyF l r p:=by
 obtain⟨h1,h2,h3⟩:=ready_iff.1 h;obtain⟨n1,n2⟩:=kids_iff.1 h1;have hp:=(isNode_lt n1).1;have h48:=pow_48 hl;refine⟨hp,by omega,n1,by omega,?_⟩;rw [sumR_del (hr.del _),sumR_del hr,getR_del hr,if_neg (by omega)];unfold pairR;omega
theorem ref11_Do (w:World) (l:Nat) (A:Option Addr) (cap:Nat) (r:List Nd) (p most:Int) (hl:l≤48) (hS:Sl w w.heap.size encN A r) (hr:Roll r) (hI:ints r) (hs:sumR r≤72057594037927935) (hn:r.length≤99999) (hy:readyR l r p most=true) :
 Calls Tryz.prog 178 #[.agg #[.int .i64 l,.slice A r.length cap],.int .i64 p] w (StorePost l (foldR r p) (pairR r p) w):=by
 have hF:=ReadyF.of hl hr hy;have hp1:=hF.p1;have hp2:=hF.p2;have HM:=LH (fun W h=>ref11_Mass W l A cap r h hI (Nat.le_trans hn (by decide)) hr hs p (by omega));rw [mass_ready hy] at HM;have hl1:=(delR_len (r:=r) (2*p)).1;have hl2:=(delR_len (r:=delR r (2*p)) (2*p+1)).1;have HT1:=LH (fun W h=>ref07_Take W l A cap r (2*p) h hr hI (by omega));have HT2:=LH (fun W A cap h=>ref07_Take W l A cap (delR r (2*p)) (2*p+1) h (hr.del _) (ints_del hI _) (by omega));have HA:=LH (fun W A cap h=>ref07_Add W l A cap (delR (delR r (2*p)) (2*p+1)) p (pairR r p) h ((hr.del _).del _) (ints_del (ints_del hI _) _) (by omega) hF.node hp1 (by omega) hF.c1 (by have:=hF.s;omega));have hc1:=hF.c1;have SA:=LH hS;have hw2:wrap64 (2*p) =2*p:=by unfold wrap64;omega
 have hw3:wrap64 (2*p+1) =2*p+1:=by unfold wrap64;omega
 have hne: (pairR r p == 0) =false:=by simp;omega
 unfold StorePost;obtain⟨R,hR⟩ : ∃R,R=foldR r p:=⟨_,rfl⟩;have hR2:addR (delR (delR r (2*p)) (2*p+1)) p (pairR r p) =R:=hR.symm;rw [hR2] at HA;rw [←hR];generalize delR (delR r (2*p)) (2*p+1) =D2 at HT2 HA hl2;generalize delR r (2*p) =D1 at HT1 HT2 hl1 hl2;generalize getR D1 (2*p+1) =n2 at HT2;generalize getR r (2*p) =n1 at HT1;generalize pairR r p=m at HM HA hne hc1⊢;clear hS hr hI hs hy hF hR hR2 hl1 hl2 hc1;have X0:Hid (((w.alloc (.cells #[.int .i64 l,.slice A r.length cap] 33)).alloc (.cells #[.int .i64 0,.slice none 0 0] 33)).heap[w.heap.size]? =some (.cells #[.int .i64 l,.slice A r.length cap] 33 (0,0))):=LH ((heap_new_lt _ _ _ (by simp)).trans (heap_alloc_new w _));have Y0:Hid (((w.alloc (.cells #[.int .i64 l,.slice A r.length cap] 33)).alloc (.cells #[.int .i64 0,.slice none 0 0] 33)).heap[w.heap.size+1]? =some (.cells #[.int .i64 0,.slice none 0 0] 33 (0,0))):=LH (heap_new_at (w.alloc _) _ _ (by simp));have B0:Hid (Below w.heap.size w ((w.alloc (.cells #[.int .i64 l,.slice A r.length cap] 33)).alloc (.cells #[.int .i64 0,.slice none 0 0] 33))):=LH bE;have Z0:Hid (w.heap.size+2≤((w.alloc (.cells #[.int .i64 l,.slice A r.length cap] 33)).alloc (.cells #[.int .i64 0,.slice none 0 0] 33)).heap.size):=LH (by simp)
 go_enter Tryz.func178,Tryz.ntmps178
 go_upto_region 1 with fail;generalize ((w.alloc (.cells #[.int .i64 l,.slice A r.length cap] 33)).alloc (.cells #[.int .i64 0,.slice none 0 0] 33)) =W0 at X0 Y0 B0 Z0⊢;have c0:=bC X0.out;have z0:=lB X0.out;go_wp2_with fail;refine(HM.out W0 (SA.out.keep (B':=W0.heap.size) B0.out.size fun p hp=>B0.out.cell hp)).mono ?_;rintro e w1 ⟨rfl,hb⟩;have X1:=LH (bB X0.out hb);have Y1:=LH (bB Y0.out hb);have B1:=LH (Below.then_ B0.out hb);have Z1:Hid (w.heap.size+2≤w1.heap.size):=LH (Nat.le_trans Z0.out hb.size);have S1:=LH (SA.out.keep (B':=w1.heap.size) B1.out.size fun p hp=>B1.out.cell hp);clear hb c0 z0 X0 Y0 B0 Z0 SA HM;have c1:=bC X1.out;have f1:=bF X1.out;have z1:=lB X1.out;go_wp2_with fail;refine(HT1.out w1 S1.out).mono ?_;rintro e w2 ⟨A2,cp2,rfl,ho,hb⟩;have X2:Hid (((w2.setCell ⟨w.heap.size,0,none⟩ (.int .i64 l)).setCell ⟨w.heap.size,1,none⟩ (.slice A2 D1.length cp2)).heap[w.heap.size]? =some (.cells #[.int .i64 l,.slice A2 D1.length cp2] 33 (0,0))):=LH (zH (i:=1) (zH (i:=0) (bB X1.out hb) (.int .i64 l)) _);have Y2:Hid (((w2.setCell ⟨w.heap.size,0,none⟩ (.int .i64 l)).setCell ⟨w.heap.size,1,none⟩ (.slice A2 D1.length cp2)).heap[w.heap.size+1]? =some (.cells #[.int .i64 0,.slice none 0 0] 33 (0,0))):=LH ((Below.heap_setCell _ _ _ _ (by simp)).trans ((Below.heap_setCell _ _ _ _ (by simp)).trans (bB Y1.out hb)));have O2:Hid (Own ((w2.setCell ⟨w.heap.size,0,none⟩ (.int .i64 l)).setCell ⟨w.heap.size,1,none⟩ (.slice A2 D1.length cp2)) w1.heap.size 154 encN (.slice A2 D1.length cp2) D1):=LH ((ho.setCellB (p:=⟨w.heap.size,0,none⟩) (by have:=Z1.out;simp only;omega)).setCellB (p:=⟨w.heap.size,1,none⟩) (by have:=Z1.out;simp only;omega));have B2:Hid (Below w.heap.size w ((w2.setCell ⟨w.heap.size,0,none⟩ (.int .i64 l)).setCell ⟨w.heap.size,1,none⟩ (.slice A2 D1.length cp2))):=LH (Below.setCell (p:=⟨w.heap.size,1,none⟩) (Below.setCell (p:=⟨w.heap.size,0,none⟩) (Below.then_ B1.out hb) (by simp) _) (by simp) _);have Z2:Hid (w.heap.size+2≤((w2.setCell ⟨w.heap.size,0,none⟩ (.int .i64 l)).setCell ⟨w.heap.size,1,none⟩ (.slice A2 D1.length cp2)).heap.size):=LH (by have:=Z1.out;have:=hb.size;simp only [World.size_setCell];omega);have cc:=bC (bB X1.out hb);have cf:=bF (bB X1.out hb);have cz:=lB (bB X1.out hb);clear hb c1 f1 z1;go_upto_region 5 with fail;generalize ((w2.setCell ⟨w.heap.size,0,none⟩ (.int .i64 l)).setCell ⟨w.heap.size,1,none⟩ (.slice A2 D1.length cp2)) =w2b at X2 Y2 O2 B2 Z2⊢;clear ho cc cf cz X1 Y1 B1 Z1 S1 HT1;have c2:=bC X2.out;have f2:=bF X2.out;have z2:=lB X2.out;go_wp2_with fail;refine(HT2.out w2b A2 cp2 O2.out.sl).mono ?_;rintro e w3 ⟨A3,cp3,rfl,ho,hb⟩;have X3:Hid (((w3.setCell ⟨w.heap.size,0,none⟩ (.int .i64 l)).setCell ⟨w.heap.size,1,none⟩ (.slice A3 D2.length cp3)).heap[w.heap.size]? =some (.cells #[.int .i64 l,.slice A3 D2.length cp3] 33 (0,0))):=LH (zH (i:=1) (zH (i:=0) (bB X2.out hb) (.int .i64 l)) _);have Y3:Hid (((w3.setCell ⟨w.heap.size,0,none⟩ (.int .i64 l)).setCell ⟨w.heap.size,1,none⟩ (.slice A3 D2.length cp3)).heap[w.heap.size+1]? =some (.cells #[.int .i64 0,.slice none 0 0] 33 (0,0))):=LH ((Below.heap_setCell _ _ _ _ (by simp)).trans ((Below.heap_setCell _ _ _ _ (by simp)).trans (bB Y2.out hb)));have O3:Hid (Own ((w3.setCell ⟨w.heap.size,0,none⟩ (.int .i64 l)).setCell ⟨w.heap.size,1,none⟩ (.slice A3 D2.length cp3)) w2b.heap.size 154 encN (.slice A3 D2.length cp3) D2):=LH ((ho.setCellB (p:=⟨w.heap.size,0,none⟩) (by have:=Z2.out;simp only;omega)).setCellB (p:=⟨w.heap.size,1,none⟩) (by have:=Z2.out;simp only;omega));have B3:Hid (Below w.heap.size w ((w3.setCell ⟨w.heap.size,0,none⟩ (.int .i64 l)).setCell ⟨w.heap.size,1,none⟩ (.slice A3 D2.length cp3))):=LH (Below.setCell (p:=⟨w.heap.size,1,none⟩) (Below.setCell (p:=⟨w.heap.size,0,none⟩) (Below.then_ B2.out hb) (by simp) _) (by simp) _);have Z3:Hid (w.heap.size+2≤((w3.setCell ⟨w.heap.size,0,none⟩ (.int .i64 l)).setCell ⟨w.heap.size,1,none⟩ (.slice A3 D2.length cp3)).heap.size):=LH (by have:=Z2.out;have:=hb.size;simp only [World.size_setCell];omega);have cc:=bC (bB X2.out hb);have cf:=bF (bB X2.out hb);have cz:=lB (bB X2.out hb);clear hb c2 f2 z2;go_upto_region 6 with fail;generalize ((w3.setCell ⟨w.heap.size,0,none⟩ (.int .i64 l)).setCell ⟨w.heap.size,1,none⟩ (.slice A3 D2.length cp3)) =w3b at X3 Y3 O3 B3 Z3⊢;clear ho cc cf cz X2 Y2 B2 Z2 O2 HT2;have c3:=bC X3.out;have f3:=bF X3.out;have z3:=lB X3.out;go_wp2_with fail;refine(HA.out w3b A3 cp3 O3.out.sl).mono ?_;rintro e w4 ⟨A4,cp4,rfl,ho,hb⟩;have X4:Hid (((w4.setCell ⟨w.heap.size,0,none⟩ (.int .i64 l)).setCell ⟨w.heap.size,1,none⟩ (.slice A4 R.length cp4)).heap[w.heap.size]? =some (.cells #[.int .i64 l,.slice A4 R.length cp4] 33 (0,0))):=LH (zH (i:=1) (zH (i:=0) (bB X3.out hb) (.int .i64 l)) _);have Y4:Hid (((w4.setCell ⟨w.heap.size,0,none⟩ (.int .i64 l)).setCell ⟨w.heap.size,1,none⟩ (.slice A4 R.length cp4)).heap[w.heap.size+1]? =some (.cells #[.int .i64 0,.slice none 0 0] 33 (0,0))):=LH ((Below.heap_setCell _ _ _ _ (by simp)).trans ((Below.heap_setCell _ _ _ _ (by simp)).trans (bB Y3.out hb)));have O4:Hid (Own ((w4.setCell ⟨w.heap.size,0,none⟩ (.int .i64 l)).setCell ⟨w.heap.size,1,none⟩ (.slice A4 R.length cp4)) w3b.heap.size 154 encN (.slice A4 R.length cp4) R):=LH ((ho.setCellB (p:=⟨w.heap.size,0,none⟩) (by have:=Z3.out;simp only;omega)).setCellB (p:=⟨w.heap.size,1,none⟩) (by have:=Z3.out;simp only;omega));have B4:Hid (Below w.heap.size w ((w4.setCell ⟨w.heap.size,0,none⟩ (.int .i64 l)).setCell ⟨w.heap.size,1,none⟩ (.slice A4 R.length cp4))):=LH (Below.setCell (p:=⟨w.heap.size,1,none⟩) (Below.setCell (p:=⟨w.heap.size,0,none⟩) (Below.then_ B3.out hb) (by simp) _) (by simp) _);have Z4:Hid (w.heap.size+2≤((w4.setCell ⟨w.heap.size,0,none⟩ (.int .i64 l)).setCell ⟨w.heap.size,1,none⟩ (.slice A4 R.length cp4)).heap.size):=LH (by have:=Z3.out;have:=hb.size;simp only [World.size_setCell];omega)
 have cc:=bC (bB X3.out hb);have cf:=bF (bB X3.out hb);have cz:=lB (bB X3.out hb);clear hb c3 f3 z3;go_upto_region 7 with fail;generalize ((w4.setCell ⟨w.heap.size,0,none⟩ (.int .i64 l)).setCell ⟨w.heap.size,1,none⟩ (.slice A4 R.length cp4)) =w4b at X4 Y4 O4 B4 Z4⊢;clear ho cc cf cz X3 Y3 B3 O3 HA;have c4:=bC X4.out;have f4:=bF X4.out;have z4:=lB X4.out;have cy:=bC Y4.out;have fy:=bF Y4.out;have zy:=lB Y4.out;go_wp2_with fail;have Y5:Hid (((w4b.setCell ⟨w.heap.size+1,0,none⟩ (.int .i64 l)).setCell ⟨w.heap.size+1,1,none⟩ (.slice A4 R.length cp4)).heap[w.heap.size+1]? =some (.cells #[.int .i64 l,.slice A4 R.length cp4] 33 (0,0))):=LH (zH (i:=1) (zH (i:=0) Y4.out (.int .i64 l)) _);have O5:Hid (Own ((w4b.setCell ⟨w.heap.size+1,0,none⟩ (.int .i64 l)).setCell ⟨w.heap.size+1,1,none⟩ (.slice A4 R.length cp4)) w3b.heap.size 154 encN (.slice A4 R.length cp4) R):=LH ((O4.out.setCellB (p:=⟨w.heap.size+1,0,none⟩) (by have:=Z3.out;simp only;omega)).setCellB (p:=⟨w.heap.size+1,1,none⟩) (by have:=Z3.out;simp only;omega));have B5:Hid (Below w.heap.size w ((w4b.setCell ⟨w.heap.size+1,0,none⟩ (.int .i64 l)).setCell ⟨w.heap.size+1,1,none⟩ (.slice A4 R.length cp4))):=LH (Below.setCell (p:=⟨w.heap.size+1,1,none⟩) (Below.setCell (p:=⟨w.heap.size+1,0,none⟩) B4.out (by simp) _) (by simp) _);clear c4 f4 z4 cy fy zy;generalize ((w4b.setCell ⟨w.heap.size+1,0,none⟩ (.int .i64 l)).setCell ⟨w.heap.size+1,1,none⟩ (.slice A4 R.length cp4)) =w5 at Y5 O5 B5⊢;have c5:=bC Y5.out;have f5:=bF Y5.out;have z5:=lB Y5.out;exact bR (v:=.tuple #[.agg #[.int .i64 l,.slice A4 R.length cp4],.int .i64 m]) (by simp only [results,Tryz.results178];go_simp) rfl ⟨A4,cp4,rfl,O5.out.base_le (by have:=Z3.out;omega),B5.out⟩
end Go.Proofs.YtandlhihcnadmaaGreat
