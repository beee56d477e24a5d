/-
  Texts of this proof, one behind the other: RoomLaw, JoinLaw, HearLaw, Ref27L, Ref29D, Ref22F, VaryGet, CrewOf, LetDec, LetDecD, LetDecW, Reader, ReaderI, ReadP, Ref24C, ConcatN, FoldN, Ref11, Ref16S.
-/
import Derived.Lib.AppendZeros
import Derived.Deep.DeepCutAuto
import Derived.Test.YtmdidmclfbfmiaaGreatDoorS1
import Derived.Test.YtmdidmclfbfmiaaGreatDoorS2
import Derived.Test.YtmdidmclfbfmiaaGreatDoorS3
import Derived.Test.YtmdidmclfbfmiaaGreatDoorS4
import Derived.Test.YtmdidmclfbfmiaaGreatDoorS5
set_option linter.unusedVariables false
set_option linter.unusedSimpArgs false
set_option maxRecDepth 100000
set_option maxHeartbeats 16000000
namespace Go.Proofs.YtmdidmclfbfmiaaGreatDoor
open Go.ChangeShapes Go.WideShapes Go.ChangeAt Go.RowKit
def sumP (P:List Int) (g:Int→Int) :Int:=(P.map g).sum
theorem sumP_add (P:List Int) (g h:Int→Int) :sumP P (fun p=>g p+h p) =sumP P g+sumP P h:=by
 unfold sumP
 induction P with
 |nil=>rfl
 |cons p P ih=>simp only [List.map_cons,List.sum_cons,ih];omega
theorem sumP_zero (P:List Int) (a c:Int) (h:a∉P) :sumP P (fun p=>if a=p then c else 0) =0:=by
 unfold sumP
 induction P with
 |nil=>rfl
 |cons p P ih=>
  simp only [List.map_cons,List.sum_cons];rw [ih fun hm=>h (List.mem_cons_of_mem _ hm),if_neg (by rintro rfl;exact h (by simp))]
  rfl
theorem sumP_one (P:List Int) (hP:P.Nodup) (a c:Int) (h:a∈P) :sumP P (fun p=>if a=p then c else 0) =c:=by
 induction P with
 |nil=>simp at h
 |cons p P ih=>
  obtain⟨h1,h2⟩:=List.nodup_cons.1 hP;have e:sumP (p :: P) (fun p=>if a=p then c else 0) = (if a=p then c else 0) +sumP P (fun p=>if a=p then c else 0):=by simp [sumP]
  rw [e];by_cases hap:a=p
  ·subst hap
   rw [if_pos rfl,sumP_zero P a c h1];omega
  ·rw [if_neg hap,ih h2 (by simpa [hap] using h)];omega
theorem sumP_le {P:List Int} {g h:Int→Int} (hg: ∀p∈P,g p≤h p) :sumP P g≤sumP P h:=by
 unfold sumP
 induction P with
 |nil=>simp
 |cons p P ih=>
  simp only [List.map_cons,List.sum_cons];have:=hg p (by simp);have:=ih fun q hq=>hg q (by simp [hq]);omega
theorem sumP_const (P:List Int) (c:Int) :sumP P (fun _=>c) =P.length*c:=by
 unfold sumP
 induction P with
 |nil=>simp
 |cons p P ih=>simp only [List.map_cons,List.sum_cons,ih,List.length_cons];push_cast;rw [Int.add_mul];omega
theorem pairR_cons {x:Nd} {r:List Nd} (h:Roll (x :: r)) (p:Int) :pairR (x :: r) p= (if x.1 / 2=p then x.2 else 0) +pairR r p:=by
 have hn:getR r x.1=0:=getR_none fun y hy=>by have:=h.head y hy;omega
 unfold pairR;simp only [getR];by_cases h1:x.1=2*p
 ·rw [if_pos h1,if_neg (by omega),if_pos (by omega)]
  rw [h1] at hn;omega
 ·rw [if_neg h1]
  by_cases h2:x.1=2*p+1
  ·rw [if_pos h2,if_pos (by omega)]
   rw [h2] at hn;omega
  ·rw [if_neg h2,if_neg (by omega)];omega
theorem getR_cons {x:Nd} {r:List Nd} (h:Roll (x :: r)) (p:Int) :getR (x :: r) p= (if x.1=p then x.2 else 0) +getR r p:=by
 have hn:getR r x.1=0:=getR_none fun y hy=>by have:=h.head y hy;omega
 simp only [getR];by_cases h1:x.1=p
 ·rw [if_pos h1,if_pos h1];rw [h1] at hn;omega
 ·rw [if_neg h1,if_neg h1];omega
theorem sum_pairs_le {P:List Int} (hP:P.Nodup) : ∀{r:List Nd},Roll r→sumP P (pairR r)≤sumR r:=by
 intro r
 induction r with
 |nil=>intro _;have:pairR [] =fun _=>0:=by funext p;rfl
       rw [this,sumP_const];simp [sumR]
 |cons x r ih=>
  intro h;have e:pairR (x :: r) =fun p=>(if x.1 / 2=p then x.2 else 0) +pairR r p:=by funext p;exact pairR_cons h p
  rw [e,sumP_add];have h1:=ih h.tail;have h2:=(h.2 x (by simp)).2;simp only [sumR];by_cases hm:x.1 / 2∈P
  ·rw [sumP_one P hP _ _ hm];omega
  ·rw [sumP_zero P _ _ hm];omega
theorem sum_own_le {P:List Int} (hP:P.Nodup) : ∀{r:List Nd},Roll r→sumP P (getR r)≤sumR r:=by
 intro r
 induction r with
 |nil=>intro _;have:getR [] =fun _=>0:=by funext p;rfl
       rw [this,sumP_const];simp [sumR]
 |cons x r ih=>
  intro h;have e:getR (x :: r) =fun p=>(if x.1=p then x.2 else 0) +getR r p:=by funext p;exact getR_cons h p
  rw [e,sumP_add];have h1:=ih h.tail;have h2:=(h.2 x (by simp)).2;simp only [sumR];by_cases hm:x.1∈P
  ·rw [sumP_one P hP _ _ hm];omega
  ·rw [sumP_zero P _ _ hm];omega
theorem sum_pairs_ge {P:List Int} (hP:P.Nodup) : ∀{r:List Nd},Roll r→(∀x∈r,x.1≠1→x.1 / 2∈P)→sumR r≤sumP P (pairR r) +getR r 1:=by
 intro r
 induction r with
 |nil=>intro _ _;have:pairR [] =fun _=>0:=by funext p;rfl
       rw [this,sumP_const];simp [sumR,getR]
 |cons x r ih=>
  intro h hc;have e:pairR (x :: r) =fun p=>(if x.1 / 2=p then x.2 else 0) +pairR r p:=by funext p;exact pairR_cons h p
  rw [e,sumP_add,getR_cons h];have h1:=ih h.tail fun y hy=>hc y (by simp [hy]);have h2:=(h.2 x (by simp)).2;simp only [sumR];by_cases h1':x.1=1
  ·rw [if_pos h1']
   have:0≤sumP P (fun p=>if x.1 / 2=p then x.2 else 0):=by
    by_cases hm:x.1 / 2∈P
    ·rw [sumP_one P hP _ _ hm];omega
    ·rw [sumP_zero P _ _ hm];omega
   omega
  ·rw [if_neg h1',sumP_one P hP _ _ (hc x (by simp) h1')];omega
def onesR (r:List Nd) :List Nd:=r.map fun x=>(x.1,1)
theorem ones_roll {r:List Nd} (h:Roll r) :Roll (onesR r):=by
 refine⟨?_,fun x hx=> ?_⟩
 ·unfold onesR;rw [List.pairwise_map];exact h.1
 ·obtain⟨y,hy,rfl⟩:=List.mem_map.1 hx
  have:=h.2 y hy;exact⟨this.1,Int.le_refl _⟩
theorem ones_sum (r:List Nd) :sumR (onesR r) =r.length:=by
 induction r with
 |nil=>rfl
 |cons x r ih=>simp only [onesR,List.map_cons,sumR,List.length_cons] at ih⊢;rw [ih];push_cast;omega
theorem ones_get (r:List Nd) (id:Int) :getR (onesR r) id≤1:=by
 induction r with
 |nil=>simp [onesR,getR]
 |cons x r ih=>
  simp only [onesR,List.map_cons,getR] at ih⊢
  split
  ·omega
  ·exact ih
theorem tight_len {l:Nat} {r:List Nd} (hf:Fits l r) (hl:1≤l∧l≤48) {k:Int} (hk:1≤k) (ht: ∀p,readyR l r p (sumR r / k) =false) : (r.length:Int)≤4*k - 1:=by
 have hP:=(putAll_wait (halves r)).once;have hPm:=putAll_mem (halves r);generalize putAll (halves r) =P at hP hPm
 have hcov: ∀x∈r,x.1≠1→x.1 / 2∈P:=fun x hx h1=>by
  have:=(hf.roll.2 x hx).1;exact(hPm _).2 ⟨by omega,List.mem_map.2 ⟨x,hx,rfl⟩⟩
 have hbig: ∀p∈P,sumR r / k+1≤pairR r p+getR r p:=fun p hp=>by
  obtain⟨h1,h2⟩:=(hPm p).1 hp;obtain⟨x,hx,rfl⟩:=List.mem_map.1 h2;have h3:=hf.lt x hx;have h4:=(hf.roll.2 x hx).2;have h5:=getR_mem hf.roll hx;have h6:=hf.nodes hl x hx
  have hpos:0<pairR r (x.1 / 2):=by
   have g1:=getR_nonneg hf.roll (2* (x.1 / 2));have g2:=getR_nonneg hf.roll (2* (x.1 / 2) +1);unfold pairR;rcases (by omega:x.1=2* (x.1 / 2)∨x.1=2* (x.1 / 2) +1) with e|e
   ·have e':=congrArg (getR r) e
    omega
   ·have e':=congrArg (getR r) e
    omega
  have hk1: (kidsOf l (x.1 / 2)).2.2=true:=by
   rw [kids_iff];refine⟨?_,by omega⟩;have hp:=pow_pos' l;simp only [isNode,decide_eq_true_eq,Int.toNat_natCast] at h6⊢;omega
  have hnot:=ht (x.1 / 2);rw [←Bool.not_eq_true,ready_iff] at hnot
  apply Classical.byContradiction
  intro hc;exact hnot ⟨hk1,hpos,by omega⟩
 have a1:=sum_pairs_le hP hf.roll;have a2:=sum_own_le hP hf.roll;have a3:=sumP_le hbig;rw [sumP_const P (sumR r / k+1),sumP_add P (pairR r) (getR r)] at a3
 have a4:=sum_pairs_ge hP (ones_roll hf.roll) (fun x hx h1=>by
  obtain⟨y,hy,rfl⟩:=List.mem_map.1 hx;exact hcov y hy h1)
 rw [ones_sum] at a4
 have a5:sumP P (pairR (onesR r))≤sumP P (fun _=>2):=sumP_le fun p _=>by
  have:=ones_get r (2*p);have:=ones_get r (2*p+1);unfold pairR;omega
 rw [sumP_const] at a5;have a6:=ones_get r 1;have hN:=sumR_nonneg hf.roll
 have hm:sumR r<k* (sumR r / k+1):=by
  have:=Int.lt_ediv_add_one_mul_self (sumR r) (show 0<k by omega);rw [Int.mul_comm];exact this
 have hm0:0≤sumR r / k:=Int.ediv_nonneg hN (by omega)
 have hP2: (P.length:Int) <2*k:=by
  apply Classical.byContradiction
  intro hc;have:2*k* (sumR r / k+1)≤P.length* (sumR r / k+1):=Int.mul_le_mul_of_nonneg_right (by omega) (by omega);rw [Int.mul_assoc] at this;omega
 omega
theorem total_ok {n:Int} {r:List Nd} (h1: ∀x∈r,1≤x.2) (hn:0≤n) (hs:n+sumR r≤72057594037927935) :totalFrom n r= (n+sumR r,true):=by
 induction r generalizing n with
 |nil=>simp [totalFrom,sumR]
 |cons x r ih=>
  have h2:=h1 x (by simp);have h3:=(sumR_pos fun y hy=>h1 y (List.mem_cons_of_mem _ hy)).1;simp only [sumR] at hs⊢;have e:addOf n x.2= (n+x.2,true):=by unfold addOf;rw [if_pos (by omega)]
  simp only [totalFrom,e];rw [if_pos ⟨trivial,by unfold most;omega⟩,ih (fun y hy=>h1 y (List.mem_cons_of_mem _ hy)) (by omega) (by omega)]
  congr 1;omega
theorem rises_ok {l last:Int} {r:List Nd} (h: ∀x∈r,last<x.1∧isNode l x.1=true∧1≤x.2) (hp:r.Pairwise fun a b=>a.1<b.1) :risesFrom l last r=true:=by
 induction r generalizing last with
 |nil=>rfl
 |cons x r ih=>
  obtain⟨h1,h2,h3⟩:=h x (by simp);obtain⟨p1,p2⟩:=List.pairwise_cons.1 hp;simp only [risesFrom,Bool.and_eq_true,decide_eq_true_eq];exact⟨⟨⟨h1,h2⟩,h3⟩,ih (fun y hy=>⟨p1 y hy,(h y (List.mem_cons_of_mem _ hy)).2⟩) p2⟩
theorem fits_right {l:Nat} {r:List Nd} (hf:Fits l r) (hl:1≤l∧l≤48) :rightOf l r=true:=by
 have hp:=pow_pos' l;unfold rightOf totalOf;rw [total_ok (fun x hx=>(hf.roll.2 x hx).2) (Int.le_refl _) (by have:=hf.sum;omega),rises_ok (fun x hx=>⟨by have:=(hf.roll.2 x hx).1;omega,hf.nodes hl x hx,(hf.roll.2 x hx).2⟩) hf.roll.1];simp only [Bool.true_and,isNode,decide_eq_true_eq,Int.toNat_natCast];omega
def joinR (a b:List Nd) :List Nd:=addAll [] (msort (a ++ b))
theorem joinR_sum {a b:List Nd} (ha:Roll a) (hb:Roll b) :SumOf a b (joinR a b):=fold_sum ha hb
theorem addAll_len: ∀(L r:List Nd),(addAll r L).length≤r.length+L.length:=by
 intro L
 induction L with
 |nil=>intro r;simp [addAll]
 |cons x L ih=>
  intro r;have h1:=ih (addR r x.1 x.2);have h2:=addR_len r x.1 x.2;simp only [addAll,List.foldl_cons,List.length_cons] at h1⊢;omega
theorem joinR_len (a b:List Nd) : (joinR a b).length≤a.length+b.length:=by
 have h:=addAll_len (msort (a ++ b)) [];rw [msort_len,List.length_append,List.length_nil] at h;unfold joinR;omega
theorem fits_ints {l:Nat} {r:List Nd} (hf:Fits l r) (hl:l≤48) :ints r:=by
 intro x hx;have h1:=hf.roll.2 x hx;have h2:=hf.lt x hx;have h3:=getR_le_sum hf.roll x.1;rw [getR_mem hf.roll hx] at h3;have h4:=hf.sum;have h5: (2:Int) ^l≤2^48:=by exact_mod_cast Nat.pow_le_pow_right (by decide) hl
 have h6: (2:Int) ^48=281474976710656:=by decide
 unfold i64;omega
theorem light_weaker {l:Nat} {k k2:Int} {r:List Nd} (hf:Roll r) (h:lightOf l r k=true) (h1:1≤k2) (h2:k2≤k) :lightOf l r k2=true:=light_of fun x hx hk=>by
 have a:=light_all h x hx hk;have s0:=sumR_nonneg hf
 have:sumR r / k≤sumR r / k2:=by
  have e1:=Int.mul_ediv_add_emod (sumR r) k;have e2:=Int.emod_nonneg (sumR r) (show k≠0 by omega);have q0:0≤sumR r / k:=Int.ediv_nonneg s0 (by omega);refine Int.le_ediv_of_mul_le (by omega) ?_;have:sumR r / k*k2≤sumR r / k*k:=Int.mul_le_mul_of_nonneg_left h2 q0;have e3:k* (sumR r / k) =sumR r / k*k:=Int.mul_comm _ _;omega
 omega
structure Joined (l:Nat) (k2:Int) (ra rb rc:List Nd) :Prop where
 fits:Fits l rc
 light:lightOf l rc k2=true
 room: (rc.length:Int)≤8*k2
 len:rc.length≤ra.length+rb.length
 sum:sumR rc=sumR ra+sumR rb
 by_: ∃pa sa pb sb,RunTo l (sumR ra / k2) ra pa sa∧RunTo l (sumR rb / k2) rb pb sb∧rc=joinR sa sb
theorem joined_of {l:Nat} {k2:Int} {ra rb sa sb:List Nd} {pa pb:List Int} (hl:1≤l∧l≤48) (hk:1≤k2) (fa:Fits l ra) (fb:Fits l rb) (la:lightOf l ra k2=true) (lb:lightOf l rb k2=true) (hs:sumR ra+sumR rb≤72057594037927935)
 (ha:RunTo l (sumR ra / k2) ra pa sa) (hb:RunTo l (sumR rb / k2) rb pb sb) :Joined l k2 ra rb (joinR sa sb):=by
 have fsa:=ha.folded.fits fa;have fsb:=hb.folded.fits fb;have lsa:=ha.folded.light fa la;have lsb:=hb.folded.light fb lb;have esa:=ha.folded.sum fa;have esb:=hb.folded.sum fb;have hS:=joinR_sum fsa.roll fsb.roll;have ta:=tight_len fsa hl hk (fun p=>by rw [esa];exact ha.tight p);have tb:=tight_len fsb hl hk (fun p=>by rw [esb];exact hb.tight p);have hlen:=joinR_len sa sb;have na:=ha.folded.len fa;have nb:=hb.folded.len fb;have hsum:sumR (joinR sa sb) =sumR ra+sumR rb:=by rw [hS.sum,esa,esb]
 refine⟨⟨hS.roll,fun x hx=> ?_,by rw [hsum];exact hs⟩,light_of fun x hx hi=> ?_,by omega,by omega,hsum,pa,sa,pb,sb,ha,hb,rfl⟩
 ·rcases hS.cases fsa.roll fsb.roll hx with ⟨y,hy,e⟩ | ⟨y,hy,e⟩
  ·rw [←e];exact fsa.lt y hy
  ·rw [←e];exact fsb.lt y hy
 ·have h1:=getR_mem hS.roll hx
  have h2:=get_light fsa.roll hk lsa hi;have h3:=get_light fsb.roll hk lsb hi;have h4:=div_add_le (a:=sumR sa) (b:=sumR sb) hk;rw [hS.get] at h1;rw [hS.sum];omega
theorem Joined.load {l K:Nat} {k2:Int} {ra rb rc:List Nd} (h:Joined l k2 ra rb rc) (hl:1≤l∧l≤48) (hd:isDig l k2 K=true) :loadErr l k2 K rc=0:=by
 unfold loadErr;rw [if_neg (by simp [hd]),if_neg (by simp [fits_right h.fits hl]),if_neg (by have:=h.room;omega),if_neg (by simp [h.light])]
theorem Joined.held {l:Nat} {ka kb k2:Int} {ra rb rc ma mb:List Nd} (h:Joined l k2 ra rb rc) (ha:Held l ka ra ma) (hb:Held l kb rb mb) (hk:1≤k2) (h1:k2≤ka) (h2:k2≤kb) (hs:sumR ra+sumR rb≤72057594037927935) :Held l k2 rc (pourL ma mb):=by
 obtain⟨pa,sa,pb,sb,r1,r2,rfl⟩:=h.by_;have a2:=(ha.weaker hk h1).run r1;have b2:=(hb.weaker hk h2).run r2;exact a2.merge b2 hk (joinR_sum a2.fits.roll b2.fits.roll) (by rw [a2.sum,b2.sum,←ha.sum,←hb.sum];exact hs)
theorem fallF_rise (s:List UInt8) : ∀(m last a:Nat) (out:List Int),out.Pairwise (· < ·)→(∀x∈out,x≤(last:Int))→(fallF s m last a out).1.Pairwise (· < ·):=by
 intro m
 induction m with
 |zero=>intro last a out h _;simpa only [fallF] using h
 |succ m ih=>
  intro last a out h hl;simp only [fallF]
  split
  ·exact .nil
  ·split
   ·exact .nil
   ·rename_i h1 h2
    refine ih _ _ _ (List.pairwise_append.2 ⟨h,by simp,?_⟩) ?_
    ·intro x hx y hy
     simp only [List.mem_singleton] at hy;have:=hl x hx;omega
    ·intro x hx
     rcases List.mem_append.1 hx with hx|hx
     ·have:=hl x hx;omega
     ·simp only [List.mem_singleton] at hx;omega
theorem fallB_rise (s:List UInt8) (most:Int) : (fallB s most).1.Pairwise (· < ·):=by
 unfold fallB;simp only
 split
 ·exact .nil
 ·split
  ·exact .nil
  ·exact fallF_rise s _ _ _ _ .nil (by simp)
theorem cntF_ok: ∀(ids:List Int) (s:List UInt8) (left:Int) (out:List Nd),0≤left→(cntF ids s left out).2.2.2=0→
 ∃cs:List Nd,(cntF ids s left out).1=out ++ cs∧cs.map (·.1) =ids∧(∀x∈cs,1≤x.2)∧sumR cs+ (cntF ids s left out).2.2.1=left∧0≤(cntF ids s left out).2.2.1:=by
 intro ids
 induction ids with
 |nil=>intro s left out h0 _;exact⟨[],by simp [cntF],rfl,by simp,by simp [cntF,sumR],by simpa [cntF] using h0⟩
 |cons id ids ih=>
  intro s left out h0 h;simp only [cntF] at h⊢
  split at h
  ·rename_i h1;exact absurd h h1
  ·split at h
   ·exact absurd h (by decide)
   ·rename_i h1 h2
    rw [if_neg h1,if_neg h2];obtain⟨cs,e1,e2,e3,e4,e5⟩:=ih _ _ _ (by omega) h;refine⟨(id,((getB s).1:Int)) :: cs,?_,?_,?_,?_,e5⟩
    ·rw [e1,List.append_assoc];rfl
    ·simp [e2]
    ·intro x hx
     rcases List.mem_cons.1 hx with rfl|hx
     ·show (1:Int)≤((getB s).1:Int)
      omega
     ·exact e3 x hx
    ·simp only [sumR]
     omega
theorem roll_of_ids {r:List Nd} {ids:List Int} (h:r.map (·.1) =ids) (hp:ids.Pairwise (· < ·)) (h1: ∀x∈ids,1≤x) (h2: ∀x∈r,1≤x.2) :Roll r:=by
 subst h;exact⟨List.pairwise_map.1 hp,fun x hx=>⟨h1 _ (List.mem_map_of_mem hx),h2 x hx⟩⟩
structure ReadOk (m:Nat×Int×Int×List Nd) :Prop where
 l:1≤m.1∧m.1≤48
 k:1≤m.2.1∧m.2.1≤1048576
 fits:Fits m.1 m.2.2.2
 len: (m.2.2.2.length:Int)≤8*m.2.1
 light:lightOf m.1 m.2.2.2 m.2.1=true
 sum:sumR m.2.2.2=m.2.2.1
abbrev Read4:=(Nat×Int×Int×List Nd)×Int
def noRd (e:Int) :Read4:=((0,0,0, []),e)
def rd4 (l k n:Nat) (c:List Nd×List UInt8×Int×Int) :Read4:=
 if c.2.2.2≠0 then noRd c.2.2.2 else if c.2.1≠ [] then noRd 11 else if 0<c.2.2.1 then noRd 10 else if lightOf l c.1 (k:Int) =false then noRd 13 else ((l,(k:Int),(n:Int),c.1),0)
def rd3 (l k n:Nat) (f:List Int×Nat×Int) (s2:List UInt8) :Read4:=
 if f.2.2≠0 then noRd f.2.2 else if (f.1.all fun id=>isNode l id) =false then noRd 10 else rd4 l k n (cntF f.1 (s2.drop f.2.1) (n:Int) [])
def rd2 (l k:Nat) (n:Nat×Nat×Int) (s1:List UInt8) :Read4:=
 if n.2.2≠0 then noRd n.2.2 else if 72057594037927935<n.1 then noRd 10 else rd3 l k n.1 (fallB (s1.drop n.2.1) (8* (k:Int))) (s1.drop n.2.1)
def rd1 (l:Nat) (k:Nat×Nat×Int) (s0:List UInt8) :Read4:=
 if k.2.2≠0 then noRd k.2.2 else if k.1<1∨1048576<k.1 then noRd 10 else rd2 l k.1 (getB (s0.drop k.2.1)) (s0.drop k.2.1)
def rd0 (s:List UInt8) :Read4:=
 match s with
 | []=>noRd 9
 |b :: s0=>if b.toNat<1∨48<b.toNat then noRd 10 else rd1 b.toNat (getB s0) s0
def rdW (o:List UInt8×Int) :Read4:=if o.2≠0 then noRd o.2 else if o.1.length<4 then noRd 9 else if o.1.take 4≠ [68,87,80,1] then noRd 10 else rd0 (o.1.drop 4)
theorem readN_rd (l:Nat) (s0:List UInt8) :readN l s0=rd1 l (getB s0) s0:=rfl
theorem readW_rd (s:List UInt8) :readW s=rdW (openT s):=rfl
theorem rd3_ok {l k n:Nat} (hl:1≤l∧l≤48) (hk:1≤k∧k≤1048576) (hn:n≤72057594037927935) (s2:List UInt8) (h: (rd3 l k n (fallB s2 (8* (k:Int))) s2).2=0) :ReadOk (rd3 l k n (fallB s2 (8* (k:Int))) s2).1:=by
 have fr:=fallB_rise s2 (8* (k:Int));have fb:=fallB_bounds s2 (8* (k:Int));generalize fallB s2 (8* (k:Int)) =f at h fr fb⊢;unfold rd3 at h⊢
 split at h
 ·rename_i h1;exact absurd h h1
 rename_i a5
 split at h
 ·exact absurd h (by decide)
 rename_i a6;rw [if_neg a5,if_neg a6];have co:=cntF_ok f.1 (s2.drop f.2.1) (n:Int) [] (by omega);generalize cntF f.1 (s2.drop f.2.1) (n:Int) [] =c at h co⊢;unfold rd4 at h⊢
 split at h
 ·rename_i h1;exact absurd h h1
 rename_i a7
 split at h
 ·exact absurd h (by decide)
 rename_i a8
 split at h
 ·exact absurd h (by decide)
 rename_i a9
 split at h
 ·exact absurd h (by decide)
 rename_i a10;rw [if_neg a7,if_neg a8,if_neg a9,if_neg a10];obtain⟨cs,e1,e2,e3,e4,e5⟩:=co (by simpa using a7);rw [List.nil_append] at e1;rw [←e1] at e2 e3 e4;have hr:=roll_of_ids e2 fr (fun x hx=>(fb.2.1 x hx).1) e3
 have hnode: ∀x∈c.1,isNode l x.1=true:=by
  intro x hx;have hall: (f.1.all fun id=>isNode l id) =true:=by simpa using a6
  refine List.all_eq_true.1 hall x.1 ?_;rw [←e2];exact List.mem_map_of_mem hx
 refine⟨hl,⟨?_,?_⟩,⟨hr,?_,?_⟩,?_,?_,?_⟩
 ·show (1:Int)≤(k:Int);omega
 ·show (k:Int)≤1048576;omega
 ·intro x hx
  have:=(isNode_lt (hnode x hx)).2
  simpa using this
 ·show sumR c.1≤_;omega
 ·show ((c.1).length:Int)≤8* (k:Int)
  have hlen: (c.1).length=f.1.length:=by rw [←e2,List.length_map]
  have:=fb.2.2.2;omega
 ·show lightOf l c.1 (k:Int) =true
  simpa using a10
 ·show sumR c.1= (n:Int);omega
theorem readN_ok {l:Nat} (hl:1≤l∧l≤48) (s0:List UInt8) (h: (readN l s0).2=0) :ReadOk (readN l s0).1:=by
 rw [readN_rd] at h⊢;generalize getB s0=k at h⊢;unfold rd1 at h⊢
 split at h
 ·rename_i h1;exact absurd h h1
 rename_i a1
 split at h
 ·exact absurd h (by decide)
 rename_i a2;rw [if_neg a1,if_neg a2];generalize s0.drop k.2.1=s1 at h⊢;generalize getB s1=n at h⊢;unfold rd2 at h⊢
 split at h
 ·rename_i h1;exact absurd h h1
 rename_i a3
 split at h
 ·exact absurd h (by decide)
 rename_i a4;rw [if_neg a3,if_neg a4];exact rd3_ok hl (by omega) (by omega) _ h
theorem readW_ok (s:List UInt8) (h: (readW s).2=0) :ReadOk (readW s).1:=by
 rw [readW_rd] at h⊢;generalize openT s=o at h⊢;unfold rdW at h⊢
 split at h
 ·rename_i h1;exact absurd h h1
 rename_i a1
 split at h
 ·exact absurd h (by decide)
 rename_i a2
 split at h
 ·exact absurd h (by decide)
 rename_i a3;rw [if_neg a1,if_neg a2,if_neg a3];generalize o.1.drop 4=t at h⊢
 match t with
 | []=>exact absurd h (by decide)
 |b :: s0=>
  unfold rd0 at h⊢;dsimp only at h⊢
  split at h
  ·exact absurd h (by decide)
  ·rename_i a4
   rw [if_neg a4];exact readN_ok (by omega) s0 h
def apartC (a b:Nat) :Bool:=decide (a &&& b=0)
def refusedE (s:Sen) (x:Ltr) :Int:=if x.e≠s.ep then 17 else if hasC s.p.kids x.f=false then 16 else if s.sent=true then 18 else if hasC s.heard x.f=true∨apartC s.cover x.c=false then 19 else 0
def moreE (l:Nat) (k:Int) (r:List Nd) (m: (Nat×Int×Int×List Nd)×Int) :Int:=if m.2≠0 then m.2 else if m.1.1≠l∨m.1.2.1≠k then 6 else if 72057594037927935<sumR r+sumR m.1.2.2.2 then 5 else 0
def hearE (l:Nat) (s:Sen) (r:List Nd) (text:List UInt8) :Int:=
 if (decL text).2≠0 then (decL text).2 else if refusedE s (decL text).1≠0 then refusedE s (decL text).1 else moreE l s.k r (readW (decL text).1.b)
def heardS (s:Sen) (x:Ltr) :Sen:={s with heard:=withC s.heard x.f,cover:=s.cover ||| x.c}
def HearTo (l:Nat) (s:Sen) (r:List Nd) (text:List UInt8) (s':Sen) (r':List Nd) :Prop:=
 (hearE l s r text≠0∧s'=s∧r'=r)∨(hearE l s r text=0∧s'=heardS s (decL text).1∧Joined l s.k r (readW (decL text).1.b).1.2.2.2 r')
def listN (s n:Nat) :List Int:=List.map (fun i:Nat=>(i:Int)) ((List.range n).filter fun i=>hasN s i)
def listC (s:Nat) :List Int:=listN s 48
theorem listN_step (s n:Nat) :listN s (n+1) =listN s n ++ (if hasN s n=true then [(n:Int)] else []):=by
 unfold listN;rw [List.range_succ,List.filter_append,List.map_append]
 congr 1
 cases h:hasN s n <;> simp [h]
theorem listN_len (s n:Nat) : (listN s n).length≤n:=by
 unfold listN;rw [List.length_map];exact Nat.le_trans (List.length_filter_le _ _) (by simp)
theorem ref27_List (w:World) (s:Nat) (hs:s<2^64) :
 Calls Tryz.prog 100 #[.int .u64 s] w fun e w'=>∃v,e=.returned v∧Own w' w.heap.size 3 encZ v (listC s)∧Below w.heap.size w w':=by
 have HBt:=LH (fun W n (h:n≤48)=>ref27_bit n h W);have HPw:=LH (fun p n (h:p=2^n)=>ref_has hs (n:=n) h)
 go_enter Tryz.func100,Tryz.ntmps100
 go_wp2_with fail
 go_loopw [3,4] (fun u i wr=>∃q:Nat,i=.int .i64 q∧q≤48∧Own wr w.heap.size 3 encZ u (listN s q)∧Below w.heap.size w wr) (fun _ i _=>48 - (intOf i).toNat)
 case atStart=>exact⟨0,rfl,by omega,Own.nil _ _ _ _,Below.refl _ _⟩
 case round=>
  obtain⟨q,rfl,hq,ho,hB⟩:=hrel;obtain⟨Ao,co,rfl,_⟩:=ho.form;have HO:=LH ho;have HB:=LH hB;have sz:=hB.size;clear ho hB;by_cases hlt:q<48
  ·have hqi: (q:Int) <48:=by omega
   have HN:=LH (listN_step s q);have hpq:=pow_crew hlt;have HB1:=LH (HBt.out wr q (by omega));obtain⟨p,hp⟩ : ∃p,p=2^q:=⟨_,rfl⟩;have HH:=LH (HPw.out p q hp);rw [←hp] at hpq HB1;have hp1: ((p:Int) == 0) =false:=by simp;omega
   clear hp;have hll:=listN_len s q;generalize listN s q=L at HO HN hll⊢
   cases hb:hasN s q
   ·rw [hb] at HN HH
    have HNe:Hid (listN s (q+1) =L):=LH (by simpa using HN.out);have hh:=HH.out;clear HN HH hb;go_wp2_with fail;refine HB1.out.mono ?_;rintro e w1 ⟨rfl,hb1⟩;have HO2:=LH (HO.out.below hb1);have HB2:=LH (HB.out.trans (hb1.mono sz));clear hb1;go_wp2_with fail;go_roundw
    case rel=>exact⟨q+1,by go_num,by omega,by rw [HNe.out];exact HO2.out,HB2.out⟩
    case measure=>simp [intOf];omega
   ·rw [hb] at HN HH
    have HNe:Hid (listN s (q+1) =L ++ [(q:Int)]):=LH (by simpa using HN.out);have hh:=HH.out;clear HN HH hb;go_wp2_with fail;refine HB1.out.mono ?_;rintro e w1 ⟨rfl,hb1⟩;have HO2:=LH (HO.out.below hb1);have HB2:=LH (HB.out.trans (hb1.mono sz));have sz1:=hb1.size;clear hb1;go_wp2_with ((at_builtin;go_loud (refine wpList_push tyZ rfl _ _ rfl encZ w1 w.heap.size (.slice Ao L.length co) L rfl HO2.out (q:Int) (by go_simp) (by simp [encZ]) ?c1 ?c2 ?c3 ?c4)))
    case c1=>omega
    case c2=>unfold maxLen;omega
    case c3=>omega
    case c4=>
     intro v' w' ho' _ _ _ hb' _;have HO3:=LH ho';have HB3:=LH (HB2.out.trans hb');clear ho' hb';go_wp2_with fail;go_roundw
     case rel=>exact⟨q+1,by go_num,by omega,by rw [HNe.out];exact HO3.out,HB3.out⟩
     case measure=>simp [intOf];omega
  ·obtain rfl:q=48:=by omega
   go_wp2_with fail;exact bR (v:=.slice Ao (listN s 48).length co) (by simp only [results,Tryz.results100];go_simp) rfl ⟨_,rfl,HO.out,HB.out⟩
def noL (e:Int) :Ltr×Int:=(noLtr,e)
def dl4 (a b c n:Nat) (s:List UInt8) :Ltr×Int:=if s.length<n then noL 9 else if n<s.length then noL 11 else (⟨a,b,c,s⟩,0)
def dl3 (a b c:Nat) (n:Nat×Nat×Int) (s:List UInt8) :Ltr×Int:=if n.2.2≠0 then noL n.2.2 else if 1048576<n.1 then noL 13 else dl4 a b c n.1 (s.drop n.2.1)
def dl2 (a b:Nat) (c:Nat×Nat×Int) (s:List UInt8) :Ltr×Int:=if c.2.2≠0 then noL c.2.2 else if (rightC c.1 && hasC c.1 b) =false then noL 10 else dl3 a b c.1 (getB (s.drop c.2.1)) (s.drop c.2.1)
def dl1 (a:Nat) (b:Nat×Nat×Int) (s:List UInt8) :Ltr×Int:=if b.2.2≠0 then noL b.2.2 else if isCrew b.1=false then noL 10 else dl2 a b.1 (getB (s.drop b.2.1)) (s.drop b.2.1)
def dl0 (a:Nat×Nat×Int) (s:List UInt8) :Ltr×Int:=if a.2.2≠0 then noL a.2.2 else dl1 a.1 (getB (s.drop a.2.1)) (s.drop a.2.1)
def dlW (o:List UInt8×Int) :Ltr×Int:=if o.2≠0 then noL o.2 else if o.1.length<4 then noL 9 else if o.1.take 4≠ [68,87,76,1] then noL 10 else dl0 (getB (o.1.drop 4)) (o.1.drop 4)
theorem decL_dl (s:List UInt8) :decL s=dlW (openT s):=rfl
def LtPost (s:List UInt8) (w:World) (e:Ending) (w':World) :Prop:=
 e=.returned (.tuple #[.agg #[.int .i64 (decL s).1.e,.int .i64 (decL s).1.f,.int .u64 (decL s).1.c,.string ⟨(decL s).1.b.toArray⟩],.int .i64 (decL s).2])∧Below w.heap.size w w'
theorem LtPost.no {s:List UInt8} {w w':World} {er:Int} (h:decL s=noL er) (hb:Below w.heap.size w w') :LtPost s w (.returned (.tuple #[.agg #[.int .i64 0,.int .i64 0,.int .u64 0,.string ⟨#[]⟩],.int .i64 er])) w':=by
 unfold LtPost;rw [h];exact⟨rfl,hb⟩
theorem LtPost.ok {s:List UInt8} {w w':World} {a b c:Nat} {t:List UInt8} (h:decL s= (⟨a,b,c,t⟩,0)) (hb:Below w.heap.size w w') :LtPost s w (.returned (.tuple #[.agg #[.int .i64 a,.int .i64 b,.int .u64 c,.string ⟨t.toArray⟩],.int .i64 0])) w':=by
 unfold LtPost;rw [h];exact⟨rfl,hb⟩
structure DcR (w:World) (W:World) :Prop where
 x:W.heap[w.heap.size]? =some (.cells #[.int .i64 0,.int .i64 0,.int .u64 0,.string ⟨#[]⟩] 110 (0,0))
 y:W.heap[w.heap.size+1]? =some (.cells #[.int .i64 0,.int .i64 0,.int .u64 0,.string ⟨#[]⟩] 110 (0,0))
 b:Below w.heap.size w W
theorem DcR.below {w W W':World} (h:DcR w W) (hb:Below W.heap.size W W') :DcR w W':=⟨bB h.x hb,bB h.y hb,h.b.trans (hb.mono h.b.size)⟩
theorem lt_store {W:World} {q:Nat} {a b c d:Value} (h:W.heap[q]? =some (.cells #[a,b,c,d] 110 (0,0))) (u v x y:Value) : ((((W.setCell ⟨q,0,none⟩ u).setCell ⟨q,1,none⟩ v).setCell ⟨q,2,none⟩ x).setCell ⟨q,3,none⟩ y).heap[q]? =some (.cells #[u,v,x,y] 110 (0,0)):=by
 have h0:=zH (i:=0) h u;have h1:=zH (i:=1) h0 v;have h2:=zH (i:=2) h1 x;exact zH (i:=3) h2 y
theorem lt_below {w W:World} {q:Nat} (h:Below w.heap.size w W) (hq:w.heap.size≤q) (u v x y:Value) :Below w.heap.size w ((((W.setCell ⟨q,0,none⟩ u).setCell ⟨q,1,none⟩ v).setCell ⟨q,2,none⟩ x).setCell ⟨q,3,none⟩ y):=(((h.setCell (p:=⟨q,0,none⟩) hq u).setCell (p:=⟨q,1,none⟩) hq v).setCell (p:=⟨q,2,none⟩) hq x).setCell (p:=⟨q,3,none⟩) hq y
def ArAt (W:World) (g:Nat) (a b c d:Nat) :Prop:=W.heap[g]? =some (.cells #[.int .i64 a,.int .i64 b,.int .i64 c,.int .i64 d] 196 (0,0))
theorem ArAt.below {w w':World} {g a b c d:Nat} (h:ArAt w g a b c d) (hb:Below w.heap.size w w') :ArAt w' g a b c d:=bB h hb
theorem DcR.other {w W:World} {g o:Nat} (h:DcR w W) (hg:w.heap.size+2≤g) (u:Value) :DcR w (W.setCell ⟨g,o,none⟩ u):=⟨(Below.heap_setCell _ _ _ _ (by simp;omega)).trans h.x,(Below.heap_setCell _ _ _ _ (by simp;omega)).trans h.y,h.b.setCell (p:=⟨g,o,none⟩) (by simp;omega) u⟩
theorem ref29_Decode (w:World) (s:List UInt8) (hs:s.length≤8000000) :
 Calls Tryz.prog 62 #[.string ⟨s.toArray⟩] w (LtPost s w):=by
 have HRd:=LH (decL_dl s);have HOp:=LH (fun W=>ref23_Open W s hs);unfold OpenPost at HOp;have hol:=openT_len s;have R0:Hid (DcR w ((w.alloc (.cells #[.int .i64 0,.int .i64 0,.int .u64 0,.string ⟨#[]⟩] 110)).alloc (.cells #[.int .i64 0,.int .i64 0,.int .u64 0,.string ⟨#[]⟩] 110))):=LH ⟨(heap_new_lt _ _ _ (by simp)).trans (heap_alloc_new w _),heap_new_at (w.alloc _) _ _ (by simp),bE⟩;generalize openT s=oo at HRd HOp hol;obtain⟨t,e0⟩:=oo;dsimp only at HOp hol;have hts:t.length≤8000000:=by omega
 clear hol hs
 go_enter Tryz.func62,Tryz.ntmps62
 go_upto_region 2 with fail;generalize ((w.alloc (.cells #[.int .i64 0,.int .i64 0,.int .u64 0,.string ⟨#[]⟩] 110)).alloc (.cells #[.int .i64 0,.int .i64 0,.int .u64 0,.string ⟨#[]⟩] 110)) =W0 at R0⊢;go_wp2_with fail;refine(HOp.out W0).mono ?_;rintro e w1 ⟨rfl,hb⟩;have R1:=LH (R0.out.below hb);clear hb R0 HOp;by_cases h1:e0=0
 case neg=>
  have HE:Hid (decL s=noL e0):=LH (by rw [HRd.out];unfold dlW;exact if_pos h1);have h1i: (e0 == 0) =false:=by simpa using h1
  have cy:=bC R1.out.y;have zy:=lB R1.out.y;have cx:=bC R1.out.x;have fx:=bF R1.out.x;have zx:=lB R1.out.x;have Y:=LH (lt_store R1.out.x (.int .i64 0) (.int .i64 0) (.int .u64 0) (.string ⟨#[]⟩));have B:=LH (lt_below R1.out.b (q:=w.heap.size) (Nat.le_refl _) (.int .i64 0) (.int .i64 0) (.int .u64 0) (.string ⟨#[]⟩));go_wp2_with fail;clear cy zy cx fx zx;generalize ((((w1.setCell ⟨w.heap.size,0,none⟩ (.int .i64 0)).setCell ⟨w.heap.size,1,none⟩ (.int .i64 0)).setCell ⟨w.heap.size,2,none⟩ (.int .u64 0)).setCell ⟨w.heap.size,3,none⟩ (.string ⟨#[]⟩)) =wz at Y B⊢;have ce:=bC Y.out;have fe:=bF Y.out;have ze:=lB Y.out;exact bR (v:=.tuple #[.agg #[.int .i64 0,.int .i64 0,.int .u64 0,.string ⟨#[]⟩],.int .i64 e0]) (by simp only [results,Tryz.results62];go_simp) rfl (LtPost.no HE.out B.out)
 subst h1;have HR1:Hid (decL s=if t.length<4 then noL 9 else if t.take 4≠ [68,87,76,1] then noL 10 else dl0 (getB (t.drop 4)) (t.drop 4)):=LH (by rw [HRd.out];unfold dlW;exact if_neg (by simp));clear HRd;by_cases h2:t.length<4
 case pos=>
  have HE:=LH (HR1.out.trans (if_pos h2));have h2i: (t.length:Int) <4:=by omega
  have cy:=bC R1.out.y;have zy:=lB R1.out.y;have cx:=bC R1.out.x;have fx:=bF R1.out.x;have zx:=lB R1.out.x;have Y:=LH (lt_store R1.out.x (.int .i64 0) (.int .i64 0) (.int .u64 0) (.string ⟨#[]⟩));have B:=LH (lt_below R1.out.b (q:=w.heap.size) (Nat.le_refl _) (.int .i64 0) (.int .i64 0) (.int .u64 0) (.string ⟨#[]⟩));go_wp2_with fail;clear cy zy cx fx zx;generalize ((((w1.setCell ⟨w.heap.size,0,none⟩ (.int .i64 0)).setCell ⟨w.heap.size,1,none⟩ (.int .i64 0)).setCell ⟨w.heap.size,2,none⟩ (.int .u64 0)).setCell ⟨w.heap.size,3,none⟩ (.string ⟨#[]⟩)) =wz at Y B⊢;have ce:=bC Y.out;have fe:=bF Y.out;have ze:=lB Y.out;exact bR (v:=.tuple #[.agg #[.int .i64 0,.int .i64 0,.int .u64 0,.string ⟨#[]⟩],.int .i64 9]) (by simp only [results,Tryz.results62];go_simp) rfl (LtPost.no HE.out B.out)
 have h2i: ¬(t.length:Int) <4:=by omega
 have h2j:decide ((t.length:Int) <4) =false:=by simp;omega
 have HR2:=LH (HR1.out.trans (if_neg h2));have htt:=text_take t 4;clear HR1;by_cases h3:t.take 4= [68,87,76,1]
 case neg=>
  have HE:=LH (HR2.out.trans (if_pos h3));have h3i: (t.take 4 == [68,87,76,1]) =false:=by simpa using h3
  generalize t.take 4=t4 at htt h3i;clear h3;have cy:=bC R1.out.y;have zy:=lB R1.out.y;have cx:=bC R1.out.x;have fx:=bF R1.out.x;have zx:=lB R1.out.x;have Y:=LH (lt_store R1.out.x (.int .i64 0) (.int .i64 0) (.int .u64 0) (.string ⟨#[]⟩));have B:=LH (lt_below R1.out.b (q:=w.heap.size) (Nat.le_refl _) (.int .i64 0) (.int .i64 0) (.int .u64 0) (.string ⟨#[]⟩));go_wp2_with fail;clear cy zy cx fx zx;generalize ((((w1.setCell ⟨w.heap.size,0,none⟩ (.int .i64 0)).setCell ⟨w.heap.size,1,none⟩ (.int .i64 0)).setCell ⟨w.heap.size,2,none⟩ (.int .u64 0)).setCell ⟨w.heap.size,3,none⟩ (.string ⟨#[]⟩)) =wz at Y B⊢;have ce:=bC Y.out;have fe:=bF Y.out;have ze:=lB Y.out;exact bR (v:=.tuple #[.agg #[.int .i64 0,.int .i64 0,.int .u64 0,.string ⟨#[]⟩],.int .i64 10]) (by simp only [results,Tryz.results62];go_simp) rfl (LtPost.no HE.out B.out)
 have HR3:=LH (HR2.out.trans (if_neg (fun h=>h h3)));rw [h3] at htt;clear HR2 h3;have htd:=text_drop t 4;have hdl: (t.drop 4).length≤8000000:=by rw [List.length_drop];omega
 generalize t.drop 4=s0 at htd hdl HR3;have A1:=LH (show ArAt (w1.alloc (.cells #[.int .i64 (0:Nat),.int .i64 (0:Nat),.int .i64 (0:Nat),.int .i64 (0:Nat)] 196)) w1.heap.size 0 0 0 0 from heap_alloc_new w1 _);have R2:=LH (R1.out.below ((Below.refl w1.heap.size w1).alloc (Nat.le_refl _) (.cells #[.int .i64 (0:Nat),.int .i64 (0:Nat),.int .i64 (0:Nat),.int .i64 (0:Nat)] 196)));have hpa:w.heap.size+2≤w1.heap.size:=by have:=lB R1.out.y;omega
 go_upto_region 11 with fail;obtain⟨pa,hpe⟩ : ∃q,q=w1.heap.size:=⟨_,rfl⟩;rw [←hpe] at A1 hpa⊢;have hz: (w1.alloc (.cells #[.int .i64 (0:Nat),.int .i64 (0:Nat),.int .i64 (0:Nat),.int .i64 (0:Nat)] 196)) = (w1.alloc (.cells #[.int .i64 0,.int .i64 0,.int .i64 0,.int .i64 0] 196)):=rfl;rw [hz] at A1 R2;generalize w1.alloc (.cells #[.int .i64 0,.int .i64 0,.int .i64 0,.int .i64 0] 196) =w2 at A1 R2⊢;clear hpe R1 hz;go_wp2_with fail
 go_loopw [5,8] (fun tv i W=>∃(q:Nat) (u:List UInt8) (a b c n:Nat),i=.int .i64 q∧tv=.string ⟨u.toArray⟩∧u.length≤8000000∧DcR w W∧ArAt W pa a b c n∧((q=0∧decL s=dl0 (getB u) u)∨(q=1∧decL s=dl1 a (getB u) u)∨(q=2∧b≤47∧decL s=dl2 a b (getB u) u)∨(q=3∧b≤47∧c≤281474976710655∧decL s=dl3 a b c (getB u) u)∨(q=4∧c≤281474976710655∧n≤1048576∧decL s=dl4 a b c n u))) (fun _ i _=>4 - (intOf i).toNat)
 case atStart=>exact⟨0,s0,0,0,0,0,rfl,rfl,hdl,R2.out,A1.out,.inl ⟨rfl,HR3.out⟩⟩
 case round=>
  obtain⟨q,u,a,b,c,n,rfl,rfl,hul,hR,hA,hq⟩:=hrel;have RR:=LH hR;have AA:=LH hA;clear hR hA HR3 A1 R2 htd hdl htt h2i h2j;have HGt:=LH (ref22_Get wr u (by omega));unfold GetPost at HGt;have HBd:=LH (getB_bounds u);have htd:=text_drop u;have hdl: ∀z,(u.drop z).length≤8000000:=fun z=>by rw [List.length_drop];omega
  have HD:=LH (And.intro htd hdl);clear htd hdl;generalize hG:getB u=G at HGt HBd hq;clear hG;obtain⟨v,z,er⟩:=G;dsimp only at HGt HBd;have hv9:=HBd.out.1;have hzl:=HBd.out.2.2.1;have ca:=bC AA.out;have fa:=bF AA.out;have za:=lB AA.out;rcases hq with ⟨rfl,hq⟩ |hq
  case inl=>
   have HQ:=LH hq;clear hq;go_wp2_with fail;refine HGt.out.mono ?_;rintro e w3 ⟨rfl,hb3⟩;have R3:=LH (RR.out.below hb3);have A3:=LH (AA.out.below hb3);clear hb3 HGt ca fa za RR AA;by_cases he:er=0
   case neg=>
    have HE:Hid (decL s=noL er):=LH (HQ.out.trans (if_pos he));have hei: (er == 0) =false:=by simpa using he
    have cy:=bC R3.out.y;have zy:=lB R3.out.y;have cx:=bC R3.out.x;have fx:=bF R3.out.x;have zx:=lB R3.out.x;have Y:=LH (lt_store R3.out.x (.int .i64 0) (.int .i64 0) (.int .u64 0) (.string ⟨#[]⟩));have B:=LH (lt_below R3.out.b (q:=w.heap.size) (Nat.le_refl _) (.int .i64 0) (.int .i64 0) (.int .u64 0) (.string ⟨#[]⟩));go_wp2_with fail;clear cy zy cx fx zx;generalize ((((w3.setCell ⟨w.heap.size,0,none⟩ (.int .i64 0)).setCell ⟨w.heap.size,1,none⟩ (.int .i64 0)).setCell ⟨w.heap.size,2,none⟩ (.int .u64 0)).setCell ⟨w.heap.size,3,none⟩ (.string ⟨#[]⟩)) =wz at Y B⊢;have ce:=bC Y.out;have fe:=bF Y.out;have ze:=lB Y.out;exact bR (v:=.tuple #[.agg #[.int .i64 0,.int .i64 0,.int .u64 0,.string ⟨#[]⟩],.int .i64 er]) (by simp only [results,Tryz.results62];go_simp) rfl (LtPost.no HE.out B.out)
   subst he;have HQ2:Hid (decL s=dl1 v (getB (u.drop z)) (u.drop z)):=LH (HQ.out.trans (if_neg (by simp)));clear HQ;have htd:=HD.out.1 z;have hdl:=HD.out.2 z;clear HD;generalize u.drop z=u2 at htd hdl HQ2;have ca:=bC A3.out;have fa:=bF A3.out;have za:=lB A3.out;have A4:Hid (ArAt (w3.setCell ⟨pa,0,none⟩ (.int .i64 v)) pa v b c n):=LH (zH (i:=0) A3.out _);have R4:=LH (R3.out.other (o:=0) hpa (.int .i64 v));go_upto_region 18 with fail;generalize w3.setCell ⟨pa,0,none⟩ (.int .i64 v) =w4 at A4 R4⊢;clear ca fa za A3 R3;go_wp2_with fail;go_roundw
   case rel=>exact⟨1,u2,v,b,c,n,by go_num,rfl,hdl,R4.out,A4.out,.inr (.inl ⟨rfl,HQ2.out⟩)⟩
   case measure=>simp [intOf]
  rcases hq with ⟨rfl,hq⟩ |hq
  case inl=>
   have HQ:=LH hq;clear hq;go_wp2_with fail;refine HGt.out.mono ?_;rintro e w3 ⟨rfl,hb3⟩;have R3:=LH (RR.out.below hb3);have A3:=LH (AA.out.below hb3);clear hb3 HGt ca fa za RR AA;by_cases he:er=0
   case neg=>
    have HE:Hid (decL s=noL er):=LH (HQ.out.trans (if_pos he));have hei: (er == 0) =false:=by simpa using he
    have cy:=bC R3.out.y;have zy:=lB R3.out.y;have cx:=bC R3.out.x;have fx:=bF R3.out.x;have zx:=lB R3.out.x;have Y:=LH (lt_store R3.out.x (.int .i64 0) (.int .i64 0) (.int .u64 0) (.string ⟨#[]⟩));have B:=LH (lt_below R3.out.b (q:=w.heap.size) (Nat.le_refl _) (.int .i64 0) (.int .i64 0) (.int .u64 0) (.string ⟨#[]⟩));go_wp2_with fail;clear cy zy cx fx zx;generalize ((((w3.setCell ⟨w.heap.size,0,none⟩ (.int .i64 0)).setCell ⟨w.heap.size,1,none⟩ (.int .i64 0)).setCell ⟨w.heap.size,2,none⟩ (.int .u64 0)).setCell ⟨w.heap.size,3,none⟩ (.string ⟨#[]⟩)) =wz at Y B⊢;have ce:=bC Y.out;have fe:=bF Y.out;have ze:=lB Y.out;exact bR (v:=.tuple #[.agg #[.int .i64 0,.int .i64 0,.int .u64 0,.string ⟨#[]⟩],.int .i64 er]) (by simp only [results,Tryz.results62];go_simp) rfl (LtPost.no HE.out B.out)
   subst he;have HQ2:Hid (decL s=if isCrew v=false then noL 10 else dl2 a v (getB (u.drop z)) (u.drop z)):=LH (HQ.out.trans (if_neg (by simp)));clear HQ;have htd:=HD.out.1 z;have hdl:=HD.out.2 z;clear HD;generalize u.drop z=u2 at htd hdl HQ2;have ca:=bC A3.out;have fa:=bF A3.out;have za:=lB A3.out;have A4:Hid (ArAt (w3.setCell ⟨pa,1,none⟩ (.int .i64 v)) pa a v c n):=LH (zH (i:=1) A3.out _);have R4:=LH (R3.out.other (o:=1) hpa (.int .i64 v));go_upto_region 18 with fail;generalize w3.setCell ⟨pa,1,none⟩ (.int .i64 v) =w4 at A4 R4⊢;clear ca fa za A3 R3;have HIs:=LH (ref27_Is (v:Int) w4)
   cases hc:isCrew (v:Int)
   ·rw [hc] at HIs
    have HE:=LH (HQ2.out.trans (if_pos hc));clear hc HQ2;go_wp2_with fail;refine HIs.out.mono ?_;rintro e w5 ⟨rfl,hb5⟩;have R5:=LH (R4.out.below hb5);clear hb5;have cy:=bC R5.out.y;have zy:=lB R5.out.y;have cx:=bC R5.out.x;have fx:=bF R5.out.x;have zx:=lB R5.out.x;have Y:=LH (lt_store R5.out.x (.int .i64 0) (.int .i64 0) (.int .u64 0) (.string ⟨#[]⟩));have B:=LH (lt_below R5.out.b (q:=w.heap.size) (Nat.le_refl _) (.int .i64 0) (.int .i64 0) (.int .u64 0) (.string ⟨#[]⟩));go_wp2_with fail;clear cy zy cx fx zx;generalize ((((w5.setCell ⟨w.heap.size,0,none⟩ (.int .i64 0)).setCell ⟨w.heap.size,1,none⟩ (.int .i64 0)).setCell ⟨w.heap.size,2,none⟩ (.int .u64 0)).setCell ⟨w.heap.size,3,none⟩ (.string ⟨#[]⟩)) =wz at Y B⊢;have ce:=bC Y.out;have fe:=bF Y.out;have ze:=lB Y.out;exact bR (v:=.tuple #[.agg #[.int .i64 0,.int .i64 0,.int .u64 0,.string ⟨#[]⟩],.int .i64 10]) (by simp only [results,Tryz.results62];go_simp) rfl (LtPost.no HE.out B.out)
   ·rw [hc] at HIs
    have HE:=LH (HQ2.out.trans (if_neg (by rw [hc];simp)));have hv47:v≤47:=by obtain⟨m,hm,hm2⟩:=isCrew_nat hc;omega
    clear hc HQ2;go_wp2_with fail;refine HIs.out.mono ?_;rintro e w5 ⟨rfl,hb5⟩;have R5:=LH (R4.out.below hb5);have A5:=LH (A4.out.below hb5);clear hb5;go_wp2_with fail;go_roundw
    case rel=>exact⟨2,u2,a,v,c,n,by go_num,rfl,hdl,R5.out,A5.out,.inr (.inr (.inl ⟨rfl,hv47,HE.out⟩))⟩
    case measure=>simp [intOf]
  rcases hq with ⟨rfl,hb47,hq⟩ |hq
  case inl=>
   have HQ:=LH hq;clear hq;go_wp2_with fail;refine HGt.out.mono ?_;rintro e w3 ⟨rfl,hb3⟩;have R3:=LH (RR.out.below hb3);have A3:=LH (AA.out.below hb3);clear hb3 HGt ca fa za RR AA;by_cases he:er=0
   case neg=>
    have HE:Hid (decL s=noL er):=LH (HQ.out.trans (if_pos he));have hei: (er == 0) =false:=by simpa using he
    have cy:=bC R3.out.y;have zy:=lB R3.out.y;have cx:=bC R3.out.x;have fx:=bF R3.out.x;have zx:=lB R3.out.x;have Y:=LH (lt_store R3.out.x (.int .i64 0) (.int .i64 0) (.int .u64 0) (.string ⟨#[]⟩));have B:=LH (lt_below R3.out.b (q:=w.heap.size) (Nat.le_refl _) (.int .i64 0) (.int .i64 0) (.int .u64 0) (.string ⟨#[]⟩));go_wp2_with fail;clear cy zy cx fx zx;generalize ((((w3.setCell ⟨w.heap.size,0,none⟩ (.int .i64 0)).setCell ⟨w.heap.size,1,none⟩ (.int .i64 0)).setCell ⟨w.heap.size,2,none⟩ (.int .u64 0)).setCell ⟨w.heap.size,3,none⟩ (.string ⟨#[]⟩)) =wz at Y B⊢;have ce:=bC Y.out;have fe:=bF Y.out;have ze:=lB Y.out;exact bR (v:=.tuple #[.agg #[.int .i64 0,.int .i64 0,.int .u64 0,.string ⟨#[]⟩],.int .i64 er]) (by simp only [results,Tryz.results62];go_simp) rfl (LtPost.no HE.out B.out)
   subst he;have HQ2:Hid (decL s=if (rightC v && hasC v b) =false then noL 10 else dl3 a b v (getB (u.drop z)) (u.drop z)):=LH (HQ.out.trans (if_neg (by simp)));clear HQ;have htd:=HD.out.1 z;have hdl:=HD.out.2 z;clear HD;generalize u.drop z=u2 at htd hdl HQ2;have ca:=bC A3.out;have fa:=bF A3.out;have za:=lB A3.out;have A4:Hid (ArAt (w3.setCell ⟨pa,2,none⟩ (.int .i64 v)) pa a b v n):=LH (zH (i:=2) A3.out _);have R4:=LH (R3.out.other (o:=2) hpa (.int .i64 v));go_upto_region 18 with fail;generalize w3.setCell ⟨pa,2,none⟩ (.int .i64 v) =w4 at A4 R4⊢;clear ca fa za A3 R3;have HRi:=LH (ref27_Right v w4);have HHs:=LH (fun W=>ref27_Has v (b:Int) (by omega) W);have hcv:IntKind.u64.wrap (v:Int) = (v:Int):=wrap_u64s (by omega) (by omega)
   cases hc:rightC v
   ·rw [hc] at HRi
    have HE:=LH (HQ2.out.trans (if_pos (by rw [hc];rfl)));clear hc HQ2;go_wp2_with fail;refine HRi.out.mono ?_;rintro e w5 ⟨rfl,hb5⟩;have R5:=LH (R4.out.below hb5);clear hb5;have cy:=bC R5.out.y;have zy:=lB R5.out.y;have cx:=bC R5.out.x;have fx:=bF R5.out.x;have zx:=lB R5.out.x;have Y:=LH (lt_store R5.out.x (.int .i64 0) (.int .i64 0) (.int .u64 0) (.string ⟨#[]⟩));have B:=LH (lt_below R5.out.b (q:=w.heap.size) (Nat.le_refl _) (.int .i64 0) (.int .i64 0) (.int .u64 0) (.string ⟨#[]⟩));go_wp2_with fail;clear cy zy cx fx zx;generalize ((((w5.setCell ⟨w.heap.size,0,none⟩ (.int .i64 0)).setCell ⟨w.heap.size,1,none⟩ (.int .i64 0)).setCell ⟨w.heap.size,2,none⟩ (.int .u64 0)).setCell ⟨w.heap.size,3,none⟩ (.string ⟨#[]⟩)) =wz at Y B⊢;have ce:=bC Y.out;have fe:=bF Y.out;have ze:=lB Y.out;exact bR (v:=.tuple #[.agg #[.int .i64 0,.int .i64 0,.int .u64 0,.string ⟨#[]⟩],.int .i64 10]) (by simp only [results,Tryz.results62];go_simp) rfl (LtPost.no HE.out B.out)
   ·rw [hc] at HRi
    have hv48:v≤281474976710655:=by unfold rightC at hc;simpa using hc
    rw [hc,Bool.true_and] at HQ2;clear hc;go_wp2_with fail;refine HRi.out.mono ?_;rintro e w5 ⟨rfl,hb5⟩;have R5:=LH (R4.out.below hb5);have A5:=LH (A4.out.below hb5);clear hb5 HRi R4 A4;have H5:=LH (HHs.out w5);have ca:=bC A5.out;have za:=lB A5.out
    cases hh:hasC v (b:Int)
    ·rw [hh] at H5
     have HE:=LH (HQ2.out.trans (if_pos hh));clear hh HQ2;go_wp2_with fail;refine H5.out.mono ?_;rintro e w6 ⟨rfl,hb6⟩;have R6:=LH (R5.out.below hb6);clear hb6 ca za;have cy:=bC R6.out.y;have zy:=lB R6.out.y;have cx:=bC R6.out.x;have fx:=bF R6.out.x;have zx:=lB R6.out.x;have Y:=LH (lt_store R6.out.x (.int .i64 0) (.int .i64 0) (.int .u64 0) (.string ⟨#[]⟩));have B:=LH (lt_below R6.out.b (q:=w.heap.size) (Nat.le_refl _) (.int .i64 0) (.int .i64 0) (.int .u64 0) (.string ⟨#[]⟩));go_wp2_with fail;clear cy zy cx fx zx;generalize ((((w6.setCell ⟨w.heap.size,0,none⟩ (.int .i64 0)).setCell ⟨w.heap.size,1,none⟩ (.int .i64 0)).setCell ⟨w.heap.size,2,none⟩ (.int .u64 0)).setCell ⟨w.heap.size,3,none⟩ (.string ⟨#[]⟩)) =wz at Y B⊢;have ce:=bC Y.out;have fe:=bF Y.out;have ze:=lB Y.out;exact bR (v:=.tuple #[.agg #[.int .i64 0,.int .i64 0,.int .u64 0,.string ⟨#[]⟩],.int .i64 10]) (by simp only [results,Tryz.results62];go_simp) rfl (LtPost.no HE.out B.out)
    ·rw [hh] at H5
     have HE:=LH (HQ2.out.trans (if_neg (by rw [hh];simp)));clear hh HQ2;go_wp2_with fail;refine H5.out.mono ?_;rintro e w6 ⟨rfl,hb6⟩;have R6:=LH (R5.out.below hb6);have A6:=LH (A5.out.below hb6);clear hb6 ca za;go_wp2_with fail;go_roundw
     case rel=>exact⟨3,u2,a,b,v,n,by go_num,rfl,hdl,R6.out,A6.out,.inr (.inr (.inr (.inl ⟨rfl,hb47,hv48,HE.out⟩)))⟩
     case measure=>simp [intOf]
  rcases hq with ⟨rfl,hb47,hc48,hq⟩ |hq
  case inl=>
   have HQ:=LH hq;clear hq;go_wp2_with fail;refine HGt.out.mono ?_;rintro e w3 ⟨rfl,hb3⟩;have R3:=LH (RR.out.below hb3);have A3:=LH (AA.out.below hb3);clear hb3 HGt ca fa za RR AA;by_cases he:er=0
   case neg=>
    have HE:Hid (decL s=noL er):=LH (HQ.out.trans (if_pos he));have hei: (er == 0) =false:=by simpa using he
    have cy:=bC R3.out.y;have zy:=lB R3.out.y;have cx:=bC R3.out.x;have fx:=bF R3.out.x;have zx:=lB R3.out.x;have Y:=LH (lt_store R3.out.x (.int .i64 0) (.int .i64 0) (.int .u64 0) (.string ⟨#[]⟩));have B:=LH (lt_below R3.out.b (q:=w.heap.size) (Nat.le_refl _) (.int .i64 0) (.int .i64 0) (.int .u64 0) (.string ⟨#[]⟩));go_wp2_with fail;clear cy zy cx fx zx;generalize ((((w3.setCell ⟨w.heap.size,0,none⟩ (.int .i64 0)).setCell ⟨w.heap.size,1,none⟩ (.int .i64 0)).setCell ⟨w.heap.size,2,none⟩ (.int .u64 0)).setCell ⟨w.heap.size,3,none⟩ (.string ⟨#[]⟩)) =wz at Y B⊢;have ce:=bC Y.out;have fe:=bF Y.out;have ze:=lB Y.out;exact bR (v:=.tuple #[.agg #[.int .i64 0,.int .i64 0,.int .u64 0,.string ⟨#[]⟩],.int .i64 er]) (by simp only [results,Tryz.results62];go_simp) rfl (LtPost.no HE.out B.out)
   subst he;have HQ2:Hid (decL s=if 1048576<v then noL 13 else dl4 a b c v (u.drop z)):=LH (HQ.out.trans (if_neg (by simp)));clear HQ;have htd:=HD.out.1 z;have hdl:=HD.out.2 z;clear HD;generalize u.drop z=u2 at htd hdl HQ2;have ca:=bC A3.out;have fa:=bF A3.out;have za:=lB A3.out;have A4:Hid (ArAt (w3.setCell ⟨pa,3,none⟩ (.int .i64 v)) pa a b c v):=LH (zH (i:=3) A3.out _);have R4:=LH (R3.out.other (o:=3) hpa (.int .i64 v));go_upto_region 18 with fail;generalize w3.setCell ⟨pa,3,none⟩ (.int .i64 v) =w4 at A4 R4⊢;clear ca fa za A3 R3;by_cases hm:1048576<v
   case pos=>
    have HE:=LH (HQ2.out.trans (if_pos hm));have hmi:decide ((1048576:Int) < (v:Int)) =true:=by simp;omega
    clear hm;have cy:=bC R4.out.y;have zy:=lB R4.out.y;have cx:=bC R4.out.x;have fx:=bF R4.out.x;have zx:=lB R4.out.x;have Y:=LH (lt_store R4.out.x (.int .i64 0) (.int .i64 0) (.int .u64 0) (.string ⟨#[]⟩));have B:=LH (lt_below R4.out.b (q:=w.heap.size) (Nat.le_refl _) (.int .i64 0) (.int .i64 0) (.int .u64 0) (.string ⟨#[]⟩));go_wp2_with fail;clear cy zy cx fx zx;generalize ((((w4.setCell ⟨w.heap.size,0,none⟩ (.int .i64 0)).setCell ⟨w.heap.size,1,none⟩ (.int .i64 0)).setCell ⟨w.heap.size,2,none⟩ (.int .u64 0)).setCell ⟨w.heap.size,3,none⟩ (.string ⟨#[]⟩)) =wz at Y B⊢;have ce:=bC Y.out;have fe:=bF Y.out;have ze:=lB Y.out;exact bR (v:=.tuple #[.agg #[.int .i64 0,.int .i64 0,.int .u64 0,.string ⟨#[]⟩],.int .i64 13]) (by simp only [results,Tryz.results62];go_simp) rfl (LtPost.no HE.out B.out)
   have HE:=LH (HQ2.out.trans (if_neg hm));have hmi:decide ((1048576:Int) < (v:Int)) =false:=by simp;omega
   have hv20:v≤1048576:=by omega
   clear hm HQ2;go_wp2_with fail;go_roundw
   case rel=>exact⟨4,u2,a,b,c,v,by go_num,rfl,hdl,R4.out,A4.out,.inr (.inr (.inr (.inr ⟨rfl,hc48,hv20,HE.out⟩)))⟩
   case measure=>simp [intOf]
  obtain⟨rfl,hc48,hn20,hq⟩:=hq;have HQ:=LH hq;clear hq HGt HBd HD hv9 hzl;by_cases h5:u.length<n
  case pos=>
   have HE:Hid (decL s=noL 9):=LH (HQ.out.trans (if_pos h5));have h5i:decide ((u.length:Int) < (n:Int)) =true:=by simp;omega
   have cy:=bC RR.out.y;have zy:=lB RR.out.y;have cx:=bC RR.out.x;have fx:=bF RR.out.x;have zx:=lB RR.out.x;have Y:=LH (lt_store RR.out.x (.int .i64 0) (.int .i64 0) (.int .u64 0) (.string ⟨#[]⟩));have B:=LH (lt_below RR.out.b (q:=w.heap.size) (Nat.le_refl _) (.int .i64 0) (.int .i64 0) (.int .u64 0) (.string ⟨#[]⟩));go_wp2_with fail;clear cy zy cx fx zx;generalize ((((wr.setCell ⟨w.heap.size,0,none⟩ (.int .i64 0)).setCell ⟨w.heap.size,1,none⟩ (.int .i64 0)).setCell ⟨w.heap.size,2,none⟩ (.int .u64 0)).setCell ⟨w.heap.size,3,none⟩ (.string ⟨#[]⟩)) =wz at Y B⊢;have ce:=bC Y.out;have fe:=bF Y.out;have ze:=lB Y.out;exact bR (v:=.tuple #[.agg #[.int .i64 0,.int .i64 0,.int .u64 0,.string ⟨#[]⟩],.int .i64 9]) (by simp only [results,Tryz.results62];go_simp) rfl (LtPost.no HE.out B.out)
  have HQ2:Hid (decL s=if n<u.length then noL 11 else (⟨a,b,c,u⟩,0)):=LH (HQ.out.trans (if_neg h5));have h5i:decide ((u.length:Int) < (n:Int)) =false:=by simp;omega
  clear HQ;by_cases h6:n<u.length
  case pos=>
   have HE:=LH (HQ2.out.trans (if_pos h6));have h6i:decide ((n:Int) < (u.length:Int)) =true:=by simp;omega
   have cy:=bC RR.out.y;have zy:=lB RR.out.y;have cx:=bC RR.out.x;have fx:=bF RR.out.x;have zx:=lB RR.out.x;have Y:=LH (lt_store RR.out.x (.int .i64 0) (.int .i64 0) (.int .u64 0) (.string ⟨#[]⟩));have B:=LH (lt_below RR.out.b (q:=w.heap.size) (Nat.le_refl _) (.int .i64 0) (.int .i64 0) (.int .u64 0) (.string ⟨#[]⟩));go_wp2_with fail;clear cy zy cx fx zx;generalize ((((wr.setCell ⟨w.heap.size,0,none⟩ (.int .i64 0)).setCell ⟨w.heap.size,1,none⟩ (.int .i64 0)).setCell ⟨w.heap.size,2,none⟩ (.int .u64 0)).setCell ⟨w.heap.size,3,none⟩ (.string ⟨#[]⟩)) =wz at Y B⊢;have ce:=bC Y.out;have fe:=bF Y.out;have ze:=lB Y.out;exact bR (v:=.tuple #[.agg #[.int .i64 0,.int .i64 0,.int .u64 0,.string ⟨#[]⟩],.int .i64 11]) (by simp only [results,Tryz.results62];go_simp) rfl (LtPost.no HE.out B.out)
  have HE:=LH (HQ2.out.trans (if_neg h6));have h6i:decide ((n:Int) < (u.length:Int)) =false:=by simp;omega
  clear HQ2;have hcv:IntKind.u64.wrap (c:Int) = (c:Int):=wrap_u64s (by omega) (by omega);have cx:=bC RR.out.x;have fx:=bF RR.out.x;have zx:=lB RR.out.x;have Y:=LH (lt_store RR.out.x (.int .i64 a) (.int .i64 b) (.int .u64 c) (.string ⟨u.toArray⟩));have B:=LH (lt_below RR.out.b (q:=w.heap.size) (Nat.le_refl _) (.int .i64 a) (.int .i64 b) (.int .u64 c) (.string ⟨u.toArray⟩));go_wp2_with fail;clear cx fx zx ca fa za;generalize ((((wr.setCell ⟨w.heap.size,0,none⟩ (.int .i64 a)).setCell ⟨w.heap.size,1,none⟩ (.int .i64 b)).setCell ⟨w.heap.size,2,none⟩ (.int .u64 c)).setCell ⟨w.heap.size,3,none⟩ (.string ⟨u.toArray⟩)) =wz at Y B⊢;have ce:=bC Y.out;have fe:=bF Y.out;have ze:=lB Y.out;exact bR (v:=.tuple #[.agg #[.int .i64 a,.int .i64 b,.int .u64 c,.string ⟨u.toArray⟩],.int .i64 0]) (by simp only [results,Tryz.results62];go_simp) rfl (LtPost.ok HE.out B.out)
def FallsPost (s:List UInt8) (most:Int) (w:World) (e:Ending) (w':World) :Prop:=
 ∃A c,e=.returned (.tuple #[.slice A (fallB s most).1.length c,.int .i64 (fallB s most).2.1,.int .i64 (fallB s most).2.2])∧Own w' w.heap.size 3 encZ (.slice A (fallB s most).1.length c) (fallB s most).1∧Below w.heap.size w w'
theorem fallF_step (s:List UInt8) (m last a:Nat) (out:List Int) :fallF s (m+1) last a out=
 if (getB (s.drop a)).2.2≠0 then ([],0,(getB (s.drop a)).2.2) else if (getB (s.drop a)).1=0∨9223372036854775807 - last< (getB (s.drop a)).1 then ([],0,10) else fallF s m (last+ (getB (s.drop a)).1) (a+ (getB (s.drop a)).2.1) (out ++ [((last+ (getB (s.drop a)).1:Nat) :Int)]):=rfl
theorem fallB_at (s:List UInt8) (most:Int) :fallB s most=if (getB s).2.2≠0 then ([],0,(getB s).2.2) else if most< ((getB s).1:Int) then ([],0,13) else fallF s (getB s).1 0 (getB s).2.1 []:=rfl
theorem FallsPost.of {s:List UInt8} {most:Int} {w w':World} {A:Option Addr} {c:Nat} {R:List Int×Nat×Int} (h:R=fallB s most) (ho:Own w' w.heap.size 3 encZ (.slice A R.1.length c) R.1) (hb:Below w.heap.size w w') :
 FallsPost s most w (.returned (.tuple #[.slice A R.1.length c,.int .i64 R.2.1,.int .i64 R.2.2])) w':=by
 subst h;exact⟨A,c,rfl,ho,hb⟩
theorem FallsPost.no {s:List UInt8} {most:Int} {w w':World} {er:Int} (h:fallB s most= ([],0,er)) (hb:Below w.heap.size w w') :
 FallsPost s most w (.returned (.tuple #[.slice none 0 0,.int .i64 0,.int .i64 er])) w':=FallsPost.of (A:=none) (c:=0) h.symm (Own.nil _ _ _ _) hb
theorem and_127: ∀x:Fin 256,x.val &&& 127=x.val % 128:=by decide
theorem byte_and (b:Nat) (hb:b<256) :bits BinOp.and IntKind.u8 (b:Int) 127= ((b % 128:Nat) :Int):=by
 have h:=(bits_nat .u8 8 (by decide) (fun n h0 h1=>by rw [IntKind.wrap_u8];omega) b 127 (by omega) (by decide)).1;rw [show ((127:Int)) = ((127:Nat) :Int) from rfl,h,and_127 ⟨b,hb⟩]
theorem pow_128 (q:Nat) : (2:Nat) ^ (7*q) =128^q:=by rw [Nat.pow_mul]
theorem shl_128 {q x:Nat} (h:q≤8) (hx:x≤127) :wrap64 ((x:Int) *2^ (7*q)) = ((x*128^q:Nat) :Int):=by
 have e2: (2:Int) ^ (7*q) = ((128^q:Nat) :Int):=by rw [←pow_128];norm_cast
 rw [e2];exact(p128_mul h hx).1
theorem or_128q {q x acc:Nat} (h:q≤8) (hx:x≤127) (ha:acc<128^q) :bits BinOp.or IntKind.i64 (acc:Int) ((x*128^q:Nat) :Int) = ((acc+x*128^q:Nat) :Int):=by
 have h1:=p128 h;have h2:=(p128_mul h hx).2;rw [(bits_nat .i64 63 (by decide) (fun n h0 h1=>by rw [IntKind.wrap_i64];omega) acc (x*128^q) (by omega) (by omega)).2]
 congr 1
 rw [←pow_128] at ha⊢;rw [Nat.add_comm,Nat.mul_comm,Nat.or_comm,Nat.two_pow_add_eq_or_of_lt ha]
theorem vary_Get (w:World) (s:List UInt8) (hs:s.length≤1000000000) :
 Calls Tryz.prog 177 #[.string ⟨s.toArray⟩] w (GetPost s w):=by
 unfold GetPost
 go_enter Tryz.func177,Tryz.ntmps177
 go_wp2_with fail
 go_step3
 go_wp2_with fail
 go_step3
 go_wp2_with fail
 go_loopw [2,5] (fun n i wr=>∃(q acc:Nat),i=.int .i64 q∧q≤9∧q≤s.length∧n=.int .i64 acc∧acc<128^q∧getF q acc (s.drop q) =getB s∧Below w.heap.size w wr) (fun _ i _=>9 - (intOf i).toNat)
 case atStart=>exact⟨0,0,rfl,by omega,by omega,rfl,by decide,rfl,Below.refl _ _⟩
 case round=>
  obtain⟨q,acc,rfl,hq,hql,rfl,hacc,hg,hB⟩:=hrel;have HB:=LH hB;have HG:=LH hg;clear hg hB;by_cases h9:q<9
  ·have h9i: ((q:Int) == 9) =false:=by simp;omega
   by_cases hl:q<s.length
   ·have hne: ((q:Int) == (s.length:Int)) =false:=by simp;omega
    have hix:=fun W=>text_at W s q hl;have hd:s.drop q=s[q] :: s.drop (q+1):=List.drop_eq_getElem_cons hl;rw [hd] at HG;have hbl: (s[q]).toNat<256:=(s[q]).toNat_lt;clear hd;generalize s[q] =y at HG hbl hix;have HY:=LH (And.intro (getF_last (a:=q) (acc:=acc) (b:=y) (t:=s.drop (q+1)) h9) (And.intro (getF_zero (a:=q) (acc:=acc) (b:=y) (t:=s.drop (q+1)) h9) (getF_more (a:=q) (acc:=acc) (b:=y) (t:=s.drop (q+1)) h9)));generalize y.toNat=b at hbl hix HY;by_cases hb:b<128
    ·have hbi:decide ((b:Int) <128) =true:=by simp;omega
     by_cases h0:0<q∧b=0
     ·have HE:=LH ((HY.out.2.1 hb h0).symm.trans HG.out)
      obtain⟨h1,rfl⟩:=h0;have h1i: (0:Int) < (q:Int):=by omega
      clear HY HG;go_wp2_with fail;rw [Exit.noGoto_ret];exact bR (v:=.tuple #[.int .i64 0,.int .i64 0,.int .i64 10]) (by simp only [results,Tryz.results177];go_simp) rfl ⟨by rw [←HE.out];rfl,HB.out⟩
     ·have HE:=LH ((HY.out.1 hb h0).symm.trans HG.out)
      have hm:=shl_128 (q:=q) (x:=b) (by omega) (by omega);have ha:=or_128q (q:=q) (acc:=acc) (x:=b) (by omega) (by omega) hacc;have hm2:=(p128_sum (a:=q) (acc:=acc) (x:=b) (by omega) (by omega) hacc).2;clear HY HG hm2;generalize b*128^q=bp at hm ha HE;generalize 128^q=p at hacc;clear hacc;rcases Nat.eq_zero_or_pos q with h1|h1
      ·have h2:decide (0<q) =false:=by simp;omega
       have H1:=LH h1;clear h0 h1;go_wp2_with fail;rw [Exit.noGoto_ret];exact bR (v:=.tuple #[.int .i64 ((acc:Int) + (bp:Int)),.int .i64 ((q:Int) +1),.int .i64 0]) (by simp only [results,Tryz.results177];go_simp) rfl ⟨by rw [←HE.out];simp,HB.out⟩
      ·have hb0:b≠0:=fun e=>h0 ⟨h1,e⟩
       have h2: ((b:Int) == 0) =false:=by simp;omega
       clear h0;go_wp2_with fail;rw [Exit.noGoto_ret];exact bR (v:=.tuple #[.int .i64 ((acc:Int) + (bp:Int)),.int .i64 ((q:Int) +1),.int .i64 0]) (by simp only [results,Tryz.results177];go_simp) rfl ⟨by rw [←HE.out];simp,HB.out⟩
    ·have hbi:decide ((b:Int) <128) =false:=by simp;omega
     have HE:=LH ((HY.out.2.2 hb).symm.trans HG.out);obtain⟨x,hx⟩ : ∃x,b - 128=x:=⟨_,rfl⟩;rw [hx] at HE;have hx127:x≤127:=by omega
     have hxi:bits BinOp.and IntKind.u8 (b:Int) 127= (x:Int):=by rw [byte_and b hbl];omega
     have hm:=shl_128 (q:=q) (x:=x) (by omega) hx127;have ha:=or_128q (q:=q) (acc:=acc) (x:=x) (by omega) hx127 hacc;have HA:=LH (p128_sum (a:=q) (acc:=acc) (x:=x) (by omega) hx127 hacc).2;clear HY HG hx;obtain⟨acc2,hacc2⟩ : ∃z,z=acc+x*128^q:=⟨_,rfl⟩;rw [←hacc2] at ha HA HE;generalize x*128^q=bp at hm ha hacc2;generalize 128^q=p at hacc;clear hacc2 hacc;go_wp2_with fail;go_roundw
     case rel=>exact⟨q+1,acc2,by go_num,by omega,by omega,rfl,HA.out,HE.out,HB.out⟩
     case measure=>simp [intOf];omega
   ·obtain rfl:q=s.length:=by omega
    have hne: ((s.length:Int) == (s.length:Int)) =true:=by simp
    have HE:Hid (getB s= (0,0,9)):=LH (by rw [←HG.out,List.drop_length];exact getF_end h9 acc);go_wp2_with fail;rw [Exit.noGoto_ret];exact bR (v:=.tuple #[.int .i64 0,.int .i64 0,.int .i64 9]) (by simp only [results,Tryz.results177];go_simp) rfl ⟨by rw [HE.out];rfl,HB.out⟩
  ·obtain rfl:q=9:=by omega
   have HE:Hid (getB s= (0,0,10)):=LH (by rw [←HG.out];exact getF_nine acc _);go_wp2_with fail;rw [Exit.noGoto_ret];exact bR (v:=.tuple #[.int .i64 0,.int .i64 0,.int .i64 10]) (by simp only [results,Tryz.results177];go_simp) rfl ⟨by rw [HE.out];rfl,HB.out⟩
theorem vary_Falls (w:World) (s:List UInt8) (most:Int) (hs:s.length≤1000000000) (hm:most≤67108800) (hm0: -9223372036854775808≤most) :
 Calls Tryz.prog 308 #[.string ⟨s.toArray⟩,.int .i64 most] w (FallsPost s most w):=by
 have HGt:=LH (fun W (t:List UInt8) (h:t.length≤1000000000)=>vary_Get W t h);have HBd:=LH (getB_bounds s);have HF:=LH (fallB_at s most);have HG0:=LH (HGt.out w s hs);unfold GetPost at HG0;generalize getB s=G at HG0 HBd HF;obtain⟨many,a0,e0⟩:=G;dsimp only at HG0 HBd HF
 go_enter Tryz.func308,Tryz.ntmps308
 go_wp2_with fail;refine HG0.out.mono ?_;rintro e w1 ⟨rfl,hb1⟩;have HB1:=LH hb1;clear hb1;by_cases h1:e0=0
 ·subst h1
  have HF1:Hid (fallB s most=if most< (many:Int) then ([],0,13) else fallF s many 0 a0 []):=LH (by rw [HF.out,if_neg (by simp)]);clear HF;by_cases h2:most< (many:Int)
  ·have HE:Hid (fallB s most= ([],0,13)):=LH (by rw [HF1.out,if_pos h2])
   go_wp2_with fail;exact bR (v:=.tuple #[.slice none 0 0,.int .i64 0,.int .i64 13]) (by simp only [results,Tryz.results308];go_simp) rfl (FallsPost.no HE.out HB1.out)
  ·have HE:Hid (fallF s many 0 a0 [] =fallB s most):=LH (by rw [HF1.out,if_neg h2])
   have h2i:decide (most< (many:Int)) =false:=by simpa using h2
   have ha0:a0≤s.length:=HBd.out.2.2.1;have hmy:many≤67108800:=by omega
   clear HF1 HBd HG0;go_wp2_with fail
   go_loopw [8,10,11,30] (fun av u lv i wr=>∃(q a last:Nat) (out:List Int),i=.int .i64 q∧q≤many∧av=.int .i64 a∧a≤s.length∧lv=.int .i64 last∧last≤9223372036854775807∧out.length=q∧fallF s (many - q) last a out=fallB s most∧Own wr w.heap.size 3 encZ u out∧Below w.heap.size w wr) (fun _ _ _ i _=>many - (intOf i).toNat)
   case atStart=>exact⟨0,a0,0, [],rfl,Nat.zero_le _,rfl,ha0,rfl,by omega,rfl,HE.out,Own.nil _ _ _ _,HB1.out⟩
   case round=>
    obtain⟨q,a,last,out,rfl,hq,rfl,ha,rfl,hla,hol,hF,ho,hB⟩:=hrel;obtain⟨A,co,rfl,_⟩:=ho.form;have HO:=LH ho;have HB:=LH hB;have sz:=hB.size;have HL:=LH hol;have HF:=LH hF;clear ho hB hol hF;by_cases hlt:q<many
    ·have hqi: (q:Int) < (many:Int):=by omega
     obtain⟨m,hmq⟩ : ∃m,many - q=m+1:=⟨many - q - 1,by omega⟩;rw [hmq,fallF_step] at HF;have HMq:=LH hmq;have htd:=text_drop s a;have hdl: (s.drop a).length=s.length - a:=by simp
     have HG1:=LH (HGt.out wr (s.drop a) (by omega));unfold GetPost at HG1;have HBd:=LH (getB_bounds (s.drop a));rw [hdl] at HBd;clear hmq hdl;generalize getB (s.drop a) =G at HF HG1 HBd;obtain⟨n,z,er⟩:=G;dsimp only at HF HG1 HBd;go_wp2_with fail;refine HG1.out.mono ?_;rintro e w2 ⟨rfl,hb2⟩;have HO2:=LH (HO.out.below hb2);have HB2:=LH (HB.out.trans (hb2.mono sz));have sz2:=hb2.size;clear hb2 HG1 HO;by_cases h1:er=0
     ·subst h1
      rw [if_neg (by simp)] at HF;have hn9:=HBd.out.1;have hz:=HBd.out.2.2.1;by_cases h0:n=0
      ·subst h0
       rw [if_pos (.inl rfl)] at HF;go_wp2_with fail;exact bR (v:=.tuple #[.slice none 0 0,.int .i64 0,.int .i64 10]) (by simp only [results,Tryz.results308];go_simp) rfl (FallsPost.no HF.out.symm HB2.out)
      ·have h0i: ((n:Int) == 0) =false:=by simp;omega
       have hwl:wrap64 (9223372036854775807 - (last:Int)) =9223372036854775807 - (last:Int):=by unfold wrap64;omega
       by_cases h3:9223372036854775807 - last<n
       ·rw [if_pos (.inr h3)] at HF
        have h3i:decide (9223372036854775807 - (last:Int) < (n:Int)) =true:=by simp;omega
        go_wp2_with fail;exact bR (v:=.tuple #[.slice none 0 0,.int .i64 0,.int .i64 10]) (by simp only [results,Tryz.results308];go_simp) rfl (FallsPost.no HF.out.symm HB2.out)
       ·rw [if_neg (by omega)] at HF
        have h3i:decide (9223372036854775807 - (last:Int) < (n:Int)) =false:=by simp;omega
        obtain⟨nx,hnx⟩ : ∃x:Nat,x=last+n:=⟨_,rfl⟩;obtain⟨ax,hax⟩ : ∃x:Nat,x=a+z:=⟨_,rfl⟩;rw [←hnx,←hax] at HF;have hw1: (last:Int) + (n:Int) = (nx:Int):=by omega
        have hw2: (a:Int) + (z:Int) = (ax:Int):=by omega
        have hxs:ax≤s.length:=by omega
        have hnx9:nx≤9223372036854775807:=by omega
        have hol:out.length≤67108800:=by rw [HL.out];omega
        clear hnx hax;go_wp2_with ((at_builtin;go_loud (refine wpList_push tyZ rfl _ _ rfl encZ w2 w.heap.size (.slice A out.length co) out rfl HO2.out (nx:Int) (by go_simp) (by simp [encZ,hw1]) ?c1 ?c2 ?c3 ?c4)))
        case c1=>omega
        case c2=>unfold maxLen;omega
        case c3=>omega
        case c4=>
         intro v' w' ho' _ _ _ hb' _;have HO3:=LH ho';have HB3:=LH (HB2.out.trans hb');have hsz:=hb'.size;clear ho' hb';go_wp2_with fail;go_roundw
         case rel=>exact⟨q+1,ax,nx,out ++ [(nx:Int)],by go_num,by omega,rfl,hxs,rfl,hnx9,by simp [HL.out],by rw [show many - (q+1) =m by have:=HMq.out;omega];exact HF.out,HO3.out,HB3.out⟩
         case measure=>simp [intOf];omega
     ·rw [if_pos h1] at HF
      have h1i: (er == 0) =false:=by simpa using h1
      go_wp2_with fail;exact bR (v:=.tuple #[.slice none 0 0,.int .i64 0,.int .i64 er]) (by simp only [results,Tryz.results308];go_simp) rfl (FallsPost.no HF.out.symm HB2.out)
    ·obtain rfl:q=many:=by omega
     have hqi:decide ((q:Int) < (q:Int)) =false:=by simp
     rw [Nat.sub_self] at HF;have HR:=LH (show (out,a,(0:Int)) =fallB s most from HF.out);clear HF;go_wp2_with fail;exact bR (v:=.tuple #[.slice A out.length co,.int .i64 a,.int .i64 0]) (by simp only [results,Tryz.results308];go_simp) rfl (FallsPost.of (R:=(out,a,0)) HR.out HO.out HB.out)
 ·have HE:Hid (fallB s most= ([],0,e0)):=LH (by rw [HF.out,if_pos h1])
  have h1i: (e0 == 0) =false:=by simpa using h1
  go_wp2_with fail;exact bR (v:=.tuple #[.slice none 0 0,.int .i64 0,.int .i64 e0]) (by simp only [results,Tryz.results308];go_simp) rfl (FallsPost.no HE.out HB1.out)
theorem crew_Of1 (w:World) (base:Nat) (v:Value) (i:Int) (ho:Own w base 3 encZ v [i]) :Calls Tryz.prog 178 #[v] w fun e w'=>e=.returned (.tuple #[.int .u64 (if isCrew i=true then withC 0 i else 0:Nat),.bool (isCrew i)])∧Below w.heap.size w w':=by
 obtain⟨A,c,rfl,_⟩:=ho.form;have HO:=LH (ho.base_le (Nat.zero_le _));clear ho
 go_enter Tryz.func178,Tryz.ntmps178
 go_wp2_with fail
 go_loopw [4,9] (fun u j wr=>∃q:Nat,j=.int .i64 q∧q≤1∧u=.int .u64 ((if q=0 then 0 else withC 0 i:Nat) :Int)∧(q=1→isCrew i=true)∧Below w.heap.size w wr) (fun _ j _=>1 - (intOf j).toNat)
 case atStart=>exact⟨0,rfl,by omega,rfl,by omega,Below.refl _ _⟩
 case round=>
  obtain⟨q,rfl,hq,rfl,hcr,hB⟩:=hrel;have HB:=LH hB;have HR:=LH (HO.out.below hB);have sz:=hB.size;clear hB;by_cases hlt:q=0
  ·subst hlt
   obtain⟨b,off,rfl,hb,hc⟩:=HR.out.sl.at_ (k:=0) (by simp);have d0:=hc 0 (.int .i64 i) rfl;simp only [Nat.zero_mul,Nat.add_zero] at d0;rw [if_pos rfl];clear hc hcr;go_wp2_with fail;refine(crew_is i _).mono ?_;rintro e w1 ⟨rfl,hb1⟩;have HB1:=LH (HB.out.trans (hb1.mono sz));clear hb1
   cases hi:isCrew i
   ·go_wp2_with fail
    all_goals exact bR (v:=.tuple #[.int .u64 0,.bool false]) (by simp only [results,Tryz.results178];go_simp) rfl ⟨by simp [hi],HB1.out⟩
   ·go_wp2_with fail
    refine(crew_With 0 i (by decide) _).mono ?_;rintro e w2 ⟨rfl,hb2⟩;have HB2:=LH (HB1.out.trans (hb2.mono HB1.out.size));clear hb2;go_wp2_with fail;go_roundw
    case rel=>exact⟨1,by go_num,by omega,rfl,fun _=>hi,HB2.out⟩
    case measure=>simp [intOf]
  ·obtain rfl:q=1:=by omega
   have hi:=hcr rfl;rw [if_neg (by decide)];go_wp2_with fail
   all_goals exact bR (v:=.tuple #[.int .u64 (withC 0 i:Nat),.bool true]) (by simp only [results,Tryz.results178];go_simp) rfl ⟨by simp [hi],HB.out⟩
def magL (t:List UInt8) :Bool:=decide (4≤t.length) && decide (t.take 4= [68,87,76,1])
def cutT (t:List UInt8) :List UInt8:=if magL t=true then t.drop 4 else t
theorem lite_HasPrefix (w:World) (t:List UInt8) :Calls Tryz.prog 269 #[.string ⟨t.toArray⟩,.string ⟨#[68,87,76,1]⟩] w fun e w'=>e=.returned (.bool (magL t))∧Below w.heap.size w w':=by
 have htt:=text_take t 4;unfold magL;by_cases h1:4≤t.length
 ·have h1d:decide (4≤t.length) =true:=by simpa using h1
  have h1i: (4:Int)≤(t.length:Int):=by omega
  rw [h1d,Bool.true_and];have HV:Hid (decide (t.take 4= [68,87,76,1]) = (t.take 4 == [68,87,76,1])):=LH (by rw [Bool.eq_iff_iff];simp);rw [HV.out];generalize t.take 4=t4 at htt⊢
  go_enter Tryz.func269,Tryz.ntmps269
  go_wp2_with fail;exact bR (v:=.bool (t4 == [68,87,76,1])) (by simp only [results,Tryz.results269];go_simp) rfl ⟨rfl,Below.refl _ _⟩
 ·have h1d:decide (4≤t.length) =false:=by simpa using h1
  have h1i:decide ((4:Int)≤(t.length:Int)) =false:=by simp;omega
  rw [h1d,Bool.false_and]
  go_enter Tryz.func269,Tryz.ntmps269
  go_wp2_with fail;exact bR (v:=.bool false) (by simp only [results,Tryz.results269];go_simp) rfl ⟨rfl,Below.refl _ _⟩
theorem strings_CutPrefix (w:World) (t:List UInt8) :Calls Tryz.prog 175 #[.string ⟨t.toArray⟩,.string ⟨#[68,87,76,1]⟩] w fun e w'=>e=.returned (.tuple #[.string ⟨(cutT t).toArray⟩,.bool (magL t)])∧Below w.heap.size w w':=by
 have HL:Hid (∀W,Calls Tryz.prog 222 #[.string ⟨t.toArray⟩,.string ⟨#[68,87,76,1]⟩] W fun e w'=>e=.returned (.tuple #[.string ⟨(cutT t).toArray⟩,.bool (magL t)])∧Below W.heap.size W w'):=LH (fun W=>by
  have HP:=LH (fun W=>lite_HasPrefix W t);have htd:=text_drop t 4;have hm4:magL t=true→4≤t.length:=fun h=>by unfold magL at h;simp only [Bool.and_eq_true,decide_eq_true_eq] at h;exact h.1
  unfold cutT
  cases hm:magL t
  ·rw [hm] at HP
   rw [if_neg (by simp)];clear hm hm4
   go_enter Tryz.func222,Tryz.ntmps222
   go_wp2_with fail;refine(HP.out W).mono ?_;rintro e w1 ⟨rfl,hb1⟩;go_wp2_with fail;exact bR (v:=.tuple #[.string ⟨t.toArray⟩,.bool false]) (by simp only [results,Tryz.results222];go_simp) rfl ⟨rfl,hb1⟩
  ·have h4:=hm4 hm
   rw [hm] at HP;rw [if_pos rfl];clear hm hm4;generalize t.drop 4=d at htd⊢
   go_enter Tryz.func222,Tryz.ntmps222
   go_wp2_with fail;refine(HP.out W).mono ?_;rintro e w1 ⟨rfl,hb1⟩;go_wp2_with fail;exact bR (v:=.tuple #[.string ⟨d.toArray⟩,.bool true]) (by simp only [results,Tryz.results222];go_simp) rfl ⟨rfl,hb1⟩)
 generalize cutT t=d at HL⊢;generalize magL t=z at HL⊢
 go_enter Tryz.func175,Tryz.ntmps175
 go_wp2_with fail;refine(HL.out w).mono ?_;rintro e w1 ⟨rfl,hb1⟩;go_wp2_with fail;exact bR (v:=.tuple #[.string ⟨d.toArray⟩,.bool z]) (by simp only [results,Tryz.results175];go_simp) rfl ⟨rfl,hb1⟩
structure LdS (w:World) (pe pf pl px:Nat) (e:Int) (left:List UInt8) (cs:Array Value) (W:World) :Prop where
 r:W.heap[w.heap.size]? =some (.cells #[.int .i64 0,.int .i64 0,.int .u64 0,.string ⟨#[]⟩] 183 (0,0))
 e:W.heap[pe]? =some (.cells #[.int .i64 e] 38 (0,0))
 f:W.heap[pf]? =some (.cells #[.func (.func 174) #[] #[.pointer (some ⟨pe,0,none⟩)]] 236 (0,0))
 l:W.heap[pl]? =some (.cells #[.string ⟨left.toArray⟩] 9 (0,0))
 x:W.heap[px]? =some (.cells cs 183 (0,0))
 b:Below w.heap.size w W
 h1:w.heap.size<pe
 h2:pe<pf
 h3:pf<pl
 h4:pl<px
section
variable {w W W':World} {pe pf pl px:Nat} {e e2:Int} {left left2:List UInt8} {cs:Array Value}
theorem LdS.below (h:LdS w pe pf pl px e left cs W) (hb:Below W.heap.size W W') :LdS w pe pf pl px e left cs W':=
 ⟨bB h.r hb,bB h.e hb,bB h.f hb,bB h.l hb,bB h.x hb,h.b.trans (hb.mono h.b.size),h.h1,h.h2,h.h3,h.h4⟩
theorem LdS.setE (h:LdS w pe pf pl px e left cs W) :LdS w pe pf pl px e2 left cs (W.setCell ⟨pe,0,none⟩ (.int .i64 e2)):=by
 have q1:=h.h1;have q2:=h.h2;have q3:=h.h3;have q4:=h.h4;exact⟨(Below.heap_setCell _ _ _ _ (by simp;omega)).trans h.r,zH (i:=0) h.e _,(Below.heap_setCell _ _ _ _ (by simp;omega)).trans h.f,(Below.heap_setCell _ _ _ _ (by simp;omega)).trans h.l,(Below.heap_setCell _ _ _ _ (by simp;omega)).trans h.x,h.b.setCell (p:=⟨pe,0,none⟩) (by simp;omega) _,q1,q2,q3,q4⟩
theorem LdS.setL (h:LdS w pe pf pl px e left cs W) :LdS w pe pf pl px e left2 cs (W.setCell ⟨pl,0,none⟩ (.string ⟨left2.toArray⟩)):=by
 have q1:=h.h1;have q2:=h.h2;have q3:=h.h3;have q4:=h.h4;exact⟨(Below.heap_setCell _ _ _ _ (by simp;omega)).trans h.r,(Below.heap_setCell _ _ _ _ (by simp;omega)).trans h.e,(Below.heap_setCell _ _ _ _ (by simp;omega)).trans h.f,zH (i:=0) h.l _,(Below.heap_setCell _ _ _ _ (by simp;omega)).trans h.x,h.b.setCell (p:=⟨pl,0,none⟩) (by simp;omega) _,q1,q2,q3,q4⟩
theorem LdS.setX (h:LdS w pe pf pl px e left cs W) (i:Nat) (u:Value) :LdS w pe pf pl px e left (cs.setIfInBounds i u) (W.setCell ⟨px,i,none⟩ u):=by
 have q1:=h.h1;have q2:=h.h2;have q3:=h.h3;have q4:=h.h4;exact⟨(Below.heap_setCell _ _ _ _ (by simp;omega)).trans h.r,(Below.heap_setCell _ _ _ _ (by simp;omega)).trans h.e,(Below.heap_setCell _ _ _ _ (by simp;omega)).trans h.f,(Below.heap_setCell _ _ _ _ (by simp;omega)).trans h.l,zH (i:=i) h.x _,h.b.setCell (p:=⟨px,i,none⟩) (by simp;omega) _,q1,q2,q3,q4⟩
def noteE (e:Int) (b:Bool) (f:Int) :Int:=if b=true∧e=0 then f else e
theorem let_fail (h:LdS w pe pf pl px e left cs W) (b:Bool) (f:Int) :Calls Tryz.prog 174 #[.bool b,.int .i64 f,.pointer (some ⟨pe,0,none⟩)] W fun en W'=>en=.returned (.tuple #[])∧LdS w pe pf pl px (noteE e b f) left cs W':=by
 have HS:=LH h;have ce:=bC h.e;have fe:=bF h.e;have ze:=lB h.e;clear h;unfold noteE
 cases b
 ·rw [if_neg (by simp)]
  go_enter Tryz.func174,Tryz.ntmps174
  go_wp2_with fail
  first|go_end0|skip
  exact⟨rfl,HS.out⟩
 ·by_cases h0:e=0
  ·rw [if_pos ⟨rfl,h0⟩]
   have h0i: (e == 0) =true:=by simpa using h0
   clear h0;have HE:=LH (HS.out.setE (e2:=f))
   go_enter Tryz.func174,Tryz.ntmps174
   go_wp2_with fail
   first|go_end0|skip
   exact⟨rfl,HE.out⟩
  ·rw [if_neg (fun h=>h0 h.2)]
   have h0i: (e == 0) =false:=by simpa using h0
   clear h0
   go_enter Tryz.func174,Tryz.ntmps174
   go_wp2_with fail
   first|go_end0|skip
   exact⟨rfl,HS.out⟩
def numT (e:Int) (left:List UInt8) :Nat×Int×List UInt8:=if e=0 then ((getB left).1,(getB left).2.2,left.drop (getB left).2.1) else (0,e,left)
theorem let_number (h:LdS w pe pf pl px e left cs W) (hl:left.length≤1000000000) :Calls Tryz.prog 176 #[.pointer (some ⟨pe,0,none⟩),.pointer (some ⟨pl,0,none⟩),.pointer (some ⟨pf,0,none⟩)] W fun en W'=>en=.returned (.int .i64 (numT e left).1)∧LdS w pe pf pl px (numT e left).2.1 (numT e left).2.2 cs W':=by
 have HS:=LH h;have ce:=bC h.e;have fe:=bF h.e;have ze:=lB h.e;unfold numT;by_cases h0:e=0
 ·rw [if_pos h0]
  subst h0;have cl:=bC h.l;have zl:=lB h.l;clear h;have HG:=LH (vary_Get W left hl);unfold GetPost at HG;have HBd:=LH (getB_bounds left);have htd:=text_drop left (getB left).2.1;generalize left.drop (getB left).2.1=left2 at htd⊢;generalize getB left=G at HG htd HBd⊢;obtain⟨n,z,er⟩:=G;dsimp only at HG htd HBd⊢;have hz:=HBd.out.2.2.1
  go_enter Tryz.func176,Tryz.ntmps176
  go_wp2_with fail;refine HG.out.mono ?_;rintro en w1 ⟨rfl,hb1⟩;have S1:=LH (HS.out.below hb1);clear hb1 ce fe ze cl zl HG;have cf:=bC S1.out.f;have zf:=lB S1.out.f;have HF:=LH (fun b f=>let_fail S1.out b f)
  have HN:Hid (noteE 0 (er != 0) er=er):=LH (by
   unfold noteE;by_cases h:er=0
   ·rw [h];simp
   ·rw [if_pos ⟨by simpa using h,rfl⟩])
  go_wp2_with fail;refine(HF.out (er != 0) er).mono ?_;rintro en w2 ⟨rfl,hs2⟩;rw [HN.out] at hs2;have S2:=LH hs2;clear hs2 cf zf HF S1;have cl:=bC S2.out.l;have zl:=lB S2.out.l;have fl:=bF S2.out.l;have S3:=LH (S2.out.setL (left2:=left2));go_wp2_with fail;exact bR (v:=.int .i64 n) (by simp only [results,Tryz.results176];go_simp) rfl ⟨rfl,S3.out⟩
 ·rw [if_neg h0]
  have h0i: (e == 0) =false:=by simpa using h0
  clear h h0
  go_enter Tryz.func176,Tryz.ntmps176
  go_wp2_with fail;exact bR (v:=.int .i64 0) (by simp only [results,Tryz.results176];go_simp) rfl ⟨rfl,HS.out⟩
end
def withinC (a b:Nat) :Bool:=bits BinOp.andNot IntKind.u64 (a:Int) (b:Int) == 0
theorem crew_Within (w:World) (a b:Nat) :Calls Tryz.prog 180 #[.int .u64 a,.int .u64 b] w fun e w'=>e=.returned (.bool (withinC a b))∧Below w.heap.size w w':=by
 unfold withinC
 go_enter Tryz.func180,Tryz.ntmps180
 go_wp2_with fail;exact bR (v:=.bool (bits BinOp.andNot IntKind.u64 (a:Int) (b:Int) == 0)) (by simp only [results,Tryz.results180];go_simp) rfl ⟨rfl,Below.refl _ _⟩
theorem within_one {c:Nat} {b:Nat} (hc:c<2^64) (hb:isCrew (b:Int) =true) :withinC (withC 0 (b:Int)) c=hasC c (b:Int):=by
 obtain⟨n,hn,hn48⟩:=isCrew_nat hb;obtain rfl:b=n:=by omega
 have hp:=pow_crew hn48
 have e:withC 0 (b:Int) =2^b:=by
  unfold withC;rw [if_pos hb,Int.toNat_natCast,if_neg (by simp [hasN])];simp
 rw [e];unfold withinC hasC hasN;rw [hb,Bool.true_and,Int.toNat_natCast]
 have h1:bits BinOp.andNot IntKind.u64 ((2^b:Nat) :Int) (c:Int) = ((if c.testBit b=true then 0 else 2^b:Nat) :Int):=by
  simp only [bits,BitVec.ofInt_natCast]
  have e2: ((BitVec.ofNat 64 (2^b)) &&& ~~~(BitVec.ofNat 64 c)).toNat=if c.testBit b=true then 0 else 2^b:=by
   apply Nat.eq_of_testBit_eq
   intro j;rw [←BitVec.getLsbD,BitVec.getLsbD_and,BitVec.getLsbD_not,BitVec.getLsbD_ofNat,BitVec.getLsbD_ofNat,Nat.testBit_two_pow];by_cases hj:b=j
   ·subst hj
    have h64:decide (b<64) =true:=by simp;omega
    rw [h64]
    cases hcb:c.testBit b <;> simp
   ·have hjd:decide (b=j) =false:=by simpa using hj
    rw [hjd]
    cases hcb:c.testBit b
    ·simp [Nat.testBit_two_pow,hj]
    ·simp
  show IntKind.u64.wrap _=_
  rw [show IntKind.u64.bits=64 from rfl,e2];rw [wrap_u64s (by omega) (by split <;> omega)]
 rw [h1];have ht:decide (c / 2^b % 2=1) =c.testBit b:=by rw [Nat.testBit_eq_decide_div_mod_eq]
 rw [ht]
 cases hcb:c.testBit b
 ·rw [if_neg (by simp)]
  have: ((2^b:Nat) :Int)≠0:=by omega
  simpa using this
 ·rw [if_pos rfl]
  rfl
def ownC (b:Nat) :Nat:=if isCrew (b:Int) =true then withC 0 (b:Int) else 0
def p3 (a b c n:Nat) (e:Int) (left:List UInt8) :Ltr×Int:=
 let e3:=noteE (noteE (noteE e (decide (1048576<n)) 13) (decide (left.length<n)) 9) (decide (n<left.length)) 11
 if e3≠0 then noL e3 else (⟨a,b,c,left⟩,0)
def p2 (a b c:Nat) (e:Int) (left:List UInt8) :Ltr×Int:=p3 a b c (numT e left).1 (numT e left).2.1 (numT e left).2.2
def p1 (a b:Nat) (e:Int) (left:List UInt8) :Ltr×Int:=p2 a b (numT e left).1 (noteE (numT e left).2.1 (!rightC (numT e left).1 || !withinC (ownC b) (numT e left).1) 10) (numT e left).2.2
def p0 (a:Nat) (e:Int) (left:List UInt8) :Ltr×Int:=p1 a (numT e left).1 (noteE (numT e left).2.1 (!isCrew ((numT e left).1:Int)) 10) (numT e left).2.2
def pS (e:Int) (left:List UInt8) :Ltr×Int:=p0 (numT e left).1 (numT e left).2.1 (numT e left).2.2
def decP (s:List UInt8) :Ltr×Int:=pS (noteE (noteE (openT s).2 (decide ((openT s).1.length<4)) 9) (!magL (openT s).1) 10) (cutT (openT s).1)
theorem note_ne {e f:Int} {b:Bool} (h:e≠0) :noteE e b f=e:=by unfold noteE;rw [if_neg (fun x=>h x.2)]
theorem note_zero {b:Bool} {f:Int} :noteE 0 b f=if b=true then f else 0:=by unfold noteE;simp
theorem num_ne {e:Int} {left:List UInt8} (h:e≠0) :numT e left= (0,e,left):=by unfold numT;rw [if_neg h]
theorem num_zero {left:List UInt8} :numT 0 left= ((getB left).1,(getB left).2.2,left.drop (getB left).2.1):=by unfold numT;rw [if_pos rfl]
theorem p3_ne {a b c n:Nat} {e:Int} {left:List UInt8} (h:e≠0) :p3 a b c n e left=noL e:=by
 unfold p3;simp only [note_ne h];rw [if_pos h]
theorem p2_ne {a b c:Nat} {e:Int} {left:List UInt8} (h:e≠0) :p2 a b c e left=noL e:=by unfold p2;rw [num_ne h];exact p3_ne h
theorem p1_ne {a b:Nat} {e:Int} {left:List UInt8} (h:e≠0) :p1 a b e left=noL e:=by unfold p1;rw [num_ne h];dsimp only;rw [note_ne h];exact p2_ne h
theorem p0_ne {a:Nat} {e:Int} {left:List UInt8} (h:e≠0) :p0 a e left=noL e:=by unfold p0;rw [num_ne h];dsimp only;rw [note_ne h];exact p1_ne h
theorem pS_ne {e:Int} {left:List UInt8} (h:e≠0) :pS e left=noL e:=by unfold pS;rw [num_ne h];exact p0_ne h
theorem p3_eq (a b c n:Nat) (left:List UInt8) :p3 a b c n 0 left=if 1048576<n then noL 13 else dl4 a b c n left:=by
 by_cases h1:1048576<n
 ·simp [p3,noteE,h1]
 ·by_cases h2:left.length<n
  ·simp [p3,dl4,noteE,h1,h2]
  ·by_cases h3:n<left.length
   ·simp [p3,dl4,noteE,h1,h2,h3]
   ·simp [p3,dl4,noteE,h1,h2,h3]
theorem p2_eq (a b c:Nat) (left:List UInt8) :p2 a b c 0 left=dl3 a b c (getB left) left:=by
 unfold p2 dl3;rw [num_zero];dsimp only;by_cases h: (getB left).2.2=0
 ·rw [if_neg (by simpa using h),h];exact p3_eq ..
 ·rw [if_pos (by simpa using h)];exact p3_ne h
theorem p1_eq {a b:Nat} (hb:isCrew (b:Int) =true) (left:List UInt8) :p1 a b 0 left=dl2 a b (getB left) left:=by
 unfold p1 dl2;rw [num_zero];dsimp only;have g:=(getB_bounds left).1;by_cases h: (getB left).2.2=0
 ·rw [if_neg (by simpa using h),h,note_zero]
  have hw:withinC (ownC b) (getB left).1=hasC (getB left).1 (b:Int):=by unfold ownC;rw [if_pos hb];exact within_one (by omega) hb
  rw [hw]
  cases h1:rightC (getB left).1 && hasC (getB left).1 (b:Int)
  ·rw [if_pos (by rw [←Bool.not_and,h1];rfl),if_pos rfl];exact p2_ne (by decide)
  ·rw [if_neg (by rw [←Bool.not_and,h1];simp),if_neg (by simp)];exact p2_eq ..
 ·rw [if_pos (by simpa using h),note_ne h];exact p2_ne h
theorem p0_eq (a:Nat) (left:List UInt8) :p0 a 0 left=dl1 a (getB left) left:=by
 unfold p0 dl1;rw [num_zero];dsimp only;by_cases h: (getB left).2.2=0
 ·rw [if_neg (by simpa using h),h,note_zero]
  cases h1:isCrew ((getB left).1:Int)
  ·rw [if_pos (by simp),if_pos rfl];exact p1_ne (by decide)
  ·rw [if_neg (by simp),if_neg (by simp)];exact p1_eq h1 _
 ·rw [if_pos (by simpa using h),note_ne h];exact p1_ne h
theorem pS_eq (left:List UInt8) :pS 0 left=dl0 (getB left) left:=by
 unfold pS dl0;rw [num_zero];dsimp only;by_cases h: (getB left).2.2=0
 ·rw [if_neg (by simpa using h),h];exact p0_eq ..
 ·rw [if_pos (by simpa using h)];exact p0_ne h
theorem decP_eq (s:List UInt8) :decP s=decL s:=by
 rw [decL_dl];unfold decP dlW;generalize openT s=o;by_cases h:o.2=0
 ·rw [if_neg (by simpa using h),h,note_zero]
  unfold magL cutT;by_cases h4:o.1.length<4
  ·rw [if_pos h4,if_pos (by simpa using h4),note_ne (by decide)];exact pS_ne (by decide)
  ·have h4d:decide (o.1.length<4) =false:=by simpa using h4
   have h4e:decide (4≤o.1.length) =true:=by simp;omega
   rw [if_neg h4,if_neg (by rw [h4d];simp),note_zero];unfold magL;rw [h4e,Bool.true_and];by_cases hm:o.1.take 4= [68,87,76,1]
   ·rw [decide_eq_true hm,if_neg (by simp),if_pos rfl,if_neg (fun h=>h hm)];exact pS_eq _
   ·rw [decide_eq_false hm,if_pos (by simp),if_pos hm];exact pS_ne (by decide)
 ·rw [if_pos (by simpa using h),note_ne h,note_ne h];exact pS_ne h
theorem numT_len (e:Int) (left:List UInt8) : (numT e left).2.2.length≤left.length∧(numT e left).1≤9223372036854775807:=by
 unfold numT
 split
 ·exact⟨by simp,(getB_bounds left).1⟩
 ·exact⟨Nat.le_refl _,by simp⟩
@[local go_sem] theorem run_store_funcW (P:Program) (w:World) (a:Addr) (m:Mode) (f:Fn) (ts:Array Value) (cs:Array Value) : (store a (.func f ts cs) m).run P w=stored P w a (.func f ts cs) m:=run_store P w a _ m rfl
def noteW (W:World) (pe:Nat) (e:Int) (b:Bool) (f:Int) :World:=if b=true∧e=0 then W.setCell ⟨pe,0,none⟩ (.int .i64 f) else W
theorem noteW_other {W:World} {pe q:Nat} {e f:Int} {b:Bool} (h:q≠pe) : (noteW W pe e b f).heap[q]? =W.heap[q]? :=by
 unfold noteW
 split
 ·exact Below.heap_setCell _ _ _ _ h
 ·rfl
theorem noteW_e {W:World} {pe:Nat} {e f:Int} {b:Bool} (h:W.heap[pe]? =some (.cells #[.int .i64 e] 38 (0,0))) : (noteW W pe e b f).heap[pe]? =some (.cells #[.int .i64 (noteE e b f)] 38 (0,0)):=by
 unfold noteW noteE
 split
 ·exact zH (i:=0) h _
 ·exact h
theorem noteW_below {w W:World} {pe:Nat} {e f:Int} {b:Bool} (h:Below w.heap.size w W) (hp:w.heap.size≤pe) :Below w.heap.size w (noteW W pe e b f):=by
 unfold noteW
 split
 ·exact h.setCell (p:=⟨pe,0,none⟩) hp _
 ·exact h
theorem let_fail0 {W:World} {pe:Nat} {e:Int} (h:W.heap[pe]? =some (.cells #[.int .i64 e] 38 (0,0))) (b:Bool) (f:Int) :Calls Tryz.prog 174 #[.bool b,.int .i64 f,.pointer (some ⟨pe,0,none⟩)] W fun en W'=>en=.returned (.tuple #[])∧W'=noteW W pe e b f:=by
 have ce:=bC h;have fe:=bF h;have ze:=lB h;clear h;unfold noteW
 cases b
 ·rw [if_neg (by simp)]
  go_enter Tryz.func174,Tryz.ntmps174
  go_wp2_with fail
  first|go_end0|skip
  exact⟨rfl,rfl⟩
 ·by_cases h0:e=0
  ·rw [if_pos ⟨rfl,h0⟩]
   have h0i: (e == 0) =true:=by simpa using h0
   clear h0
   go_enter Tryz.func174,Tryz.ntmps174
   go_wp2_with fail
   first|go_end0|skip
   exact⟨rfl,rfl⟩
  ·rw [if_neg (fun h=>h0 h.2)]
   have h0i: (e == 0) =false:=by simpa using h0
   clear h0
   go_enter Tryz.func174,Tryz.ntmps174
   go_wp2_with fail
   first|go_end0|skip
   exact⟨rfl,rfl⟩
theorem cutT_len (t:List UInt8) : (cutT t).length≤t.length:=by
 unfold cutT
 split
 ·rw [List.length_drop];omega
 ·exact Nat.le_refl _
theorem letl_store {W:World} {q:Nat} {a b c d:Value} (h:W.heap[q]? =some (.cells #[a,b,c,d] 183 (0,0))) (u v x y:Value) : ((((W.setCell ⟨q,0,none⟩ u).setCell ⟨q,1,none⟩ v).setCell ⟨q,2,none⟩ x).setCell ⟨q,3,none⟩ y).heap[q]? =some (.cells #[u,v,x,y] 183 (0,0)):=by
 have h0:=zH (i:=0) h u;have h1:=zH (i:=1) h0 v;have h2:=zH (i:=2) h1 x;exact zH (i:=3) h2 y
theorem letter_Decode (w:World) (s:List UInt8) (hs:s.length≤8000000) :
 Calls Tryz.prog 114 #[.string ⟨s.toArray⟩] w fun e w'=>e=.returned (.tuple #[ltrV (decL s).1,.int .i64 (decL s).2])∧Below w.heap.size w w':=by
 have HP0:=LH (show decL s=pS (noteE (noteE (openT s).2 (decide ((openT s).1.length<4)) 9) (!magL (openT s).1) 10) (cutT (openT s).1) from(decP_eq s).symm);have HOp:=LH (fun W=>seal_Open W s hs);unfold OpenPost at HOp;have hol:=openT_len s;generalize openT s=oo at HP0 HOp hol;obtain⟨t,e0⟩:=oo;dsimp only at HP0 HOp hol;have hts:t.length≤8000000:=by omega
 obtain⟨D,hD⟩ : ∃D,D=decL s:=⟨_,rfl⟩;rw [←hD] at HP0⊢;clear hol hs hD;have r0:=LH (heap_alloc_new w (.cells #[.int .i64 0,.int .i64 0,.int .u64 0,.string ⟨#[]⟩] 183));have b0:Hid (Below w.heap.size w (w.alloc (.cells #[.int .i64 0,.int .i64 0,.int .u64 0,.string ⟨#[]⟩] 183))):=LH bE
 go_enter Tryz.func114,Tryz.ntmps114
 go_upto_region 1 with fail;generalize w.alloc (.cells #[.int .i64 0,.int .i64 0,.int .u64 0,.string ⟨#[]⟩] 183) =W0 at r0 b0⊢;go_wp2_with fail;refine(HOp.out W0).mono ?_;rintro en w1 ⟨rfl,hb1⟩;have al:=hb1.trans (((Below.refl w1.heap.size w1).alloc (Nat.le_refl _) (.cells #[.int .i64 e0] 38)).mono hb1.size);have r1:=LH (bB r0.out al);have b1:=LH (Below.then_ b0.out al);have c1:=LH (heap_alloc_new w1 (.cells #[.int .i64 e0] 38));have hp1:w.heap.size<w1.heap.size:=by have h1:=lB r0.out;have h2:=hb1.size;omega
 clear hb1 al r0 b0 HOp;go_upto_region 2 with fail;obtain⟨pe,hpe⟩ : ∃q,q=w1.heap.size:=⟨_,rfl⟩;rw [←hpe] at c1 hp1⊢;generalize w1.alloc (.cells #[.int .i64 e0] 38) =w2 at r1 b1 c1⊢;clear hpe;have al:=(Below.refl w2.heap.size w2).alloc (Nat.le_refl _) (.cells #[.func (.func 174) #[] #[.pointer (some ⟨pe,0,none⟩)]] 236);have r2:=LH (bB r1.out al);have b2:=LH (Below.then_ b1.out al);have c2:=LH (bB c1.out al);have f2:=LH (heap_alloc_new w2 (.cells #[.func (.func 174) #[] #[.pointer (some ⟨pe,0,none⟩)]] 236));have hp2:pe<w2.heap.size:=lB c1.out;clear al r1 b1 c1;go_upto_region 3 with fail;obtain⟨pf,hpf⟩ : ∃q,q=w2.heap.size:=⟨_,rfl⟩;rw [←hpf] at f2 hp2⊢;generalize w2.alloc (.cells #[.func (.func 174) #[] #[.pointer (some ⟨pe,0,none⟩)]] 236) =w3 at r2 b2 c2 f2⊢;clear hpf;have cf:=bC f2.out;have zf:=lB f2.out;have HD4:Hid (decide ((t.length:Int) <4) =decide (t.length<4)):=LH (decide_eq_decide.2 (by omega));obtain⟨d4,hd4⟩ : ∃b,b=decide (t.length<4):=⟨_,rfl⟩;rw [←hd4] at HP0 HD4;clear hd4;have hd4i:=HD4.out;go_wp2_with fail;refine(let_fail0 c2.out d4 9).mono ?_;rintro en w4 ⟨rfl,rfl⟩;have r4:Hid ((noteW w3 pe e0 d4 9).heap[w.heap.size]? =some (.cells #[.int .i64 0,.int .i64 0,.int .u64 0,.string ⟨#[]⟩] 183 (0,0))):=LH ((noteW_other (by omega)).trans r2.out);have b4:=LH (noteW_below (pe:=pe) (e:=e0) (b:=d4) (f:=9) b2.out (by omega));have c4:=LH (noteW_e (b:=d4) (f:=9) c2.out);have f4:Hid ((noteW w3 pe e0 d4 9).heap[pf]? =some (.cells #[.func (.func 174) #[] #[.pointer (some ⟨pe,0,none⟩)]] 236 (0,0))):=LH ((noteW_other (by omega)).trans f2.out);generalize noteW w3 pe e0 d4 9=w4 at r4 b4 c4 f4⊢;obtain⟨e1,he1⟩ : ∃e,e=noteE e0 d4 9:=⟨_,rfl⟩;rw [←he1] at c4 HP0;clear he1 r2 b2 c2 f2 cf zf hd4i HD4;have HCu:=LH (strings_CutPrefix w4 t);obtain⟨l1,hl1⟩ : ∃l,l=cutT t:=⟨_,rfl⟩;have hl1n:l1.length≤8000000:=by rw [hl1];exact Nat.le_trans (cutT_len t) hts
 obtain⟨mg,hmg⟩ : ∃b,b=magL t:=⟨_,rfl⟩;rw [←hl1,←hmg] at HCu HP0;clear hl1 hmg;go_wp2_with fail;refine HCu.out.mono ?_;rintro en w5 ⟨rfl,hb5⟩;have al:=hb5.trans (((Below.refl w5.heap.size w5).alloc (Nat.le_refl _) (.cells #[.string ⟨l1.toArray⟩] 9)).mono hb5.size);have r6:=LH (bB r4.out al);have c6:=LH (bB c4.out al);have f6:=LH (bB f4.out al);have b6:=LH (Below.then_ b4.out al);have l6:=LH (heap_alloc_new w5 (.cells #[.string ⟨l1.toArray⟩] 9));have hp5:pf<w5.heap.size:=by have h1:=lB f4.out;have h2:=hb5.size;omega
 clear hb5 al r4 b4 c4 f4 HCu;go_upto_region 5 with fail;obtain⟨pl,hpl⟩ : ∃q,q=w5.heap.size:=⟨_,rfl⟩;rw [←hpl] at l6 hp5⊢;generalize w5.alloc (.cells #[.string ⟨l1.toArray⟩] 9) =w6 at r6 b6 c6 f6 l6⊢;clear hpl;have cf:=bC f6.out;have zf:=lB f6.out;go_wp2_with fail;refine(let_fail0 c6.out (!mg) 10).mono ?_;rintro en w7 ⟨rfl,rfl⟩;have r7:Hid ((noteW w6 pe e1 (!mg) 10).heap[w.heap.size]? =some (.cells #[.int .i64 0,.int .i64 0,.int .u64 0,.string ⟨#[]⟩] 183 (0,0))):=LH ((noteW_other (by omega)).trans r6.out);have b7:=LH (noteW_below (pe:=pe) (e:=e1) (b:= !mg) (f:=10) b6.out (by omega));have c7:=LH (noteW_e (b:= !mg) (f:=10) c6.out);have f7:Hid ((noteW w6 pe e1 (!mg) 10).heap[pf]? =some (.cells #[.func (.func 174) #[] #[.pointer (some ⟨pe,0,none⟩)]] 236 (0,0))):=LH ((noteW_other (by omega)).trans f6.out);have l7:Hid ((noteW w6 pe e1 (!mg) 10).heap[pl]? =some (.cells #[.string ⟨l1.toArray⟩] 9 (0,0))):=LH ((noteW_other (by omega)).trans l6.out);generalize noteW w6 pe e1 (!mg) 10=w7 at r7 b7 c7 f7 l7⊢;obtain⟨e2,he2⟩ : ∃e,e=noteE e1 (!mg) 10:=⟨_,rfl⟩;rw [←he2] at c7 HP0;clear he2 r6 b6 c6 f6 l6 cf zf;have al:=(Below.refl w7.heap.size w7).alloc (Nat.le_refl _) (.cells #[.int .i64 0,.int .i64 0,.int .u64 0,.string ⟨#[]⟩] 183);have S8:Hid (LdS w pe pf pl w7.heap.size e2 l1 #[.int .i64 0,.int .i64 0,.int .u64 0,.string ⟨#[]⟩] (w7.alloc (.cells #[.int .i64 0,.int .i64 0,.int .u64 0,.string ⟨#[]⟩] 183))):=LH ⟨bB r7.out al,bB c7.out al,bB f7.out al,bB l7.out al,heap_alloc_new w7 _,Below.then_ b7.out al,hp1,hp2,hp5,lB l7.out⟩;clear al r7 b7 c7 f7 l7 hp1 hp2 hp5;go_upto_region 8 with fail;obtain⟨px,hpx⟩ : ∃q,q=w7.heap.size:=⟨_,rfl⟩;rw [←hpx] at S8⊢;generalize w7.alloc (.cells #[.int .i64 0,.int .i64 0,.int .u64 0,.string ⟨#[]⟩] 183) =w8 at S8⊢;clear hpx;obtain⟨a,ha⟩ : ∃x,x= (numT e2 l1).1:=⟨_,rfl⟩;obtain⟨e3,he3⟩ : ∃x,x= (numT e2 l1).2.1:=⟨_,rfl⟩;obtain⟨l3,hl3⟩ : ∃x,x= (numT e2 l1).2.2:=⟨_,rfl⟩;have hba:a≤9223372036854775807:=by rw [ha];exact(numT_len _ _).2
 have hll3:l3.length≤8000000:=by rw [hl3];exact Nat.le_trans (numT_len _ _).1 (by omega)
 have HNu:=LH (let_number S8.out (by omega));rw [←ha,←he3,←hl3] at HNu;have HP1:Hid (D=p0 a e3 l3):=LH (by rw [HP0.out];unfold pS;rw [←ha,←he3,←hl3]);clear ha he3 hl3 HP0;go_wp2_with fail;refine HNu.out.mono ?_;rintro en w9 ⟨rfl,hs9⟩;have S9:=LH hs9;clear hs9 HNu S8;have cx:=bC S9.out.x;have zx:=lB S9.out.x;have fx:=bF S9.out.x;go_upto_region 9 with fail;have S10:Hid (LdS w pe pf pl px e3 l3 #[.int .i64 a,.int .i64 0,.int .u64 0,.string ⟨#[]⟩] (w9.setCell ⟨px,0,none⟩ (.int .i64 a))):=LH (S9.out.setX 0 (.int .i64 a));generalize w9.setCell ⟨px,0,none⟩ (.int .i64 a) =w10 at S10⊢;clear cx zx fx S9;obtain⟨b,hb⟩ : ∃x,x= (numT e3 l3).1:=⟨_,rfl⟩;obtain⟨e4,he4⟩ : ∃x,x= (numT e3 l3).2.1:=⟨_,rfl⟩;obtain⟨l4,hl4⟩ : ∃x,x= (numT e3 l3).2.2:=⟨_,rfl⟩;have hbb:b≤9223372036854775807:=by rw [hb];exact(numT_len _ _).2
 have hll4:l4.length≤8000000:=by rw [hl4];exact Nat.le_trans (numT_len _ _).1 (by omega)
 have HNu:=LH (let_number S10.out (by omega));rw [←hb,←he4,←hl4] at HNu;have HP2:Hid (D=p1 a b (noteE e4 (!isCrew (b:Int)) 10) l4):=LH (by rw [HP1.out];unfold p0;rw [←hb,←he4,←hl4]);clear hb he4 hl4 HP1;go_wp2_with fail;refine HNu.out.mono ?_;rintro en w11 ⟨rfl,hs11⟩;have S11:=LH hs11;clear hs11 HNu S10;have cx:=bC S11.out.x;have zx:=lB S11.out.x;have fx:=bF S11.out.x;go_upto_region 10 with fail;have S12:Hid (LdS w pe pf pl px e4 l4 #[.int .i64 a,.int .i64 b,.int .u64 0,.string ⟨#[]⟩] (w11.setCell ⟨px,1,none⟩ (.int .i64 b))):=LH (S11.out.setX 1 (.int .i64 b));generalize w11.setCell ⟨px,1,none⟩ (.int .i64 b) =w12 at S12⊢;clear cx zx fx S11
 have HOf:Hid (∀W:World,Calls Tryz.prog 178 #[.slice (some ⟨W.heap.size,0,none⟩) 1 1] (W.alloc (.cells #[.int .i64 b] 3)) fun e w'=>e=.returned (.tuple #[.int .u64 (ownC b),.bool (isCrew (b:Int))])∧Below W.heap.size W w'):=LH (fun W=>by
  have h:=crew_Of1 _ _ _ (b:Int) (Own.lit W encZ [(b:Int)] 3 (Nat.le_refl _) (by simp [maxLen]));refine h.mono ?_;rintro e w' ⟨he,hb⟩;exact⟨he,((Below.refl W.heap.size W).alloc (Nat.le_refl _) _).trans (hb.mono (by simp))⟩)
 obtain⟨own,hown⟩ : ∃x,x=ownC b:=⟨_,rfl⟩;obtain⟨is,his⟩ : ∃x,x=isCrew (b:Int):=⟨_,rfl⟩;rw [←hown,←his] at HOf;rw [←his] at HP2;have HOw:=LH hown;clear hown his;have cx:=bC S12.out.x;have zx:=lB S12.out.x;go_wp2_with fail;refine(HOf.out w12).mono ?_;rintro en w13 ⟨rfl,hb13⟩;have S13:=LH (S12.out.below hb13);clear hb13 HOf cx zx S12;have cf:=bC S13.out.f;have zf:=lB S13.out.f;go_wp2_with fail;refine(let_fail S13.out (!is) 10).mono ?_;rintro en w14 ⟨rfl,hs14⟩;have S14:=LH hs14;obtain⟨e5,he5⟩ : ∃e,e=noteE e4 (!is) 10:=⟨_,rfl⟩;rw [←he5] at S14 HP2;clear he5 hs14 cf zf S13;obtain⟨c,hc⟩ : ∃x,x= (numT e5 l4).1:=⟨_,rfl⟩;obtain⟨e6,he6⟩ : ∃x,x= (numT e5 l4).2.1:=⟨_,rfl⟩;obtain⟨l6,hl6⟩ : ∃x,x= (numT e5 l4).2.2:=⟨_,rfl⟩;have hbc:c≤9223372036854775807:=by rw [hc];exact(numT_len _ _).2
 have hll6:l6.length≤8000000:=by rw [hl6];exact Nat.le_trans (numT_len _ _).1 (by omega)
 have HNu:=LH (let_number S14.out (by omega));rw [←hc,←he6,←hl6] at HNu;have HP3:Hid (D=p2 a b c (noteE e6 (!rightC c || !withinC (ownC b) c) 10) l6):=LH (by rw [HP2.out];unfold p1;rw [←hc,←he6,←hl6]);clear hc he6 hl6 HP2;go_wp2_with fail;refine HNu.out.mono ?_;rintro en w15 ⟨rfl,hs15⟩;have S15:=LH hs15;clear hs15 HNu S14;rw [←HOw.out] at HP3;have hcw:IntKind.u64.wrap (c:Int) = (c:Int):=wrap_u64s (by omega) (by omega);have cx:=bC S15.out.x;have zx:=lB S15.out.x;have fx:=bF S15.out.x;go_upto_region 13 with fail;have S16:Hid (LdS w pe pf pl px e6 l6 #[.int .i64 a,.int .i64 b,.int .u64 c,.string ⟨#[]⟩] (w15.setCell ⟨px,2,none⟩ (.int .u64 c))):=LH (S15.out.setX 2 (.int .u64 c));generalize w15.setCell ⟨px,2,none⟩ (.int .u64 c) =w16 at S16⊢;clear cx zx fx S15;have HRi:=LH (fun W=>crew_Right c W);have HWi:=LH (fun W=>crew_Within W own c);obtain⟨rc,hrc⟩ : ∃x,x=rightC c:=⟨_,rfl⟩;obtain⟨wi,hwi⟩ : ∃x,x=withinC own c:=⟨_,rfl⟩;rw [←hrc] at HRi HP3;rw [←hwi] at HWi HP3;clear hrc hwi;have Sd:=LH (S16.out.below (Below.drew (Below.refl _ _)))
 go_cut [] (fun W=>LdS w pe pf pl px (noteE e6 (!rc || !wi) 10) l6 #[.int .i64 a,.int .i64 b,.int .u64 c,.string ⟨#[]⟩] W)
 case first=>
  have cf:=bC S16.out.f;have zf:=lB S16.out.f;have cx:=bC S16.out.x;have zx:=lB S16.out.x
  cases rc
  ·skip
   refine wp_region_tail 12 (by kernel_rfl) (by kernel_rfl) ?_;simp only [List.take_succ_cons,List.take_zero,List.drop_succ_cons,List.drop_zero]
   repeat (go_big_quiet_step (first
    | (go_at_call 179;exact quiet_ext (HRi.out _))
    | (go_at_call 180;exact quiet_ext (HWi.out _))))
   refine wpQuiet_nil ?_;intro wq hbq;replace hbq:=bX hbq;have Sq:=LH (S16.out.below hbq);clear hbq;go_wp2_with fail;refine(let_fail Sq.out (!false) 10).mono ?_;rintro en wz ⟨rfl,hz⟩;go_wp2_with fail
   go_meet
   exact hz
  ·skip
   refine wp_region_tail 12 (by kernel_rfl) (by kernel_rfl) ?_;simp only [List.take_succ_cons,List.take_zero,List.drop_succ_cons,List.drop_zero]
   repeat (go_big_quiet_step (first
    | (go_at_call 179;exact quiet_ext (HRi.out _))
    | (go_at_call 180;exact quiet_ext (HWi.out _))))
   refine wpQuiet_nil ?_;intro wq hbq;replace hbq:=bX hbq;have Sq:=LH (S16.out.below hbq);clear hbq;go_wp2_with fail;refine(let_fail Sq.out (!wi) 10).mono ?_;rintro en wz ⟨rfl,hz⟩;go_wp2_with fail
   go_meet
   exact hz
 case rest=>
  have Sr:=LH hcut;clear hcut Sd S16;obtain⟨e7,he7⟩ : ∃e,e=noteE e6 (!rc || !wi) 10:=⟨_,rfl⟩;rw [←he7] at Sr HP3;clear he7 HRi HWi;obtain⟨n,hn⟩ : ∃x,x= (numT e7 l6).1:=⟨_,rfl⟩;obtain⟨e8,he8⟩ : ∃x,x= (numT e7 l6).2.1:=⟨_,rfl⟩;obtain⟨l8,hl8⟩ : ∃x,x= (numT e7 l6).2.2:=⟨_,rfl⟩;have hbn:n≤9223372036854775807:=by rw [hn];exact(numT_len _ _).2
  have hll8:l8.length≤8000000:=by rw [hl8];exact Nat.le_trans (numT_len _ _).1 (by omega)
  have HNu:=LH (let_number Sr.out (by omega));rw [←hn,←he8,←hl8] at HNu;have HP4:Hid (D=p3 a b c n e8 l8):=LH (by rw [HP3.out];unfold p2;rw [←hn,←he8,←hl8]);clear hn he8 hl8 HP3;go_wp2_with fail;refine HNu.out.mono ?_;rintro en w17 ⟨rfl,hs17⟩;have S17:=LH hs17;clear hs17 HNu Sr
  have HP5:Hid (D=if noteE (noteE (noteE e8 (decide ((1048576:Int) < (n:Int))) 13) (decide ((l8.length:Int) < (n:Int))) 9) (decide ((n:Int) < (l8.length:Int))) 11≠0 then noL (noteE (noteE (noteE e8 (decide ((1048576:Int) < (n:Int))) 13) (decide ((l8.length:Int) < (n:Int))) 9) (decide ((n:Int) < (l8.length:Int))) 11) else (⟨a,b,c,l8⟩,0)):=LH (by
   rw [HP4.out];unfold p3;dsimp only;rw [show decide ((1048576:Int) < (n:Int)) =decide (1048576<n) from decide_eq_decide.2 (by omega),show decide ((l8.length:Int) < (n:Int)) =decide (l8.length<n) from decide_eq_decide.2 (by omega),show decide ((n:Int) < (l8.length:Int)) =decide (n<l8.length) from decide_eq_decide.2 (by omega)])
  clear HP4;obtain⟨b1,hb1⟩ : ∃b,b=decide ((1048576:Int) < (n:Int)):=⟨_,rfl⟩;obtain⟨b2,hb2⟩ : ∃b,b=decide ((l8.length:Int) < (n:Int)):=⟨_,rfl⟩;obtain⟨b3,hb3⟩ : ∃b,b=decide ((n:Int) < (l8.length:Int)):=⟨_,rfl⟩;rw [←hb1,←hb2,←hb3] at HP5;have q1:decide ((1048576:Int) < (n:Int)) =b1:=hb1.symm;have q2:decide (l8.length<n) =b2:=by rw [hb2];exact decide_eq_decide.2 (by omega)
  have q3:decide (n<l8.length) =b3:=by rw [hb3];exact decide_eq_decide.2 (by omega)
  clear hb1 hb2 hb3;have cf:=bC S17.out.f;have zf:=lB S17.out.f;go_wp2_with fail;refine(let_fail S17.out (b1) 13).mono ?_;rintro en w18 ⟨rfl,hs18⟩;have S18:=LH hs18;obtain⟨e9,he9⟩ : ∃e,e=noteE e8 (b1) 13:=⟨_,rfl⟩;rw [←he9] at S18 HP5;clear he9 hs18 cf zf S17;have cl:=bC S18.out.l;have zl:=lB S18.out.l;have cf:=bC S18.out.f;have zf:=lB S18.out.f;go_wp2_with fail;refine(let_fail S18.out (b2) 9).mono ?_;rintro en w19 ⟨rfl,hs19⟩;have S19:=LH hs19;obtain⟨e10,he10⟩ : ∃e,e=noteE e9 (b2) 9:=⟨_,rfl⟩;rw [←he10] at S19 HP5;clear he10 hs19 cf zf S18;clear cl zl;have cl:=bC S19.out.l;have zl:=lB S19.out.l;have cf:=bC S19.out.f;have zf:=lB S19.out.f;go_wp2_with fail;refine(let_fail S19.out (b3) 11).mono ?_;rintro en w20 ⟨rfl,hs20⟩;have S20:=LH hs20;obtain⟨e11,he11⟩ : ∃e,e=noteE e10 (b3) 11:=⟨_,rfl⟩;rw [←he11] at S20 HP5;clear he11 hs20 cf zf S19;clear cl zl q1 q2 q3;have ce:=bC S20.out.e;have ze:=lB S20.out.e;by_cases h0:e11=0
  case neg=>
   have HE:=LH (HP5.out.trans (if_pos h0));have h0i: (e11 == 0) =false:=by simpa using h0
   clear h0;go_upto_region 19 with fail;have cr:=bC S20.out.r;have zr:=lB S20.out.r;have fr:=bF S20.out.r;have Y:=LH (letl_store S20.out.r (.int .i64 0) (.int .i64 0) (.int .u64 0) (.string ⟨#[]⟩));have B:=LH (lt_below S20.out.b (q:=w.heap.size) (Nat.le_refl _) (.int .i64 0) (.int .i64 0) (.int .u64 0) (.string ⟨#[]⟩));have hne:=S20.out.h1;have hne2:pe≠w.heap.size:=by omega
   have hne3:w.heap.size≠pe:=by omega
   go_region
   all_goals go_wp2_with fail
   all_goals clear cr zr fr ce ze
   all_goals generalize ((((w20.setCell ⟨w.heap.size,0,none⟩ (.int .i64 0)).setCell ⟨w.heap.size,1,none⟩ (.int .i64 0)).setCell ⟨w.heap.size,2,none⟩ (.int .u64 0)).setCell ⟨w.heap.size,3,none⟩ (.string ⟨#[]⟩)) =wz at Y B⊢
   all_goals have cz:=bC (w:=wz.drew) Y.out
   all_goals have fz:=bF (w:=wz.drew) Y.out
   all_goals have zz:=lB (w:=wz.drew) Y.out
   all_goals exact bR (v:=.tuple #[.agg #[.int .i64 0,.int .i64 0,.int .u64 0,.string ⟨#[]⟩],.int .i64 e11]) (by simp only [results,Tryz.results114];go_simp) rfl ⟨by rw [HE.out];rfl,B.out.drew⟩
  case pos=>
   subst h0;have HE:=LH (HP5.out.trans (if_neg (by simp)));have cl:=bC S20.out.l;have zl:=lB S20.out.l;have cx:=bC S20.out.x;have zx:=lB S20.out.x;have fx:=bF S20.out.x;go_upto_region 21 with fail;have S21:Hid (LdS w pe pf pl px 0 l8 #[.int .i64 a,.int .i64 b,.int .u64 c,.string ⟨l8.toArray⟩] (w20.setCell ⟨px,3,none⟩ (.string ⟨l8.toArray⟩))):=LH (S20.out.setX 3 (.string ⟨l8.toArray⟩));generalize w20.setCell ⟨px,3,none⟩ (.string ⟨l8.toArray⟩) =w21 at S21⊢;clear cx zx fx S20;clear cl zl ce ze;have cx:=bC S21.out.x;have zx:=lB S21.out.x;have cr:=bC S21.out.r;have zr:=lB S21.out.r;have fr:=bF S21.out.r;have Y:=LH (letl_store S21.out.r (.int .i64 a) (.int .i64 b) (.int .u64 c) (.string ⟨l8.toArray⟩));have B:=LH (lt_below S21.out.b (q:=w.heap.size) (Nat.le_refl _) (.int .i64 a) (.int .i64 b) (.int .u64 c) (.string ⟨l8.toArray⟩));go_wp2_with fail;clear cx zx cr zr fr;generalize ((((w21.setCell ⟨w.heap.size,0,none⟩ (.int .i64 a)).setCell ⟨w.heap.size,1,none⟩ (.int .i64 b)).setCell ⟨w.heap.size,2,none⟩ (.int .u64 c)).setCell ⟨w.heap.size,3,none⟩ (.string ⟨l8.toArray⟩)) =wz at Y B⊢;have cz:=bC Y.out;have fz:=bF Y.out;have zz:=lB Y.out;exact bR (v:=.tuple #[.agg #[.int .i64 a,.int .i64 b,.int .u64 c,.string ⟨l8.toArray⟩],.int .i64 0]) (by simp only [results,Tryz.results114];go_simp) rfl ⟨by rw [HE.out];rfl,B.out⟩
def RdrAt (W:World) (pr:Nat) (s:List UInt8) (e:Int) :Prop:=W.heap[pr]? =some (.cells #[.string ⟨s.toArray⟩,.int .i64 e] 330 (0,0))
def RdTo (W:World) (pr:Nat) (s:List UInt8) (e:Int) (W':World) :Prop:=RdrAt W' pr s e∧Turn (fun b=>b=pr) W W'
section
variable {w W W' W2:World} {pr:Nat} {s s2:List UInt8} {e e2:Int}
theorem RdrAt.below (h:RdrAt W pr s e) (hb:Below W.heap.size W W') :RdrAt W' pr s e:=bB h hb
theorem RdTo.trans (h:RdTo W pr s e W') (k:RdTo W' pr s2 e2 W2) :RdTo W pr s2 e2 W2:=⟨k.1,h.2.trans k.2 fun b hb=>.inl hb⟩
theorem RdTo.then_ (h:RdTo W pr s e W') (hb:Below W'.heap.size W' W2) :RdTo W pr s e W2:=⟨h.1.below hb,h.2.more hb⟩
theorem RdTo.same (h:RdrAt W pr s e) :RdTo W pr s e W:=⟨h,.refl _ _⟩
theorem RdTo.setE (h:RdTo W pr s e W') :RdTo W pr s e2 (W'.setCell ⟨pr,1,none⟩ (.int .i64 e2)):=⟨zH (i:=1) h.1 _,h.2.setCell (p:=⟨pr,1,none⟩) (.inl rfl) _⟩
theorem RdTo.setS (h:RdTo W pr s e W') :RdTo W pr s2 e (W'.setCell ⟨pr,0,none⟩ (.string ⟨s2.toArray⟩)):=⟨zH (i:=0) h.1 _,h.2.setCell (p:=⟨pr,0,none⟩) (.inl rfl) _⟩
theorem rdr_fail (h:RdrAt W pr s e) (b:Bool) (f:Int) :Calls Tryz.prog 270 #[.pointer (some ⟨pr,0,none⟩),.bool b,.int .i64 f] W fun en W'=>en=.returned (.tuple #[])∧RdTo W pr s (noteE e b f) W':=by
 have HS:=LH (RdTo.same h);have ce:=bC h;have fe:=bF h;have ze:=lB h;clear h;unfold noteE
 cases b
 ·rw [if_neg (by simp)]
  go_enter Tryz.func270,Tryz.ntmps270
  go_wp2_with fail
  first|go_end0|skip
  exact⟨rfl,HS.out⟩
 ·by_cases h0:e=0
  ·rw [if_pos ⟨rfl,h0⟩]
   have h0i: (e == 0) =true:=by simpa using h0
   clear h0;have HE:=LH (HS.out.setE (e2:=f))
   go_enter Tryz.func270,Tryz.ntmps270
   go_wp2_with fail
   first|go_end0|skip
   exact⟨rfl,HE.out⟩
  ·rw [if_neg (fun h=>h0 h.2)]
   have h0i: (e == 0) =false:=by simpa using h0
   clear h0
   go_enter Tryz.func270,Tryz.ntmps270
   go_wp2_with fail
   first|go_end0|skip
   exact⟨rfl,HS.out⟩
def rawT (e:Int) (s:List UInt8) (n:Nat) :List UInt8×Int×List UInt8:=
 if noteE e (decide (s.length<n)) 9=0 then (s.take n,0,s.drop n) else ([],noteE e (decide (s.length<n)) 9,s)
theorem rdr_raw (h:RdrAt W pr s e) (n:Nat) (hs:s.length≤1000000000) (hn:n≤1000) :Calls Tryz.prog 271 #[.pointer (some ⟨pr,0,none⟩),.int .i64 n] W fun en W'=>en=.returned (.string ⟨(rawT e s n).1.toArray⟩)∧RdTo W pr (rawT e s n).2.2 (rawT e s n).2.1 W':=by
 have HF:=LH (rdr_fail h (decide (s.length<n)) 9)
 have HL:Hid (noteE e (decide (s.length<n)) 9=0→n≤s.length):=LH fun q=>by
  unfold noteE at q
  split at q
  ·cases q
  ·rename_i q2
   have: ¬(s.length<n):=fun q3=>q2 ⟨by simpa using q3,q⟩;omega
 unfold rawT;generalize noteE e (decide (s.length<n)) 9=e1 at HF HL⊢;have ce:=bC h;have ze:=lB h;obtain⟨b,hb⟩ : ∃b,b=decide (s.length<n):=⟨_,rfl⟩;have hbi:decide (s.length<n) =b:=hb.symm;rw [←hb] at HF;clear hb;by_cases h0:e1=0
 ·rw [if_pos h0]
  have hns:=HL.out h0;subst h0;have htt:=text_take s n;have htd:=text_drop s n;generalize s.take n=t at htt⊢;generalize s.drop n=d at htd⊢;clear h
  go_enter Tryz.func271,Tryz.ntmps271
  go_wp2_with fail;refine HF.out.mono ?_;rintro en w1 ⟨rfl,h1⟩;have H1:=LH h1;clear HF ce ze;have ce:=bC h1.1;have fe:=bF h1.1;have ze:=lB h1.1;clear h1;have H2:=LH (H1.out.setS (s2:=d));clear hbi;go_wp2_with fail;exact bR (v:=.string ⟨t.toArray⟩) (by simp only [results,Tryz.results271];go_simp) rfl ⟨rfl,H2.out⟩
 ·rw [if_neg h0]
  have h0i: (e1 == 0) =false:=by simpa using h0
  clear h h0
  go_enter Tryz.func271,Tryz.ntmps271
  go_wp2_with fail;refine HF.out.mono ?_;rintro en w1 ⟨rfl,h1⟩;have H1:=LH h1;clear HF ce ze;have ce:=bC h1.1;have ze:=lB h1.1;clear h1;go_wp2_with fail;exact bR (v:=.string ⟨#[]⟩) (by simp only [results,Tryz.results271];go_simp) rfl ⟨rfl,H1.out⟩
theorem rdr_number (h:RdrAt W pr s e) (hs:s.length≤1000000000) :Calls Tryz.prog 274 #[.pointer (some ⟨pr,0,none⟩)] W fun en W'=>en=.returned (.int .i64 (numT e s).1)∧RdTo W pr (numT e s).2.2 (numT e s).2.1 W':=by
 have HS:=LH (RdTo.same h);have ce:=bC h;have ze:=lB h;unfold numT;by_cases h0:e=0
 ·rw [if_pos h0]
  subst h0;have HG:=LH (vary_Get W s hs);unfold GetPost at HG;have HBd:=LH (getB_bounds s);have htd:=text_drop s (getB s).2.1;generalize s.drop (getB s).2.1=d at htd⊢;generalize getB s=G at HG htd HBd⊢;obtain⟨n,z,er⟩:=G;dsimp only at HG htd HBd⊢;have hz:=HBd.out.2.2.1
  have HN:Hid (noteE 0 (er != 0) er=er):=LH (by
   unfold noteE;by_cases h:er=0
   ·rw [h];simp
   ·rw [if_pos ⟨by simpa using h,rfl⟩])
  clear h
  go_enter Tryz.func274,Tryz.ntmps274
  go_wp2_with fail;refine HG.out.mono ?_;rintro en w1 ⟨rfl,hb1⟩;have S1:=LH (HS.out.then_ hb1);clear hb1 HG HS ce ze;go_wp2_with fail;refine(rdr_fail S1.out.1 (er != 0) er).mono ?_;rintro en w2 ⟨rfl,h2⟩;rw [HN.out] at h2;have S2:=LH (S1.out.trans h2);clear h2 S1;have ce:=bC S2.out.1;have fe:=bF S2.out.1;have ze:=lB S2.out.1;have S3:=LH (S2.out.setS (s2:=d));go_wp2_with fail;exact bR (v:=.int .i64 n) (by simp only [results,Tryz.results274];go_simp) rfl ⟨rfl,S3.out⟩
 ·rw [if_neg h0]
  have h0i: (e == 0) =false:=by simpa using h0
  clear h h0
  go_enter Tryz.func274,Tryz.ntmps274
  go_wp2_with fail;exact bR (v:=.int .i64 0) (by simp only [results,Tryz.results274];go_simp) rfl ⟨rfl,HS.out⟩
def lT (e:Int) (s:List UInt8) :Nat×Int×List UInt8:=((match (rawT e s 1).1 with| []=>0|b :: _=>b.toNat),(rawT e s 1).2.1,(rawT e s 1).2.2)
theorem rdr_l (h:RdrAt W pr s e) (hs:s.length≤1000000000) :Calls Tryz.prog 273 #[.pointer (some ⟨pr,0,none⟩)] W fun en W'=>en=.returned (.int .i64 (lT e s).1)∧RdTo W pr (lT e s).2.2 (lT e s).2.1 W':=by
 have HR:=LH (rdr_raw h 1 hs (by omega));unfold lT;clear h;generalize rawT e s 1=R at HR⊢;obtain⟨t,e1,s1⟩:=R;dsimp only at HR⊢
 match t with
 | []=>
  have hd: (([] :List UInt8) == []) =true:=rfl
  go_enter Tryz.func273,Tryz.ntmps273
  go_wp2_with fail;refine HR.out.mono ?_;rintro en w1 ⟨rfl,h1⟩;have H1:=LH h1;clear h1;go_wp2_with fail;exact bR (v:=.int .i64 0) (by simp only [results,Tryz.results273];go_simp) rfl ⟨rfl,H1.out⟩
 |b :: t=>
  have hd: ((b :: t) == ([] :List UInt8)) =false:=rfl;have hix: ∀W,(Instr.index 9 (.string ⟨(b :: t).toArray⟩) (.int .i64 0)).run Tryz.prog W=.ok (.int .u8 (b.toNat:Int)) W:=fun W=>text_at W (b :: t) 0 (by simp);have hbl:=b.toNat_lt;obtain⟨L,hL⟩ : ∃L,L=b :: t:=⟨_,rfl⟩;rw [←hL] at hd hix HR;have hLl:0<L.length:=by rw [hL];simp
  dsimp only;generalize b.toNat=n at hix hbl⊢;clear hL
  go_enter Tryz.func273,Tryz.ntmps273
  go_wp2_with fail;refine HR.out.mono ?_;rintro en w1 ⟨rfl,h1⟩;have H1:=LH h1;clear h1;go_wp2_with fail;exact bR (v:=.int .i64 n) (by simp only [results,Tryz.results273];go_simp) rfl ⟨rfl,H1.out⟩
def btwE (v:Nat) (e least most:Int) :Int:=noteE e (decide ((v:Int) <least) || decide (most< (v:Int))) 10
theorem rdr_between_number (h:RdrAt W pr s e) (hs:s.length≤1000000000) (least most:Int) :Calls Tryz.prog 272 #[.pointer (some ⟨pr,0,none⟩),.func (.func 274) #[.pointer (some ⟨pr,0,none⟩)] #[],.int .i64 least,.int .i64 most] W fun en W'=>en=.returned (.int .i64 (numT e s).1)∧RdTo W pr (numT e s).2.2 (btwE (numT e s).1 (numT e s).2.1 least most) W':=by
 have HN:=LH (rdr_number h hs);clear h;generalize numT e s=N at HN⊢;obtain⟨n,e1,s1⟩:=N;dsimp only at HN⊢;unfold btwE;by_cases h1: (n:Int) <least
 ·have h1d:decide ((n:Int) <least) =true:=by simpa using h1
  rw [h1d,Bool.true_or];clear h1
  go_enter Tryz.func272,Tryz.ntmps272
  go_wp2_with fail;refine HN.out.mono ?_;rintro en w1 ⟨rfl,h1⟩;have H1:=LH h1;clear h1;go_wp2_with fail;refine(rdr_fail H1.out.1 true 10).mono ?_;rintro en w2 ⟨rfl,h2⟩;have H2:=LH (H1.out.trans h2);clear h2;go_wp2_with fail;exact bR (v:=.int .i64 n) (by simp only [results,Tryz.results272];go_simp) rfl ⟨rfl,H2.out⟩
 ·have h1d:decide ((n:Int) <least) =false:=by simpa using h1
  rw [h1d,Bool.false_or];have h1':=h1;obtain⟨b,hb⟩ : ∃b,b=decide (most< (n:Int)):=⟨_,rfl⟩;rw [←hb];have hbi:decide (most< (n:Int)) =b:=hb.symm;clear hb h1
  go_enter Tryz.func272,Tryz.ntmps272
  go_wp2_with fail;refine HN.out.mono ?_;rintro en w1 ⟨rfl,h1⟩;have H1:=LH h1;clear h1;go_wp2_with fail;refine(rdr_fail H1.out.1 b 10).mono ?_;rintro en w2 ⟨rfl,h2⟩;have H2:=LH (H1.out.trans h2);clear h2;go_wp2_with fail;exact bR (v:=.int .i64 n) (by simp only [results,Tryz.results272];go_simp) rfl ⟨rfl,H2.out⟩
theorem rdr_between_l (h:RdrAt W pr s e) (hs:s.length≤1000000000) (least most:Int) :Calls Tryz.prog 272 #[.pointer (some ⟨pr,0,none⟩),.func (.func 273) #[.pointer (some ⟨pr,0,none⟩)] #[],.int .i64 least,.int .i64 most] W fun en W'=>en=.returned (.int .i64 (lT e s).1)∧RdTo W pr (lT e s).2.2 (btwE (lT e s).1 (lT e s).2.1 least most) W':=by
 have HN:=LH (rdr_l h hs);clear h;generalize lT e s=N at HN⊢;obtain⟨n,e1,s1⟩:=N;dsimp only at HN⊢;unfold btwE;by_cases h1: (n:Int) <least
 ·have h1d:decide ((n:Int) <least) =true:=by simpa using h1
  rw [h1d,Bool.true_or];clear h1
  go_enter Tryz.func272,Tryz.ntmps272
  go_wp2_with fail;refine HN.out.mono ?_;rintro en w1 ⟨rfl,h1⟩;have H1:=LH h1;clear h1;go_wp2_with fail;refine(rdr_fail H1.out.1 true 10).mono ?_;rintro en w2 ⟨rfl,h2⟩;have H2:=LH (H1.out.trans h2);clear h2;go_wp2_with fail;exact bR (v:=.int .i64 n) (by simp only [results,Tryz.results272];go_simp) rfl ⟨rfl,H2.out⟩
 ·have h1d:decide ((n:Int) <least) =false:=by simpa using h1
  rw [h1d,Bool.false_or];have h1':=h1;obtain⟨b,hb⟩ : ∃b,b=decide (most< (n:Int)):=⟨_,rfl⟩;rw [←hb];have hbi:decide (most< (n:Int)) =b:=hb.symm;clear hb h1
  go_enter Tryz.func272,Tryz.ntmps272
  go_wp2_with fail;refine HN.out.mono ?_;rintro en w1 ⟨rfl,h1⟩;have H1:=LH h1;clear h1;go_wp2_with fail;refine(rdr_fail H1.out.1 b 10).mono ?_;rintro en w2 ⟨rfl,h2⟩;have H2:=LH (H1.out.trans h2);clear h2;go_wp2_with fail;exact bR (v:=.int .i64 n) (by simp only [results,Tryz.results272];go_simp) rfl ⟨rfl,H2.out⟩
end
def PtAt (W:World) (pp:Nat) (l k kd n:Int) (A:Option Addr) (m c:Nat) :Prop:=W.heap[pp]? =some (.cells #[.int .i64 l,.int .i64 k,.int .i64 kd,.int .i64 n,.slice A m c] 283 (0,0))
theorem read_right {W:World} {pp:Nat} {l k kd n:Int} {A:Option Addr} {m c:Nat} (h:PtAt W pp l k kd n A m c) (id:Int) :Calls Tryz.prog 276 #[.int .i64 id,.pointer (some ⟨pp,0,none⟩)] W fun en W'=>en=.returned (.bool (isNode l id))∧Below W.heap.size W W':=by
 have HT:=LH (twig_Right W l id);have ce:=bC h;have ze:=lB h;clear h
 go_enter Tryz.func276,Tryz.ntmps276
 go_wp2_with fail;refine HT.out.mono ?_;rintro en w1 ⟨rfl,h1⟩;go_wp2_with fail;exact bR (v:=.bool (isNode l id)) (by simp only [results,Tryz.results276];go_simp) rfl ⟨rfl,h1⟩
def okE (l er:Int) (L:List Int) :Int:=if er≠0 then er else if (L.all fun id=>isNode l id) =true then 0 else 10
def idsT (l:Int) (e:Int) (s:List UInt8) (most:Int) :List Int×Int×List UInt8:=
 if e=0 then ((fallB s most).1,okE l (fallB s most).2.2 (fallB s most).1,s.drop (fallB s most).2.1) else ([],e,s)
def IdsPost (pr:Nat) (R:List Int×Int×List UInt8) (w:World) (en:Ending) (w':World) :Prop:=
 ∃A c,en=.returned (.slice A R.1.length c)∧Own w' w.heap.size 3 encZ (.slice A R.1.length c) R.1∧RdTo w pr R.2.2 R.2.1 w'
theorem all_take {l:Int} {L:List Int} {q:Nat} (h:q<L.length) : ((L.take (q+1)).all fun id=>isNode l id) = (((L.take q).all fun id=>isNode l id) && isNode l L[q]):=by
 rw [List.take_succ_eq_append_getElem h,List.all_append];simp
theorem rdr_ids {w:World} {pr pp:Nat} {s:List UInt8} {e:Int} {l k kd n:Int} {A0:Option Addr} {m0 c0:Nat} (h:RdrAt w pr s e) (hp:PtAt w pp l k kd n A0 m0 c0) (hne:pp≠pr) (most:Int) (hm:e=0→0≤most∧most≤67108800) (hs:s.length≤1000000000) :
 Calls Tryz.prog 275 #[.pointer (some ⟨pr,0,none⟩),.int .i64 most,.func (.func 276) #[] #[.pointer (some ⟨pp,0,none⟩)]] w (IdsPost pr (idsT l e s most) w):=by
 have HS:=LH (RdTo.same h);have HPt:=LH hp;have HZ:=LH (lB h);have ce:=bC h;have ze:=lB h;unfold idsT;by_cases h0:e=0
 ·rw [if_pos h0]
  obtain⟨hm0,hm1⟩:=hm h0;subst h0;have HFa:=LH (vary_Falls w s most hs hm1 (by omega));unfold FallsPost at HFa;have HFb:=LH (fallB_bounds s most);have htd:=text_drop s (fallB s most).2.1;generalize s.drop (fallB s most).2.1=d at htd⊢;generalize fallB s most=f at HFa HFb htd⊢;obtain⟨ids,z,er⟩:=f;dsimp only at HFa HFb htd⊢;have hz:=HFb.out.1
  have HN:Hid (noteE 0 (er != 0) er=er):=LH (by
   unfold noteE;by_cases h:er=0
   ·rw [h];simp
   ·rw [if_pos ⟨by simpa using h,rfl⟩])
  have HEr:Hid (er≠0→ids= []):=LH fun q=>(HFb.out.2.2.1 q).1;have hil:ids.length≤67108800:=by have:=HFb.out.2.2.2;omega
  clear h hp hm
  go_enter Tryz.func275,Tryz.ntmps275
  go_wp2_with fail;refine HFa.out.mono ?_;rintro en w1 ⟨A,c,rfl,ho,hb1⟩;have S1:=LH (HS.out.then_ hb1);have O1:=LH ho;have hw1:=hb1.size;clear hb1 ho HFa HS ce ze;go_wp2_with fail;refine(rdr_fail S1.out.1 (er != 0) er).mono ?_;rintro en w2 ⟨rfl,h2⟩;rw [HN.out] at h2;have S2:=LH (S1.out.trans h2);have O2:=LH (h2.2.own O1.out fun b hb q=>by have h3:=(O1.out.lt b hb).1;have h4:=HZ.out;omega);have hw2:=h2.2.size;clear h2 S1 O1;have ce:=bC S2.out.1;have fe:=bF S2.out.1;have ze:=lB S2.out.1;have S3:=LH (S2.out.setS (s2:=d));have O3:=LH (O2.out.setCell (p:=⟨pr,0,none⟩) (fun q=>by have h3:=(O2.out.lt pr q).1;have h4:=HZ.out;omega) (.string ⟨d.toArray⟩));go_upto_region 6 with fail;generalize w2.setCell ⟨pr,0,none⟩ (.string ⟨d.toArray⟩) =w3 at S3 O3⊢;clear ce fe ze S2 O2 HN HFb htd;go_wp2_with fail
  go_loopw [11,43] (fun _ i wr=>∃q:Nat,i=.int .i64 q∧q≤ids.length∧RdTo w pr d (okE l er (ids.take q)) wr∧Turn (fun b=>b=pr) w3 wr) (fun _ i _=>ids.length - (intOf i).toNat)
  case atStart=>exact⟨0,rfl,Nat.zero_le _,by
   have h5:okE l er (ids.take 0) =er:=by
    unfold okE;by_cases h:er=0
    ·rw [if_neg (by simpa using h),if_pos (by simp),h]
    ·rw [if_pos h]
   rw [h5];exact S3.out,.refl _ _⟩
  case round=>
   obtain⟨q,rfl,hq,hR,hT⟩:=hrel;have RR:=LH hR;have TT:=LH hT;have HOr:=LH (hT.own O3.out fun b hb q=>by have h3:=(O3.out.lt b hb).1;have h4:=HZ.out;omega);have HPr:=LH (show PtAt wr pp l k kd n A0 m0 c0 from hR.2.keep HPt.out hne);clear hR hT;by_cases hlt:q<ids.length
   ·have hqi: (q:Int) < (ids.length:Int):=by omega
    have her:er=0:=by
     by_cases h:er=0
     ·exact h
     ·have h2:=HEr.out h
      rw [h2] at hlt;simp at hlt
    have HE0:=LH her;clear her;have HAl:=LH (all_take (l:=l) hlt);obtain⟨b,off,rfl,hb,hc⟩:=HOr.out.sl.at_ hlt;have d0:=hc 0 (.int .i64 ids[q]) rfl;simp only [Nat.mul_one,Nat.add_zero] at d0;have zb:=cell_lt d0;generalize ids[q] =id at HAl d0;have HRi:=LH (read_right HPr.out id);generalize isNode l id=bi at HAl HRi;obtain⟨eq,heq⟩ : ∃x,x=okE l er (ids.take q):=⟨_,rfl⟩;rw [←heq] at RR
    have HEq:Hid (noteE eq (!bi) 10=okE l er (ids.take (q+1))):=LH (by
     rw [heq,HE0.out];unfold okE;rw [HAl.out];generalize ((ids.take q).all fun id=>isNode l id) =z;unfold noteE
     cases z <;> cases bi <;> simp)
    clear hc heq HAl;go_wp2_with fail;refine HRi.out.mono ?_;rintro en w4 ⟨rfl,hb4⟩;have R4:=LH (RR.out.then_ hb4);have T4:=LH (TT.out.more hb4);clear hb4 RR TT HRi d0 zb;go_wp2_with fail;refine(rdr_fail R4.out.1 (!bi) 10).mono ?_;rintro en w5 ⟨rfl,h5⟩;have R5:=LH (R4.out.trans h5);have T5:=LH (T4.out.trans h5.2 fun b hb=>.inl hb);clear h5 R4 T4;rw [HEq.out] at R5;go_wp2_with fail;go_roundw
    case rel=>exact⟨q+1,by go_num,by omega,R5.out,T5.out⟩
    case measure=>simp [intOf];omega
   ·obtain rfl:q=ids.length:=by omega
    have hqi:decide ((ids.length:Int) < (ids.length:Int)) =false:=by simp
    rw [List.take_length] at RR;obtain⟨ex,hex⟩ : ∃x,x= (okE l er ids):=⟨_,rfl⟩;rw [←hex] at RR;have HX:=LH hex;have HO:=LH HOr.out;clear hex TT HPr HOr O3 S3 HPt HEr HZ hw1 hw2;go_wp2_with fail;rw [HX.out] at RR;exact bR (v:=.slice A ids.length c) (by simp only [results,Tryz.results275];go_simp) rfl (show IdsPost pr (ids,(okE l er ids),d) w _ _ from⟨A,c,rfl,HO.out,RR.out⟩)
 ·rw [if_neg h0]
  have h0i: (e == 0) =false:=by simpa using h0
  clear h h0 hp hm
  go_enter Tryz.func275,Tryz.ntmps275
  go_wp2_with fail;exact bR (v:=.slice none 0 0) (by simp only [results,Tryz.results275];go_simp) rfl (show IdsPost pr ([],e,s) w _ _ from⟨none,0,rfl,Own.nil _ _ _ _,HS.out⟩)
def cntP:List Int→List UInt8→Int→Int→List Nd→List Nd×List UInt8×Int×Int
 | [],s,e,left,out=>(out,s,e,left)
 |id :: ids,s,e,left,out=>
  if btwE (numT e s).1 (numT e s).2.1 1 left≠0 then (out ++ [(id,((numT e s).1:Int))],(numT e s).2.2,btwE (numT e s).1 (numT e s).2.1 1 left,left - ((numT e s).1:Int))
  else cntP ids (numT e s).2.2 (btwE (numT e s).1 (numT e s).2.1 1 left) (left - ((numT e s).1:Int)) (out ++ [(id,((numT e s).1:Int))])
def q4 (l k n:Nat) (C:List Nd×List UInt8×Int×Int) :Read4:=
 if noteE (noteE C.2.2.1 (decide (C.2.1≠ [])) 11) (decide (0<C.2.2.2)) 10≠0 then noRd (noteE (noteE C.2.2.1 (decide (C.2.1≠ [])) 11) (decide (0<C.2.2.2)) 10) else if lightOf l C.1 (k:Int) =false then noRd 13 else ((l,(k:Int),(n:Int),C.1),0)
def q3 (l k n:Nat) (e:Int) (s:List UInt8) :Read4:=q4 l k n (cntP (idsT l e s (8* (k:Int))).1 (idsT l e s (8* (k:Int))).2.2 (idsT l e s (8* (k:Int))).2.1 (n:Int) [])
def q2 (l k:Nat) (e:Int) (s:List UInt8) :Read4:=q3 l k (numT e s).1 (btwE (numT e s).1 (numT e s).2.1 0 72057594037927935) (numT e s).2.2
def q1 (l:Nat) (e:Int) (s:List UInt8) :Read4:=q2 l (numT e s).1 (btwE (numT e s).1 (numT e s).2.1 1 1048576) (numT e s).2.2
def q0 (e:Int) (s:List UInt8) :Read4:=q1 (lT e s).1 (btwE (lT e s).1 (lT e s).2.1 1 48) (lT e s).2.2
def qS (e:Int) (s:List UInt8) :Read4:=q0 (noteE (rawT e s 4).2.1 (!((rawT e s 4).1 == [68,87,80,1])) 10) (rawT e s 4).2.2
theorem btw_ne {v:Nat} {e a b:Int} (h:e≠0) :btwE v e a b=e:=note_ne h
theorem btw_zero {v:Nat} {a b:Int} :btwE v 0 a b=if (v:Int) <a∨b< (v:Int) then 10 else 0:=by
 unfold btwE;rw [note_zero];by_cases h: (v:Int) <a∨b< (v:Int)
 ·rw [if_pos h,if_pos (by simpa using h)]
 ·rw [if_neg h,if_neg (by simpa using h)]
theorem cntP_ne: ∀(ids:List Int) (s:List UInt8) (e left:Int) (out:List Nd),e≠0→(cntP ids s e left out).2.2.1=e:=by
 intro ids s e left out h
 cases ids with
 |nil=>rfl
 |cons id ids=>
  unfold cntP;rw [num_ne h];dsimp only;rw [btw_ne h,if_pos h]
theorem q4_ne {l k n:Nat} {C:List Nd×List UInt8×Int×Int} (h:C.2.2.1≠0) :q4 l k n C=noRd C.2.2.1:=by
 unfold q4;rw [note_ne h,note_ne h,if_pos h]
theorem q3_ne {l k n:Nat} {e:Int} {s:List UInt8} (h:e≠0) :q3 l k n e s=noRd e:=by
 unfold q3 idsT;rw [if_neg h];rw [q4_ne (by rw [cntP_ne _ _ _ _ _ h];exact h),cntP_ne _ _ _ _ _ h]
theorem q2_ne {l k:Nat} {e:Int} {s:List UInt8} (h:e≠0) :q2 l k e s=noRd e:=by unfold q2;rw [num_ne h];dsimp only;rw [btw_ne h];exact q3_ne h
theorem q1_ne {l:Nat} {e:Int} {s:List UInt8} (h:e≠0) :q1 l e s=noRd e:=by unfold q1;rw [num_ne h];dsimp only;rw [btw_ne h];exact q2_ne h
theorem raw_ne {e:Int} {s:List UInt8} {n:Nat} (h:e≠0) :rawT e s n= ([],e,s):=by unfold rawT;rw [note_ne h,if_neg h]
theorem q0_ne {e:Int} {s:List UInt8} (h:e≠0) :q0 e s=noRd e:=by unfold q0 lT;rw [raw_ne h];dsimp only;rw [btw_ne h];exact q1_ne h
theorem qS_ne {e:Int} {s:List UInt8} (h:e≠0) :qS e s=noRd e:=by unfold qS;rw [raw_ne h];dsimp only;rw [note_ne h];exact q0_ne h
theorem cntP_eq: ∀(ids:List Int) (s:List UInt8) (left:Int) (out:List Nd),
 ((cntF ids s left out).2.2.2≠0→(cntP ids s 0 left out).2.2.1= (cntF ids s left out).2.2.2)∧
 ((cntF ids s left out).2.2.2=0→cntP ids s 0 left out= ((cntF ids s left out).1,(cntF ids s left out).2.1,0,(cntF ids s left out).2.2.1)):=by
 intro ids
 induction ids with
 |nil=>intro s left out;exact⟨fun h=>absurd rfl h,fun _=>rfl⟩
 |cons id ids ih=>
  intro s left out;unfold cntP cntF;simp only;rw [num_zero];dsimp only;by_cases h: (getB s).2.2=0
  ·rw [if_neg (by simpa using h),h,btw_zero]
   by_cases h1: (getB s).1=0∨left< ((getB s).1:Int)
   ·have hb: (if ((getB s).1:Int) <1∨left< ((getB s).1:Int) then (10:Int) else 0) =10:=if_pos (by omega)
    rw [if_pos h1,hb,if_pos (by decide)];exact⟨fun _=>rfl,fun h=>absurd h (by decide)⟩
   ·have hb: (if ((getB s).1:Int) <1∨left< ((getB s).1:Int) then (10:Int) else 0) =0:=if_neg (by omega)
    rw [if_neg h1,hb,if_neg (by decide)];exact ih _ _ _
  ·rw [if_pos (by simpa using h),btw_ne h,if_pos h]
   exact⟨fun _=>rfl,fun q=>absurd q h⟩
theorem q3_eq (l k n:Nat) (s:List UInt8) :q3 l k n 0 s=rd3 l k n (fallB s (8* (k:Int))) s:=by
 unfold q3 rd3 idsT;rw [if_pos rfl];dsimp only;generalize fallB s (8* (k:Int)) =f;by_cases h:f.2.2=0
 ·have hr: ¬(f.2.2≠0):=fun q=>q h
  rw [if_neg hr]
  cases ha:f.1.all fun id=>isNode (l:Int) id
  ·have hok:okE (l:Int) f.2.2 f.1=10:=by unfold okE;rw [if_neg hr,if_neg (by rw [ha];simp)]
   rw [hok,if_pos rfl,q4_ne (by rw [cntP_ne _ _ _ _ _ (by decide)];decide),cntP_ne _ _ _ _ _ (by decide)]
  ·have hok:okE (l:Int) f.2.2 f.1=0:=by unfold okE;rw [if_neg hr,if_pos ha]
   rw [hok,if_neg (by simp)];have hc:=cntP_eq f.1 (s.drop f.2.1) (n:Int) [];generalize cntF f.1 (s.drop f.2.1) (n:Int) [] =c at hc⊢;unfold rd4;by_cases h2:c.2.2.2=0
   ·have h2n: ¬(c.2.2.2≠0):=fun q=>q h2
    rw [hc.2 h2,if_neg h2n];unfold q4;dsimp only;rw [note_zero];by_cases h3:c.2.1= []
    ·have h3n: ¬(c.2.1≠ []):=fun q=>q h3
     have h3d:decide (c.2.1≠ []) =false:=by simpa using h3
     rw [if_neg h3n,h3d,if_neg (show ¬(false=true) by simp),note_zero];by_cases h4:0<c.2.2.1
     ·rw [if_pos h4,decide_eq_true h4,if_pos (show (true=true) from rfl),if_pos (by decide)]
     ·rw [if_neg h4,decide_eq_false h4,if_neg (show ¬(false=true) by simp),if_neg (show ¬((0:Int)≠0) by simp)]
    ·have h3p:c.2.1≠ []:=h3
     rw [if_pos h3p,decide_eq_true h3p,if_pos (show (true=true) from rfl),note_ne (by decide),if_pos (by decide)]
   ·have h2p:c.2.2.2≠0:=h2
    rw [if_pos h2p,q4_ne (by rw [hc.1 h2];exact h2),hc.1 h2]
 ·have hp:f.2.2≠0:=h
  have hok:okE (l:Int) f.2.2 f.1=f.2.2:=by unfold okE;rw [if_pos hp]
  rw [hok,if_pos hp,q4_ne (by rw [cntP_ne _ _ _ _ _ h];exact h),cntP_ne _ _ _ _ _ h]
theorem q2_eq (l k:Nat) (s:List UInt8) :q2 l k 0 s=rd2 l k (getB s) s:=by
 unfold q2 rd2;rw [num_zero];dsimp only;by_cases h: (getB s).2.2=0
 ·rw [if_neg (by simpa using h),h,btw_zero]
  by_cases h1:72057594037927935< (getB s).1
  ·rw [if_pos h1,if_pos (by omega)];exact q3_ne (by decide)
  ·rw [if_neg h1,if_neg (by omega)];exact q3_eq ..
 ·rw [if_pos (by simpa using h),btw_ne h];exact q3_ne h
theorem q1_eq (l:Nat) (s:List UInt8) :q1 l 0 s=rd1 l (getB s) s:=by
 unfold q1 rd1;rw [num_zero];dsimp only;by_cases h: (getB s).2.2=0
 ·rw [if_neg (by simpa using h),h,btw_zero]
  by_cases h1: (getB s).1<1∨1048576< (getB s).1
  ·rw [if_pos h1,if_pos (by omega)];exact q2_ne (by decide)
  ·rw [if_neg h1,if_neg (by omega)];exact q2_eq ..
 ·rw [if_pos (by simpa using h),btw_ne h];exact q2_ne h
theorem q0_eq (s:List UInt8) :q0 0 s=rd0 s:=by
 unfold q0 rd0 lT rawT
 cases s with
 |nil=>simp only [note_zero];exact q1_ne (by decide)
 |cons b s0=>
  have e1:noteE 0 (decide ((b :: s0).length<1)) 9=0:=by rw [note_zero,if_neg (by simp)]
  rw [e1,if_pos rfl];dsimp only [List.take_succ_cons,List.take_zero,List.drop_succ_cons,List.drop_zero];rw [btw_zero];by_cases h1:b.toNat<1∨48<b.toNat
  ·rw [if_pos h1,if_pos (by omega)];exact q1_ne (by decide)
  ·rw [if_neg h1,if_neg (by omega)];exact q1_eq ..
theorem readP_eq (s:List UInt8) :qS (openT s).2 (openT s).1=readW s:=by
 rw [readW_rd];unfold rdW;generalize openT s=o;by_cases h:o.2=0
 ·rw [if_neg (by simpa using h),h]
  unfold qS rawT;by_cases h4:o.1.length<4
  ·have e1:noteE 0 (decide (o.1.length<4)) 9=9:=by rw [note_zero,if_pos (by simpa using h4)]
   rw [if_pos h4,e1,if_neg (by decide)];dsimp only;rw [note_ne (by decide)];exact q0_ne (by decide)
  ·have e1:noteE 0 (decide (o.1.length<4)) 9=0:=by rw [note_zero,if_neg (by simpa using h4)]
   rw [if_neg h4,e1,if_pos rfl];dsimp only;rw [note_zero];by_cases hm:o.1.take 4= [68,87,80,1]
   ·have hmn: ¬(o.1.take 4≠ [68,87,80,1]):=fun q=>q hm
    have hmd: (!(o.1.take 4 == [68,87,80,1])) =false:=by rw [hm];rfl
    rw [if_neg hmn,hmd,if_neg (show ¬(false=true) by simp)];exact q0_eq _
   ·have hmp:o.1.take 4≠ [68,87,80,1]:=hm
    have hmd: (!(o.1.take 4 == [68,87,80,1])) =true:=by simpa using hm
    rw [if_pos hmp,hmd,if_pos (show (true=true) from rfl)];exact q0_ne (by decide)
 ·rw [if_pos (by simpa using h)];exact qS_ne h
def CntPost (ids:List Int) (s:List UInt8) (n:Int) (w:World) (e:Ending) (w':World) :Prop:=
 ∃A c,e=.returned (.tuple #[.slice A (cntF ids s n []).1.length c,.string ⟨(cntF ids s n []).2.1.toArray⟩,.int .i64 (cntF ids s n []).2.2.2])∧Own w' w.heap.size 216 encN (.slice A (cntF ids s n []).1.length c) (cntF ids s n []).1∧Below w.heap.size w w'
theorem grow_N (w:World) (n:Nat) (hn:n≤67108864) :Calls Tryz.prog 313 #[.slice none 0 0,.int .i64 n] w (OwnPost 216 encN [] w):=by
 by_cases h0:n=0
 ·subst h0
  go_enter Tryz.func313,Tryz.ntmps313
  go_wp2_with fail;go_ret;exact⟨_,rfl,Own.nil _ _ _ _,bE⟩
 ·obtain⟨i,hi,e1⟩:=Option.map_eq_some_iff.1 tyN.hinfo
  simp only [Prod.mk.injEq] at e1;obtain⟨hz,hsize,hby⟩:=e1;have h1: ¬(n:Int) <0:=by omega
  have h4: (n:Int) >0:=by omega
  have hrz: ∀ty,(Builtin.append_ #[129,3] ty #[.slice none 0 0,.int .i64 n]).run Tryz.prog w=
   .ok (.slice (some ⟨w.heap.size,0,none⟩) n (grownCap w n 0 216)) (w.drew.alloc (.cells (Builtin.zeroCells (Value.agg #[.int .i64 0,.int .i64 0]).cells n ++ Builtin.zeroCells (Value.agg #[.int .i64 0,.int .i64 0]).cells (grownCap w n 0 216 - n)) 216)):=fun ty=>
   Lib.run_append_nil_zeros w 129 3 ty 216 i _ .i64 .i64 Tryz.underlying129 Tryz.underlying3 hi hz n (by omega) (by omega) (by omega) (by rw [hby];omega)
  have hGn:n≤grownCap w n 0 216:=grownCap_ge w _ _ _;have hGm:=grownCap_le_maxLen w n 0 216 (by unfold maxLen;omega);generalize grownCap w n 0 216=G at hrz hGn hGm
  have HO:Hid (Own (w.drew.alloc (.cells (Builtin.zeroCells (Value.agg #[.int .i64 0,.int .i64 0]).cells n ++ Builtin.zeroCells (Value.agg #[.int .i64 0,.int .i64 0]).cells (G - n)) 216)) w.heap.size 216 encN (.slice (some ⟨w.heap.size,0,none⟩) 0 G) []):=LH
   (.inr ⟨w.heap.size,0,G,_,rfl,Nat.le_refl _,heap_alloc_new w.drew _,by simp,hGm,by simp only [Array.size_append,size_zeroCells,tyN.hzs];omega,fun j u hj=>by simp at hj⟩)
  have hG63:G≤9223372036854775807:=by unfold maxLen at hGm;omega
  have HB:Hid (Below w.heap.size w (w.drew.alloc (.cells (Builtin.zeroCells (Value.agg #[.int .i64 0,.int .i64 0]).cells n ++ Builtin.zeroCells (Value.agg #[.int .i64 0,.int .i64 0]).cells (G - n)) 216))):=LH bE;clear hi hz hsize hby;generalize w.drew.alloc (.cells (Builtin.zeroCells (Value.agg #[.int .i64 0,.int .i64 0]).cells n ++ Builtin.zeroCells (Value.agg #[.int .i64 0,.int .i64 0]).cells (G - n)) 216) =w1 at hrz HO HB
  go_enter Tryz.func313,Tryz.ntmps313
  go_wp2_with (at_builtin;refine Lib.wpList_append_run _ rfl _ _ _ _ rfl _ _ rfl rfl _ _ (hrz _) ?_);go_ret;exact⟨_,rfl,HO.out,HB.out⟩
abbrev SlV:=Option Addr×Nat×List Nd
def encSl:Enc SlV 1:=⟨fun s=> [.slice s.1 s.2.2.length s.2.1],fun _=>rfl,by intro x u hu;simp at hu;subst hu;rfl⟩
def allN (ss:List SlV) :List Nd:=ss.flatMap (·.2.2)
theorem allN_take {ss:List SlV} {q:Nat} (h:q<ss.length) :allN (ss.take (q+1)) =allN (ss.take q) ++ ss[q].2.2:=by
 unfold allN;rw [List.take_succ_eq_append_getElem h,List.flatMap_append];simp
theorem allN_len_take (ss:List SlV) (q:Nat) : (allN (ss.take q)).length≤(allN ss).length:=by
 conv=>rhs;rw [←List.take_append_drop q ss]
 unfold allN;rw [List.flatMap_append,List.length_append];omega
theorem concat_N (w:World) (A:Option Addr) (cap:Nat) (ss:List SlV) (hS:Sl w w.heap.size encSl A ss) (hE: ∀s∈ss,Sl w w.heap.size encN s.1 s.2.2) (hn: (allN ss).length≤67108864) (hk:ss.length≤67108864) :
 Calls Tryz.prog 281 #[.slice A ss.length cap] w (OwnPost 216 encN (allN ss) w):=by
 have HS:=LH hS;have HE:=LH hE;have HT:=LH (fun q (h:q<ss.length)=>allN_take h);have HL:=LH (fun q=>Nat.le_trans (allN_len_take ss q) hn);clear hS hE
 go_enter Tryz.func281,Tryz.ntmps281
 go_wp2_with fail
 go_loopw [3,11] (fun n i wr=>∃q,q≤ss.length∧i=.int .i64 q∧n=.int .i64 (allN (ss.take q)).length∧w=wr) (fun _ i _=>ss.length - (intOf i).toNat)
 case atStart=>exact⟨0,Nat.zero_le _,rfl,by simp [allN],rfl⟩
 case round=>
  obtain⟨q,hq,rfl,rfl,rfl⟩:=hrel;by_cases hlt:q<ss.length
  ·obtain⟨b,off,rfl,hb,hc⟩:=HS.out.at_ hlt
   have d0:=hc 0 _ rfl;simp only [Nat.add_zero,Nat.mul_one] at d0;have e1:=HT.out q hlt;have e2:=HL.out (q+1);have e3: (allN (ss.take (q+1))).length= (allN (ss.take q)).length+ss[q].2.2.length:=by rw [e1,List.length_append]
   obtain⟨s,hs⟩ : ∃s,s=ss[q]:=⟨_,rfl⟩;rw [←hs] at d0 e3;rw [e3] at e2;have E3:=LH e3;clear hc e1 e3 hs;generalize (allN (ss.take q)).length=n at e2 E3⊢;go_wp2_with fail;go_roundw
   case rel=>exact⟨q+1,by omega,by go_num,by rw [E3.out];go_num,by first|rfl|trivial⟩
   case measure=>simp [intOf];omega
  ·obtain rfl:q=ss.length:=by omega
   have HG:=LH (grow_N w (allN ss).length hn);rw [List.take_length];obtain⟨n,hN⟩ : ∃n,n= (allN ss).length:=⟨_,rfl⟩;rw [←hN] at HG⊢hn;have HN:=LH hN;clear hN;go_wp2_with fail;refine HG.out.mono ?_;rintro e w1 ⟨v1,rfl,ho1,hb1⟩;have O1:=LH ho1;have B1:=LH hb1;clear ho1 hb1 HG;go_wp2_with fail
   go_loopw [6,27] (fun v i wr=>∃q,q≤ss.length∧i=.int .i64 q∧Own wr w.heap.size 216 encN v (allN (ss.take q))∧Below w.heap.size w wr) (fun _ i _=>ss.length - (intOf i).toNat)
   case atStart=>exact⟨0,Nat.zero_le _,rfl,by simpa [allN] using O1.out,B1.out⟩
   case round=>
    obtain⟨q,hq,rfl,ho,hB⟩:=hrel;obtain⟨Ao,co,rfl,_⟩:=ho.form;have HO:=LH ho;have HB:=LH hB;have sz:=hB.size;clear ho hB;by_cases hlt:q<ss.length
    ·obtain⟨b,off,rfl,hb,hc⟩:=HS.out.at_ hlt
     have d0:=(HB.out.cell (p:=⟨b,off+q*1+0,none⟩) hb).trans (hc 0 _ rfl);simp only [Nat.add_zero,Nat.mul_one] at d0;have e1:=HT.out q hlt;have e2:=HL.out (q+1);rw [e1,List.length_append] at e2;have hSs:Sl wr wr.heap.size encN ss[q].1 ss[q].2.2:=(HE.out _ (List.getElem_mem hlt)).keep HB.out.size fun p hp=>HB.out.cell hp;have lb:b<wr.heap.size:=Nat.lt_of_lt_of_le hb sz;obtain⟨s,hs⟩ : ∃s,s=ss[q]:=⟨_,rfl⟩;rw [←hs] at d0 e1 e2 hSs;have HSs:=LH hSs;have E1:=LH e1;clear hc e1 hs hSs;obtain⟨As,cs,ls⟩:=s;simp only at d0 e2 HSs E1;obtain⟨L,hL⟩ : ∃L,L=allN (ss.take q):=⟨_,rfl⟩;rw [←hL] at HO E1 e2⊢;clear hL;go_wp2_with ((at_builtin;refine wpList_app tyN rfl _ _ rfl encN w.heap.size (.slice Ao L.length co) L rfl HO.out As cs ls wr.heap.size rfl HSs.out ?c1 ?c2 ?c3 ?c4))
     case c1=>omega
     case c2=>unfold maxLen;omega
     case c3=>exact sz
     case c4=>
      intro v5 w5 ho5 _ _ hb5 _;have O5:=LH ho5;have B5:=LH (HB.out.trans hb5);clear ho5 hb5;go_wp2_with fail;go_roundw
      case rel=>exact⟨q+1,by omega,by go_num,by rw [E1.out];exact O5.out,B5.out⟩
      case measure=>simp [intOf];omega
    ·obtain rfl:q=ss.length:=by omega
     rw [List.take_length] at HO⊢;go_wp2_with fail;go_ret;exact⟨_,rfl,HO.out,HB.out⟩
theorem fold_step {l:List Nd} (hp: ∀x∈l,1≤x.1∧1≤x.2) (hs:sumR l≤72057594037927935) {q:Nat} (h:q< (msort l).length) :
 (addAll [] ((msort l).take q) = []∧addAll [] ((msort l).take (q+1)) = [(msort l)[q]])∨
 ∃(L:List Nd) (y:Nd),addAll [] ((msort l).take q) =L ++ [y]∧L.length<q∧0≤y.2∧y.2+ (msort l)[q].2≤72057594037927935+72057594037927935∧
  ((y.1= (msort l)[q].1∧addAll [] ((msort l).take (q+1)) =L ++ [(y.1,y.2+ (msort l)[q].2)])∨(y.1≠(msort l)[q].1∧addAll [] ((msort l).take (q+1)) = (L ++ [y]) ++ [(msort l)[q]])):=by
 have hpm: ∀x∈msort l,1≤x.1∧1≤x.2:=fun x hx=>hp x ((msort_perm l).mem_iff.1 hx);have e:=addAll_take h;have hsort:=msort_sorted l
 have hsum: ∀k,sumR ((msort l).take k)≤sumR l:=fun k=>by
  rw [←fold_sumR_perm (msort_perm l)];have e1:sumR ((msort l).take k ++ (msort l).drop k) =sumR (msort l):=by rw [List.take_append_drop]
  have e2:=(sumR_pos fun x hx=>(hpm x (List.mem_of_mem_drop (i:=k) hx)).2).1;rw [sumR_append] at e1;omega
 have hx:=hpm _ (List.getElem_mem h);obtain⟨i1,i2,_⟩:=addAll_roll (r:= []) (L:=(msort l).take q) ⟨.nil,by simp⟩ fun x hx=>hpm x (List.mem_of_mem_take hx)
 have hle: ∀z∈addAll [] ((msort l).take q),z.1≤(msort l)[q].1:=addAll_le (by simp) fun z hz=>by
  obtain⟨i,hi,rfl⟩:=List.getElem_of_mem hz;rw [List.length_take] at hi;rw [List.getElem_take];exact List.pairwise_iff_getElem.1 hsort i q (by omega) h (by omega)
 have hlen:=addAll_len ((msort l).take q) [];rw [List.length_take,List.length_nil] at hlen;have hq:=hsum q
 have hxl: (msort l)[q].2≤sumR l:=by
  have e3:=hsum (q+1);rw [List.take_succ_eq_append_getElem h,sumR_append] at e3;have e4:=(sumR_pos fun x hx=>(hpm x (List.mem_of_mem_take (i:=q) hx)).2).1;simp only [sumR] at e3;omega
 rw [e];generalize addAll [] ((msort l).take q) =M at i1 i2 hle hlen⊢;generalize (msort l)[q] =x at hx hle hxl⊢;rcases List.eq_nil_or_concat M with rfl| ⟨L,y,rfl⟩
 ·left;exact⟨rfl,by simp [addR]⟩
 ·right
  simp only [List.concat_eq_append] at*;have hy:=i1.2 y (by simp);have hlt: ∀z∈L,z.1<y.1:=fun z hz=>(List.pairwise_append.1 i1.1).2.2 z hz y (by simp);have hyx:=hle y (by simp);have hL:=(sumR_pos fun z hz=>(i1.2 z (List.mem_append_left _ hz)).2).1;rw [sumR_append] at i2;simp only [sumR] at i2;rw [List.length_append] at hlen;refine⟨L,y,rfl,by simp at hlen;omega,by omega,by omega,?_⟩;by_cases hxy:y.1=x.1
  ·left
   refine⟨hxy,?_⟩;rw [←hxy];exact addR_bump hlt
  ·right
   refine⟨hxy,?_⟩
   exact addR_new fun z hz=>by
    rcases List.mem_append.1 hz with hz|hz
    ·have:=hlt z hz;omega
    ·rw [List.mem_singleton.1 hz];omega
theorem own_last {w:World} {base e:Nat} {v:Value} {L:List Nd} {y:Nd} (h:Own w base e encN v (L ++ [y])) : ∃g off n cap,v=.slice (some ⟨g,off,none⟩) n cap∧n=L.length+1:=by
 rcases h with ⟨_,h⟩ | ⟨g,off,cap,cur,rfl,_⟩
 ·simp at h
 ·exact⟨g,off,_,cap,rfl,by simp⟩
theorem own_last_cells {w:World} {base e g off n cap:Nat} {L:List Nd} {y:Nd} (h:Own w base e encN (.slice (some ⟨g,off,none⟩) n cap) (L ++ [y])) :
 g<w.heap.size∧base≤g∧(∀j,w.frozen? ⟨g,j,none⟩ =false)∧w.cell? ⟨g,off+L.length*2,none⟩ =some (.int .i64 y.1)∧w.cell? ⟨g,off+L.length*2+1,none⟩ =some (.int .i64 y.2):=by
 have h1:=h.lt g rfl;have hk: (L ++ [y])[L.length]? =some y:=by simp
 rcases h.sl with h2| ⟨b,o,hA,_,hc⟩
 ·simp at h2
 ·cases hA
  exact⟨h1.2,h1.1,fun j=>h.frozen j,hc _ y hk 0 _ rfl,hc _ y hk 1 _ rfl⟩
def BumpS (w2:World) (g oo n co:Nat) (L:List Nd) (y:Nd) (px:Nat) (x1 x2:Int) (W:World) :Prop:=
 Own W w2.heap.size 216 encN (.slice (some ⟨g,oo,none⟩) n co) (L ++ [y])∧W.heap[px]? =some (.cells #[.int .i64 x1,.int .i64 x2] 216 (0,0))∧Below w2.heap.size w2 W
theorem bump_own {w2:World} {g oo n co:Nat} {L:List Nd} {y1 y2:Int} {px:Nat} {x2:Int} {W:World} (h:BumpS w2 g oo n co L (y1,y2) px y1 x2 W) :
 Own (W.setCell ⟨g,oo+L.length*2+1,none⟩ (.int .i64 (y2+x2))) w2.heap.size 216 encN (.slice (some ⟨g,oo,none⟩) n co) (L ++ [(y1,y2+x2)]):=by
 have hk:L.length< (L ++ [(y1,y2)]).length:=by simp
 have:=h.1.setElem L.length 1 hk (by decide) (.int .i64 (y2+x2)) (y1,y2+x2) (by rw [List.getElem_append_right (Nat.le_refl _)];simp [encN])
 rwa [List.set_append_right _ _ (Nat.le_refl _),Nat.sub_self,List.set_cons_zero] at this
theorem bump_below {w2:World} {g oo n co:Nat} {L:List Nd} {y:Nd} {px:Nat} {x1 x2:Int} {W:World} (h:BumpS w2 g oo n co L y px x1 x2 W) (u:Value) {o:Nat} :Below w2.heap.size w2 (W.setCell ⟨g,o,none⟩ u):=
 h.2.2.setCell (p:=⟨g,o,none⟩) (own_last_cells h.1).2.1 u
def FoldPost (l:List Nd) (w:World) (e:Ending) (w':World) :Prop:=∃v,e=.returned (.tuple #[v,.bool true])∧Own w' w.heap.size 216 encN v (addAll [] (msort l))∧Below w.heap.size w w'
theorem roll_Fold (w:World) (A:Option Addr) (cap:Nat) (l:List Nd) (hS:Sl w w.heap.size encN A l) (hI:ints l) (hp: ∀x∈l,1≤x.1∧1≤x.2) (hs:sumR l≤72057594037927935) (hc:l.length≤cap) (hcm:cap≤maxLen) (hn:l.length≤67108863) :
 Calls Tryz.prog 280 #[.slice A l.length cap] w (FoldPost l w):=by
 have hT:totalOf l= (sumR l,true):=by unfold totalOf;rw [total_ok (fun x hx=>(hp x hx).2) (Int.le_refl _) (by omega)];simp
 have HT:=LH (fun W h=>roll_Total W A cap l h hI (by omega));rw [hT] at HT;unfold okV at HT;have HSo:=LH (fun W h=>roll_Sorted W (.slice A l.length cap) l h (by omega));have HStep:=LH (fun q (h:q< (msort l).length)=>fold_step hp hs h);have hpm: ∀x∈msort l,1≤x.1∧1≤x.2:=fun x hx=>hp x ((msort_perm l).mem_iff.1 hx);have HP:=LH hpm;have hml:=msort_len l;have HS:=LH hS;unfold FoldPost;obtain⟨S,hSe⟩ : ∃S,S=msort l:=⟨_,rfl⟩;rw [←hSe] at HSo HStep HP hml⊢;clear hS hI hp hs hT hpm hSe;have hc':=LH hc;have hcm':=LH hcm;clear hc hcm
 go_enter Tryz.func280,Tryz.ntmps280
 go_wp2_with fail;refine(HT.out w HS.out).mono ?_;rintro e w1 ⟨rfl,hb1⟩;have R1:Hid (Rd w1 encN (.slice A l.length cap) l):=LH ⟨A,cap,rfl,hc'.out,hcm'.out,HS.out.keep hb1.size fun p hp=>hb1.cell hp⟩;have B1:=LH hb1;clear hb1 HT HS;go_wp2_with fail;refine(HSo.out w1 R1.out).mono ?_;rintro e w2 ⟨v2,rfl,ho2,hb2⟩;obtain⟨A2,c2,rfl,_⟩:=ho2.form;have S2:=LH ho2.sl;have B2:=LH (Below.then_ B1.out hb2);clear ho2 hb2 HSo R1 B1;have hSl:S.length≤67108863:=by omega
 clear hml hn;go_wp2_with fail
 go_loopw [6,20] (fun o i wr=>∃q,q≤S.length∧i=.int .i64 q∧Own wr w2.heap.size 216 encN o (addAll [] (S.take q))∧Below w2.heap.size w2 wr) (fun _ i _=>S.length - (intOf i).toNat)
 case atStart=>exact⟨0,Nat.zero_le _,rfl,.nil _ _ _ _,Below.refl _ _⟩
 case round=>
  obtain⟨q,hq,rfl,ho,hB⟩:=hrel;have HO:=LH ho;have HB:=LH hB;have sz:=hB.size;clear ho hB;by_cases hlt:q<S.length
  ·obtain⟨b,off,rfl,hb,hc⟩:=S2.out.at_ hlt
   have d0:=(HB.out.cell (p:=⟨b,off+q*2+0,none⟩) hb).trans (hc 0 (.int .i64 S[q].1) rfl);have d1:=(HB.out.cell (p:=⟨b,off+q*2+1,none⟩) hb).trans (hc 1 (.int .i64 S[q].2) rfl);simp only [Nat.add_zero] at d0;have hx:=HP.out _ (List.getElem_mem hlt);have hst:=HStep.out q hlt;have lb:b<wr.heap.size:=Nat.lt_of_lt_of_le hb sz;obtain⟨x,hxe⟩ : ∃x,x=S[q]:=⟨_,rfl⟩;rw [←hxe] at d0 d1 hx hst;clear hc hxe;obtain⟨x1,x2⟩:=x;simp only at d0 d1 hx hst;have hx1: ¬x1<1:=by omega
   have hx2: (x2 == 0) =false:=by simp;omega
   obtain⟨M,hM⟩ : ∃M,M=addAll [] (S.take q):=⟨_,rfl⟩;rw [←hM] at HO hst;clear hM;rcases hst with ⟨rfl,hN⟩ | ⟨L,y,rfl,hLq,hy0,hyx,hN⟩
   ·-- the list is empty
    have HN:=LH hN;clear hN;obtain⟨Ao,co,rfl,_⟩:=HO.out.form;have OA:=LH (HO.out.alloc (.cells #[.int .i64 x1,.int .i64 x2] 216));have BA:=LH (HB.out.alloc sz (.cells #[.int .i64 x1,.int .i64 x2] 216));have XA:=LH (heap_alloc_new wr (.cells #[.int .i64 x1,.int .i64 x2] 216));go_upto_region 13 with fail;obtain⟨px,hpx⟩ : ∃p,p=wr.heap.size:=⟨_,rfl⟩;rw [←hpx] at XA⊢;generalize wr.alloc (.cells #[.int .i64 x1,.int .i64 x2] 216) =w3 at OA BA XA⊢;clear hpx d0 d1 lb HO HB sz;have sz:=BA.out.size;have x0:=bC XA.out;have xz:=lB XA.out;refine rX (by kernel_rfl) (by kernel_rfl) ?_
    repeat (go_big_quiet_step (fail))
    refine wpQuiet_nil ?_;intro w4 hb4;have hb4:=bX hb4;have O4:=LH (OA.out.below hb4);have X4:=LH (bB XA.out hb4);have B4:=LH (BA.out.trans (hb4.mono sz));clear hb4 OA XA BA x0 xz;have x0:=bC X4.out;have xz:=lB X4.out;have sz4:=B4.out.size;have O5:=LH (O4.out.alloc (.cells #[.int .i64 x1,.int .i64 x2] 216));go_wp2_with ((at_builtin;refine wpList_push tyN rfl _ _ rfl encN w4 w2.heap.size (.slice Ao ([] :List Nd).length co) [] rfl O4.out (x1,x2) (by go_simp) rfl ?c1 ?c2 ?c3 ?c4))
    try case c1=>simp
    try case c2=>simp [maxLen]
    try case c3=>exact sz4
    case c4=>
     intro v5 w5 ho5 _ _ _ hb5 _;have H5:=LH (And.intro ho5 (B4.out.trans hb5));clear ho5 hb5;go_wp2_with fail;go_roundw
     case rel=>exact⟨q+1,by omega,by go_num,by rw [HN.out];exact H5.out.1,H5.out.2⟩
     case measure=>simp [intOf];omega
   ·have HN:=LH hN
    clear hN;obtain⟨g,oo,n,co,rfl,hn⟩:=own_last HO.out;have hn':=LH hn;clear hn;have OA:=LH (HO.out.alloc (.cells #[.int .i64 x1,.int .i64 x2] 216));have BA:=LH (HB.out.alloc sz (.cells #[.int .i64 x1,.int .i64 x2] 216));have XA:=LH (heap_alloc_new wr (.cells #[.int .i64 x1,.int .i64 x2] 216));go_upto_region 13 with fail;obtain⟨px,hpx⟩ : ∃p,p=wr.heap.size:=⟨_,rfl⟩;rw [←hpx] at XA⊢;generalize wr.alloc (.cells #[.int .i64 x1,.int .i64 x2] 216) =w3 at OA BA XA⊢;clear hpx d0 d1 lb HO HB sz;have sz:=BA.out.size;have x0:=bC XA.out;have xz:=lB XA.out;obtain⟨gl,hgb,gf,c0,c1⟩:=own_last_cells OA.out;obtain⟨y1,y2⟩:=y;simp only at c0 c1 hy0 hyx HN;have hn:=hn'.out;have k0:wrap64 ((n:Int) - 1) = (L.length:Int):=by unfold wrap64;omega
    have k1: (0:Int) < (n:Int):=by omega
    have k1n:0<n:=by omega
    have k1d:decide ((0:Int) < (n:Int)) =true:=by simp;omega
    have k1e:decide (0<n) =true:=by simp;omega
    have k1g:decide ((n:Int) >0) =true:=by simp;omega
    have k2: (L.length:Int) < (n:Int):=by omega
    have k3: (0:Int)≤(L.length:Int):=by omega
    have kw:wrap64 (y2+x2) =y2+x2:=by unfold wrap64;omega
    have k0':IntKind.i64.wrap ((n:Int) - 1) = (L.length:Int):=by rw [IntKind.wrap_i64];omega
    have kw':IntKind.i64.wrap (y2+x2) =y2+x2:=by rw [IntKind.wrap_i64];omega
    clear hn;by_cases hxy:y1=x1
    ·subst hxy
     have HN2:Hid (addAll [] (S.take (q+1)) =L ++ [(y1,y2+x2)]):=LH (by rcases HN.out with ⟨_,h⟩ | ⟨h,_⟩ <;> first|exact h|exact absurd rfl h);clear HN;refine rX (by kernel_rfl) (by kernel_rfl) ?_
     repeat (go_big_quiet_step (fail))
     refine wpQuiet_nil ?_;intro w4 hb4;have hb4:=bX hb4;have S4:Hid (BumpS w2 g oo n co L (y1,y2) px y1 x2 w4):=LH ⟨OA.out.below hb4,bB XA.out hb4,BA.out.trans (hb4.mono sz)⟩;clear hb4 OA XA BA x0 xz gl hgb gf c0 c1 sz;go_upto_region 14 with fail;refine wp_region_noPanic ?_;refine wp_region_N (fun W'=>BumpS w2 g oo n co L (y1,y2) px y1 x2 W') [11] (by kernel_rfl) (⟨S4.out.1.drew,S4.out.2.1,S4.out.2.2.drew⟩) (fun hHeld=> ?_);have S5:=LH hHeld;refine nP 0 (Value.slice (some ⟨g,oo,none⟩) n co) (h:= ?_)
     (try simp only [zA,zB,zC,Act.put,zD,zE,zF])
     refine nP 1 (Value.int .i64 n) (h:= ?_)
     (try simp only [zA,zB,zC,Act.put,zD,zE,zF])
     refine nP 2 (Value.int .i64 L.length) (h:= ?_)
     (try simp only [zA,zB,zC,Act.put,zD,zE,zF])
     refine nP 3 (Value.pointer (some ⟨g,oo+L.length*2,none⟩)) (h:= ?_)
     (try simp only [zA,zB,zC,Act.put,zD,zE,zF])
     refine nP 4 (Value.pointer (some ⟨g,oo+L.length*2+1,none⟩)) (h:= ?_)
     (try simp only [zA,zB,zC,Act.put,zD,zE,zF])
     refine nT 5 (Value.int .i64 y2) (y:=Or.inl ⟨by rfl,fun W hW=>by have q1:=bC hW.2.1;have q2:=lB hW.2.1;obtain⟨q3,_,_,q4,q5⟩:=own_last_cells hW.1;go_simp⟩) (s:=S5.out) (h:= ?_)
     (try simp only [zA,zB,zC,Act.put,zD,zE,zF])
     refine nP 6 (Value.pointer (some ⟨px,1,none⟩)) (h:= ?_)
     (try simp only [zA,zB,zC,Act.put,zD,zE,zF])
     refine nT 7 (Value.int .i64 x2) (y:=Or.inl ⟨by rfl,fun W hW=>by have q1:=bC hW.2.1;have q2:=lB hW.2.1;obtain⟨q3,_,_,q4,q5⟩:=own_last_cells hW.1;go_simp⟩) (s:=S5.out) (h:= ?_)
     (try simp only [zA,zB,zC,Act.put,zD,zE,zF])
     refine nP 8 (Value.int .i64 (y2+x2)) (h:= ?_)
     (try simp only [zA,zB,zC,Act.put,zD,zE,zF])
     refine nP 9 (Value.pointer (some ⟨g,oo+L.length*2,none⟩)) (h:= ?_)
     (try simp only [zA,zB,zC,Act.put,zD,zE,zF])
     refine nP 10 (Value.pointer (some ⟨g,oo+L.length*2+1,none⟩)) (h:= ?_)
     (try simp only [zA,zB,zC,Act.put,zD,zE,zF])
     obtain⟨gl,_,gf,c0,c1⟩:=own_last_cells S5.out.1;refine nO (i:=11) (by kernel_rfl) rfl (fun K hK=> ?_);go_simp;refine hK.out _ _ (fun h _=>absurd (List.mem_singleton.2 rfl) h) ?_;clear hK K gl gf c0 c1
     (try simp only [zA,zB,zC,Act.put,zD,zE,zF])
     refine nD (by kernel_rfl) ?_ _;refine NoPanic.normal ?_;have O6:=LH (bump_own S5.out);have B6:=LH (bump_below S5.out (.int .i64 (y2+x2)) (o:=oo+L.length*2+1));clear S4 S5;go_wp2_with fail;go_roundw
     case rel=>exact⟨q+1,by omega,by go_num,by rw [HN2.out];exact O6.out,B6.out⟩
     case measure=>simp [intOf];omega
    ·have HN2:Hid (addAll [] (S.take (q+1)) = (L ++ [(y1,y2)]) ++ [(x1,x2)]):=LH (by rcases HN.out with ⟨h,_⟩ | ⟨_,h⟩ <;> first|exact absurd h hxy|exact h)
     have hne: (y1 == x1) =false:=by simpa using hxy
     clear HN hxy;refine rX (by kernel_rfl) (by kernel_rfl) ?_
     repeat (go_big_quiet_step (fail))
     refine wpQuiet_nil ?_;intro w4 hb4;have hb4:=bX hb4;have S4:Hid (BumpS w2 g oo n co L (y1,y2) px x1 x2 w4):=LH ⟨OA.out.below hb4,bB XA.out hb4,BA.out.trans (hb4.mono sz)⟩;clear hb4 OA XA BA x0 xz gl hgb gf c0 c1 sz;have x0:=bC S4.out.2.1;have xz:=lB S4.out.2.1;have sz4:=S4.out.2.2.size;have O4:=LH S4.out.1;have B4:=LH S4.out.2.2;clear S4;go_wp2_with ((at_builtin;refine wpList_push tyN rfl _ _ rfl encN w4 w2.heap.size (.slice (some ⟨g,oo,none⟩) n co) (L ++ [(y1,y2)]) rfl O4.out (x1,x2) (by go_simp) rfl ?d1 ?d2 ?d3 ?d4))
     case d1=>have:=hn'.out;(try simp only [List.length_append,List.length_cons,List.length_nil]);omega
     case d2=>have:=hn'.out;unfold maxLen;(try simp only [List.length_append,List.length_cons,List.length_nil]);omega
     try case d3=>exact sz4
     case d4=>
      intro v5 w5 ho5 _ _ _ hb5 _;have H5:=LH (And.intro ho5 (B4.out.trans hb5));clear ho5 hb5;go_wp2_with fail;go_roundw
      case rel=>exact⟨q+1,by omega,by go_num,by rw [HN2.out];simpa using H5.out.1,H5.out.2⟩
      case measure=>simp [intOf];omega
  ·obtain rfl:q=S.length:=by omega
   have HO2:Hid (Own wr w2.heap.size 216 encN u6 (addAll [] S)):=LH (by have:=HO.out;rwa [List.take_length] at this);clear HO;go_wp2_with fail
   go_ret2
   exact⟨_,rfl,HO2.out.base_le B2.out.size,B2.out.trans (HB.out.mono B2.out.size)⟩
def massR (l:Nat) (r:List Nd) (p:Int) :Int×Int:=if (kidsOf l p).2.2=true then (pairR r p,pairR r p+getR r p) else (0,0)
structure StepsIs (l:Int) (r:List Nd) (S:List Int) :Prop where
 up:S.Pairwise (· < ·)
 mem: ∀z,z∈S↔∃x∈r,(endsOf l x.1).2.1=z
def pickB (c:Prop) [Decidable c] (x y:Option Addr) :Option Addr:=if c then x else y
theorem slice_pickB (c:Prop) [Decidable c] (x y:Option Addr) (n m:Nat) :Value.slice (if c then x else y) n m=Value.slice (pickB c x y) n m:=rfl
section
attribute [local go_sem] slice_pickB
end
end Go.Proofs.YtmdidmclfbfmiaaGreatDoor
