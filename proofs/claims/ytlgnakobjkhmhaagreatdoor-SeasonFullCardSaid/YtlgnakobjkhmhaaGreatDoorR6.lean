/-
  Texts of this proof, one behind the other: Ref10Of, BagMade, RoomLaw, JoinLaw, HearLaw, Ref27L, Ref29D, Ref22F, VaryGet, CrewOf, LetDec, LetDecD, LetDecW, Reader, ReaderI, ReadP, Ref24C, ConcatN, FoldN, Ref11, Ref16S, Ref11A, Ref11B, Ref06S, Ref06T, FoldS.
-/
import Derived.Deep.RegionWith
import Derived.Lib.AppendZeros
import Derived.Deep.DeepCutAuto
import Derived.Test.YtlgnakobjkhmhaaGreatDoorR1
import Derived.Test.YtlgnakobjkhmhaaGreatDoorR2
import Derived.Test.YtlgnakobjkhmhaaGreatDoorR3
import Derived.Test.YtlgnakobjkhmhaaGreatDoorR4
import Derived.Test.YtlgnakobjkhmhaaGreatDoorR5
set_option linter.unusedVariables false
set_option linter.unusedSimpArgs false
set_option maxRecDepth 100000
set_option maxHeartbeats 16000000
namespace Go.Proofs.YtlgnakobjkhmhaaGreatDoor
open Go.ChangeShapes Go.WideShapes Go.ChangeAt Go.RowKit

def madeB (l:Nat) (r:List Nd) :List Nd:=r.foldl (fun m z=>(addB l m z.1 z.2).1) []
def sumP (P:List Int) (g:Int→Int) :Int:=(P.map g).sum
theorem sumP_add (P:List Int) (g h:Int→Int) :sumP P (fun p=>g p+h p) =sumP P g+sumP P h:=by
 unfold sumP
 induction P with
 |nil=>rfl
 |cons p P ih=>simp only [List.map_cons,List.sum_cons,ih];omega
theorem sumP_zero (P:List Int) (a c:Int) (h:a∉P) :sumP P (fun p=>if a=p then c else 0) =0:=by
 unfold sumP
 induction P with
 |nil=>rfl
 |cons p P ih=>
  simp only [List.map_cons,List.sum_cons];rw [ih fun hm=>h (List.mem_cons_of_mem _ hm),if_neg (by rintro rfl;exact h (by simp))]
  rfl
theorem sumP_one (P:List Int) (hP:P.Nodup) (a c:Int) (h:a∈P) :sumP P (fun p=>if a=p then c else 0) =c:=by
 induction P with
 |nil=>simp at h
 |cons p P ih=>
  obtain⟨h1,h2⟩:=List.nodup_cons.1 hP;have e:sumP (p :: P) (fun p=>if a=p then c else 0) = (if a=p then c else 0) +sumP P (fun p=>if a=p then c else 0):=by simp [sumP]
  rw [e];by_cases hap:a=p
  ·subst hap
   rw [if_pos rfl,sumP_zero P a c h1];omega
  ·rw [if_neg hap,ih h2 (by simpa [hap] using h)];omega
theorem sumP_le {P:List Int} {g h:Int→Int} (hg: ∀p∈P,g p≤h p) :sumP P g≤sumP P h:=by
 unfold sumP
 induction P with
 |nil=>simp
 |cons p P ih=>
  simp only [List.map_cons,List.sum_cons];have:=hg p (by simp);have:=ih fun q hq=>hg q (by simp [hq]);omega
theorem sumP_const (P:List Int) (c:Int) :sumP P (fun _=>c) =P.length*c:=by
 unfold sumP
 induction P with
 |nil=>simp
 |cons p P ih=>simp only [List.map_cons,List.sum_cons,ih,List.length_cons];push_cast;rw [Int.add_mul];omega
theorem pairR_cons {x:Nd} {r:List Nd} (h:Roll (x :: r)) (p:Int) :pairR (x :: r) p= (if x.1 / 2=p then x.2 else 0) +pairR r p:=by
 have hn:getR r x.1=0:=getR_none fun y hy=>by have:=h.head y hy;omega
 unfold pairR;simp only [getR];by_cases h1:x.1=2*p
 ·rw [if_pos h1,if_neg (by omega),if_pos (by omega)]
  rw [h1] at hn;omega
 ·rw [if_neg h1]
  by_cases h2:x.1=2*p+1
  ·rw [if_pos h2,if_pos (by omega)]
   rw [h2] at hn;omega
  ·rw [if_neg h2,if_neg (by omega)];omega
theorem getR_cons {x:Nd} {r:List Nd} (h:Roll (x :: r)) (p:Int) :getR (x :: r) p= (if x.1=p then x.2 else 0) +getR r p:=by
 have hn:getR r x.1=0:=getR_none fun y hy=>by have:=h.head y hy;omega
 simp only [getR];by_cases h1:x.1=p
 ·rw [if_pos h1,if_pos h1];rw [h1] at hn;omega
 ·rw [if_neg h1,if_neg h1];omega
theorem sum_pairs_le {P:List Int} (hP:P.Nodup) : ∀{r:List Nd},Roll r→sumP P (pairR r)≤sumR r:=by
 intro r
 induction r with
 |nil=>intro _;have:pairR [] =fun _=>0:=by funext p;rfl
       rw [this,sumP_const];simp [sumR]
 |cons x r ih=>
  intro h;have e:pairR (x :: r) =fun p=>(if x.1 / 2=p then x.2 else 0) +pairR r p:=by funext p;exact pairR_cons h p
  rw [e,sumP_add];have h1:=ih h.tail;have h2:=(h.2 x (by simp)).2;simp only [sumR];by_cases hm:x.1 / 2∈P
  ·rw [sumP_one P hP _ _ hm];omega
  ·rw [sumP_zero P _ _ hm];omega
theorem sum_own_le {P:List Int} (hP:P.Nodup) : ∀{r:List Nd},Roll r→sumP P (getR r)≤sumR r:=by
 intro r
 induction r with
 |nil=>intro _;have:getR [] =fun _=>0:=by funext p;rfl
       rw [this,sumP_const];simp [sumR]
 |cons x r ih=>
  intro h;have e:getR (x :: r) =fun p=>(if x.1=p then x.2 else 0) +getR r p:=by funext p;exact getR_cons h p
  rw [e,sumP_add];have h1:=ih h.tail;have h2:=(h.2 x (by simp)).2;simp only [sumR];by_cases hm:x.1∈P
  ·rw [sumP_one P hP _ _ hm];omega
  ·rw [sumP_zero P _ _ hm];omega
theorem sum_pairs_ge {P:List Int} (hP:P.Nodup) : ∀{r:List Nd},Roll r→(∀x∈r,x.1≠1→x.1 / 2∈P)→sumR r≤sumP P (pairR r) +getR r 1:=by
 intro r
 induction r with
 |nil=>intro _ _;have:pairR [] =fun _=>0:=by funext p;rfl
       rw [this,sumP_const];simp [sumR,getR]
 |cons x r ih=>
  intro h hc;have e:pairR (x :: r) =fun p=>(if x.1 / 2=p then x.2 else 0) +pairR r p:=by funext p;exact pairR_cons h p
  rw [e,sumP_add,getR_cons h];have h1:=ih h.tail fun y hy=>hc y (by simp [hy]);have h2:=(h.2 x (by simp)).2;simp only [sumR];by_cases h1':x.1=1
  ·rw [if_pos h1']
   have:0≤sumP P (fun p=>if x.1 / 2=p then x.2 else 0):=by
    by_cases hm:x.1 / 2∈P
    ·rw [sumP_one P hP _ _ hm];omega
    ·rw [sumP_zero P _ _ hm];omega
   omega
  ·rw [if_neg h1',sumP_one P hP _ _ (hc x (by simp) h1')];omega
def onesR (r:List Nd) :List Nd:=r.map fun x=>(x.1,1)
theorem ones_roll {r:List Nd} (h:Roll r) :Roll (onesR r):=by
 refine⟨?_,fun x hx=> ?_⟩
 ·unfold onesR;rw [List.pairwise_map];exact h.1
 ·obtain⟨y,hy,rfl⟩:=List.mem_map.1 hx
  have:=h.2 y hy;exact⟨this.1,Int.le_refl _⟩
theorem ones_sum (r:List Nd) :sumR (onesR r) =r.length:=by
 induction r with
 |nil=>rfl
 |cons x r ih=>simp only [onesR,List.map_cons,sumR,List.length_cons] at ih⊢;rw [ih];push_cast;omega
theorem ones_get (r:List Nd) (id:Int) :getR (onesR r) id≤1:=by
 induction r with
 |nil=>simp [onesR,getR]
 |cons x r ih=>
  simp only [onesR,List.map_cons,getR] at ih⊢
  split
  ·omega
  ·exact ih
theorem tight_len {l:Nat} {r:List Nd} (hf:Fits l r) (hl:1≤l∧l≤48) {k:Int} (hk:1≤k) (ht: ∀p,readyR l r p (sumR r / k) =false) : (r.length:Int)≤4*k - 1:=by
 have hP:=(putAll_wait (halves r)).once;have hPm:=putAll_mem (halves r);generalize putAll (halves r) =P at hP hPm
 have hcov: ∀x∈r,x.1≠1→x.1 / 2∈P:=fun x hx h1=>by
  have:=(hf.roll.2 x hx).1;exact(hPm _).2 ⟨by omega,List.mem_map.2 ⟨x,hx,rfl⟩⟩
 have hbig: ∀p∈P,sumR r / k+1≤pairR r p+getR r p:=fun p hp=>by
  obtain⟨h1,h2⟩:=(hPm p).1 hp;obtain⟨x,hx,rfl⟩:=List.mem_map.1 h2;have h3:=hf.lt x hx;have h4:=(hf.roll.2 x hx).2;have h5:=getR_mem hf.roll hx;have h6:=hf.nodes hl x hx
  have hpos:0<pairR r (x.1 / 2):=by
   have g1:=getR_nonneg hf.roll (2* (x.1 / 2));have g2:=getR_nonneg hf.roll (2* (x.1 / 2) +1);unfold pairR;rcases (by omega:x.1=2* (x.1 / 2)∨x.1=2* (x.1 / 2) +1) with e|e
   ·have e':=congrArg (getR r) e
    omega
   ·have e':=congrArg (getR r) e
    omega
  have hk1: (kidsOf l (x.1 / 2)).2.2=true:=by
   rw [kids_iff];refine⟨?_,by omega⟩;have hp:=pow_pos' l;simp only [isNode,decide_eq_true_eq,Int.toNat_natCast] at h6⊢;omega
  have hnot:=ht (x.1 / 2);rw [←Bool.not_eq_true,ready_iff] at hnot
  apply Classical.byContradiction
  intro hc;exact hnot ⟨hk1,hpos,by omega⟩
 have a1:=sum_pairs_le hP hf.roll;have a2:=sum_own_le hP hf.roll;have a3:=sumP_le hbig;rw [sumP_const P (sumR r / k+1),sumP_add P (pairR r) (getR r)] at a3
 have a4:=sum_pairs_ge hP (ones_roll hf.roll) (fun x hx h1=>by
  obtain⟨y,hy,rfl⟩:=List.mem_map.1 hx;exact hcov y hy h1)
 rw [ones_sum] at a4
 have a5:sumP P (pairR (onesR r))≤sumP P (fun _=>2):=sumP_le fun p _=>by
  have:=ones_get r (2*p);have:=ones_get r (2*p+1);unfold pairR;omega
 rw [sumP_const] at a5;have a6:=ones_get r 1;have hN:=sumR_nonneg hf.roll
 have hm:sumR r<k* (sumR r / k+1):=by
  have:=Int.lt_ediv_add_one_mul_self (sumR r) (show 0<k by omega);rw [Int.mul_comm];exact this
 have hm0:0≤sumR r / k:=Int.ediv_nonneg hN (by omega)
 have hP2: (P.length:Int) <2*k:=by
  apply Classical.byContradiction
  intro hc;have:2*k* (sumR r / k+1)≤P.length* (sumR r / k+1):=Int.mul_le_mul_of_nonneg_right (by omega) (by omega);rw [Int.mul_assoc] at this;omega
 omega
theorem total_ok {n:Int} {r:List Nd} (h1: ∀x∈r,1≤x.2) (hn:0≤n) (hs:n+sumR r≤72057594037927935) :totalFrom n r= (n+sumR r,true):=by
 induction r generalizing n with
 |nil=>simp [totalFrom,sumR]
 |cons x r ih=>
  have h2:=h1 x (by simp);have h3:=(sumR_pos fun y hy=>h1 y (List.mem_cons_of_mem _ hy)).1;simp only [sumR] at hs⊢;have e:addOf n x.2= (n+x.2,true):=by unfold addOf;rw [if_pos (by omega)]
  simp only [totalFrom,e];rw [if_pos ⟨trivial,by unfold most;omega⟩,ih (fun y hy=>h1 y (List.mem_cons_of_mem _ hy)) (by omega) (by omega)]
  congr 1;omega
theorem rises_ok {l last:Int} {r:List Nd} (h: ∀x∈r,last<x.1∧isNode l x.1=true∧1≤x.2) (hp:r.Pairwise fun a b=>a.1<b.1) :risesFrom l last r=true:=by
 induction r generalizing last with
 |nil=>rfl
 |cons x r ih=>
  obtain⟨h1,h2,h3⟩:=h x (by simp);obtain⟨p1,p2⟩:=List.pairwise_cons.1 hp;simp only [risesFrom,Bool.and_eq_true,decide_eq_true_eq];exact⟨⟨⟨h1,h2⟩,h3⟩,ih (fun y hy=>⟨p1 y hy,(h y (List.mem_cons_of_mem _ hy)).2⟩) p2⟩
theorem fits_right {l:Nat} {r:List Nd} (hf:Fits l r) (hl:1≤l∧l≤48) :rightOf l r=true:=by
 have hp:=pow_pos' l;unfold rightOf totalOf;rw [total_ok (fun x hx=>(hf.roll.2 x hx).2) (Int.le_refl _) (by have:=hf.sum;omega),rises_ok (fun x hx=>⟨by have:=(hf.roll.2 x hx).1;omega,hf.nodes hl x hx,(hf.roll.2 x hx).2⟩) hf.roll.1];simp only [Bool.true_and,isNode,decide_eq_true_eq,Int.toNat_natCast];omega
def joinR (a b:List Nd) :List Nd:=addAll [] (msort (a ++ b))
theorem joinR_sum {a b:List Nd} (ha:Roll a) (hb:Roll b) :SumOf a b (joinR a b):=fold_sum ha hb
theorem addAll_len: ∀(L r:List Nd),(addAll r L).length≤r.length+L.length:=by
 intro L
 induction L with
 |nil=>intro r;simp [addAll]
 |cons x L ih=>
  intro r;have h1:=ih (addR r x.1 x.2);have h2:=addR_len r x.1 x.2;simp only [addAll,List.foldl_cons,List.length_cons] at h1⊢;omega
theorem joinR_len (a b:List Nd) : (joinR a b).length≤a.length+b.length:=by
 have h:=addAll_len (msort (a ++ b)) [];rw [msort_len,List.length_append,List.length_nil] at h;unfold joinR;omega
theorem fits_ints {l:Nat} {r:List Nd} (hf:Fits l r) (hl:l≤48) :ints r:=by
 intro x hx;have h1:=hf.roll.2 x hx;have h2:=hf.lt x hx;have h3:=getR_le_sum hf.roll x.1;rw [getR_mem hf.roll hx] at h3;have h4:=hf.sum;have h5: (2:Int) ^l≤2^48:=by exact_mod_cast Nat.pow_le_pow_right (by decide) hl
 have h6: (2:Int) ^48=281474976710656:=by decide
 unfold i64;omega
theorem light_weaker {l:Nat} {k k2:Int} {r:List Nd} (hf:Roll r) (h:lightOf l r k=true) (h1:1≤k2) (h2:k2≤k) :lightOf l r k2=true:=light_of fun x hx hk=>by
 have a:=light_all h x hx hk;have s0:=sumR_nonneg hf
 have:sumR r / k≤sumR r / k2:=by
  have e1:=Int.mul_ediv_add_emod (sumR r) k;have e2:=Int.emod_nonneg (sumR r) (show k≠0 by omega);have q0:0≤sumR r / k:=Int.ediv_nonneg s0 (by omega);refine Int.le_ediv_of_mul_le (by omega) ?_;have:sumR r / k*k2≤sumR r / k*k:=Int.mul_le_mul_of_nonneg_left h2 q0;have e3:k* (sumR r / k) =sumR r / k*k:=Int.mul_comm _ _;omega
 omega
structure Joined (l:Nat) (k2:Int) (ra rb rc:List Nd) :Prop where
 fits:Fits l rc
 light:lightOf l rc k2=true
 room: (rc.length:Int)≤8*k2
 len:rc.length≤ra.length+rb.length
 sum:sumR rc=sumR ra+sumR rb
 by_: ∃pa sa pb sb,RunTo l (sumR ra / k2) ra pa sa∧RunTo l (sumR rb / k2) rb pb sb∧rc=joinR sa sb
theorem joined_of {l:Nat} {k2:Int} {ra rb sa sb:List Nd} {pa pb:List Int} (hl:1≤l∧l≤48) (hk:1≤k2) (fa:Fits l ra) (fb:Fits l rb) (la:lightOf l ra k2=true) (lb:lightOf l rb k2=true) (hs:sumR ra+sumR rb≤72057594037927935)
 (ha:RunTo l (sumR ra / k2) ra pa sa) (hb:RunTo l (sumR rb / k2) rb pb sb) :Joined l k2 ra rb (joinR sa sb):=by
 have fsa:=ha.folded.fits fa;have fsb:=hb.folded.fits fb;have lsa:=ha.folded.light fa la;have lsb:=hb.folded.light fb lb;have esa:=ha.folded.sum fa;have esb:=hb.folded.sum fb;have hS:=joinR_sum fsa.roll fsb.roll;have ta:=tight_len fsa hl hk (fun p=>by rw [esa];exact ha.tight p);have tb:=tight_len fsb hl hk (fun p=>by rw [esb];exact hb.tight p);have hlen:=joinR_len sa sb;have na:=ha.folded.len fa;have nb:=hb.folded.len fb;have hsum:sumR (joinR sa sb) =sumR ra+sumR rb:=by rw [hS.sum,esa,esb]
 refine⟨⟨hS.roll,fun x hx=> ?_,by rw [hsum];exact hs⟩,light_of fun x hx hi=> ?_,by omega,by omega,hsum,pa,sa,pb,sb,ha,hb,rfl⟩
 ·rcases hS.cases fsa.roll fsb.roll hx with ⟨y,hy,e⟩ | ⟨y,hy,e⟩
  ·rw [←e];exact fsa.lt y hy
  ·rw [←e];exact fsb.lt y hy
 ·have h1:=getR_mem hS.roll hx
  have h2:=get_light fsa.roll hk lsa hi;have h3:=get_light fsb.roll hk lsb hi;have h4:=div_add_le (a:=sumR sa) (b:=sumR sb) hk;rw [hS.get] at h1;rw [hS.sum];omega
theorem Joined.load {l K:Nat} {k2:Int} {ra rb rc:List Nd} (h:Joined l k2 ra rb rc) (hl:1≤l∧l≤48) (hd:isDig l k2 K=true) :loadErr l k2 K rc=0:=by
 unfold loadErr;rw [if_neg (by simp [hd]),if_neg (by simp [fits_right h.fits hl]),if_neg (by have:=h.room;omega),if_neg (by simp [h.light])]
theorem Joined.held {l:Nat} {ka kb k2:Int} {ra rb rc ma mb:List Nd} (h:Joined l k2 ra rb rc) (ha:Held l ka ra ma) (hb:Held l kb rb mb) (hk:1≤k2) (h1:k2≤ka) (h2:k2≤kb) (hs:sumR ra+sumR rb≤72057594037927935) :Held l k2 rc (pourL ma mb):=by
 obtain⟨pa,sa,pb,sb,r1,r2,rfl⟩:=h.by_;have a2:=(ha.weaker hk h1).run r1;have b2:=(hb.weaker hk h2).run r2;exact a2.merge b2 hk (joinR_sum a2.fits.roll b2.fits.roll) (by rw [a2.sum,b2.sum,←ha.sum,←hb.sum];exact hs)
structure ReadOk (m:Nat×Int×Int×List Nd) :Prop where
 l:1≤m.1∧m.1≤48
 k:1≤m.2.1∧m.2.1≤1048576
 fits:Fits m.1 m.2.2.2
 len: (m.2.2.2.length:Int)≤8*m.2.1
 light:lightOf m.1 m.2.2.2 m.2.1=true
 sum:sumR m.2.2.2=m.2.2.1
abbrev Read4:=(Nat×Int×Int×List Nd)×Int
def noRd (e:Int) :Read4:=((0,0,0, []),e)
def rd4 (l k n:Nat) (c:List Nd×List UInt8×Int×Int) :Read4:=
 if c.2.2.2≠0 then noRd c.2.2.2 else if c.2.1≠ [] then noRd 11 else if 0<c.2.2.1 then noRd 10 else if lightOf l c.1 (k:Int) =false then noRd 13 else ((l,(k:Int),(n:Int),c.1),0)
def rd3 (l k n:Nat) (f:List Int×Nat×Int) (s2:List UInt8) :Read4:=
 if f.2.2≠0 then noRd f.2.2 else if (f.1.all fun id=>isNode l id) =false then noRd 10 else rd4 l k n (cntF f.1 (s2.drop f.2.1) (n:Int) [])
def rd2 (l k:Nat) (n:Nat×Nat×Int) (s1:List UInt8) :Read4:=
 if n.2.2≠0 then noRd n.2.2 else if 72057594037927935<n.1 then noRd 10 else rd3 l k n.1 (fallB (s1.drop n.2.1) (8* (k:Int))) (s1.drop n.2.1)
def rd1 (l:Nat) (k:Nat×Nat×Int) (s0:List UInt8) :Read4:=
 if k.2.2≠0 then noRd k.2.2 else if k.1<1∨1048576<k.1 then noRd 10 else rd2 l k.1 (getB (s0.drop k.2.1)) (s0.drop k.2.1)
def rd0 (s:List UInt8) :Read4:=
 match s with
 | []=>noRd 9
 |b :: s0=>if b.toNat<1∨48<b.toNat then noRd 10 else rd1 b.toNat (getB s0) s0
def rdW (o:List UInt8×Int) :Read4:=if o.2≠0 then noRd o.2 else if o.1.length<4 then noRd 9 else if o.1.take 4≠ [68,87,80,1] then noRd 10 else rd0 (o.1.drop 4)
def apartC (a b:Nat) :Bool:=decide (a &&& b=0)
def refusedE (s:Sen) (x:Ltr) :Int:=if x.e≠s.ep then 17 else if hasC s.p.kids x.f=false then 16 else if s.sent=true then 18 else if hasC s.heard x.f=true∨apartC s.cover x.c=false then 19 else 0
def moreE (l:Nat) (k:Int) (r:List Nd) (m: (Nat×Int×Int×List Nd)×Int) :Int:=if m.2≠0 then m.2 else if m.1.1≠l∨m.1.2.1≠k then 6 else if 72057594037927935<sumR r+sumR m.1.2.2.2 then 5 else 0
def hearE (l:Nat) (s:Sen) (r:List Nd) (text:List UInt8) :Int:=
 if (decL text).2≠0 then (decL text).2 else if refusedE s (decL text).1≠0 then refusedE s (decL text).1 else moreE l s.k r (readW (decL text).1.b)
def heardS (s:Sen) (x:Ltr) :Sen:={s with heard:=withC s.heard x.f,cover:=s.cover ||| x.c}
def HearTo (l:Nat) (s:Sen) (r:List Nd) (text:List UInt8) (s':Sen) (r':List Nd) :Prop:=
 (hearE l s r text≠0∧s'=s∧r'=r)∨(hearE l s r text=0∧s'=heardS s (decL text).1∧Joined l s.k r (readW (decL text).1.b).1.2.2.2 r')
def listN (s n:Nat) :List Int:=List.map (fun i:Nat=>(i:Int)) ((List.range n).filter fun i=>hasN s i)
def listC (s:Nat) :List Int:=listN s 48
def noL (e:Int) :Ltr×Int:=(noLtr,e)
def dl4 (a b c n:Nat) (s:List UInt8) :Ltr×Int:=if s.length<n then noL 9 else if n<s.length then noL 11 else (⟨a,b,c,s⟩,0)
def dl3 (a b c:Nat) (n:Nat×Nat×Int) (s:List UInt8) :Ltr×Int:=if n.2.2≠0 then noL n.2.2 else if 1048576<n.1 then noL 13 else dl4 a b c n.1 (s.drop n.2.1)
def dl2 (a b:Nat) (c:Nat×Nat×Int) (s:List UInt8) :Ltr×Int:=if c.2.2≠0 then noL c.2.2 else if (rightC c.1 && hasC c.1 b) =false then noL 10 else dl3 a b c.1 (getB (s.drop c.2.1)) (s.drop c.2.1)
def dl1 (a:Nat) (b:Nat×Nat×Int) (s:List UInt8) :Ltr×Int:=if b.2.2≠0 then noL b.2.2 else if isCrew b.1=false then noL 10 else dl2 a b.1 (getB (s.drop b.2.1)) (s.drop b.2.1)
def dl0 (a:Nat×Nat×Int) (s:List UInt8) :Ltr×Int:=if a.2.2≠0 then noL a.2.2 else dl1 a.1 (getB (s.drop a.2.1)) (s.drop a.2.1)
def dlW (o:List UInt8×Int) :Ltr×Int:=if o.2≠0 then noL o.2 else if o.1.length<4 then noL 9 else if o.1.take 4≠ [68,87,76,1] then noL 10 else dl0 (getB (o.1.drop 4)) (o.1.drop 4)
def LtPost (s:List UInt8) (w:World) (e:Ending) (w':World) :Prop:=
 e=.returned (.tuple #[.agg #[.int .i64 (decL s).1.e,.int .i64 (decL s).1.f,.int .u64 (decL s).1.c,.string ⟨(decL s).1.b.toArray⟩],.int .i64 (decL s).2])∧Below w.heap.size w w'
structure DcR (w:World) (W:World) :Prop where
 x:W.heap[w.heap.size]? =some (.cells #[.int .i64 0,.int .i64 0,.int .u64 0,.string ⟨#[]⟩] 106 (0,0))
 y:W.heap[w.heap.size+1]? =some (.cells #[.int .i64 0,.int .i64 0,.int .u64 0,.string ⟨#[]⟩] 106 (0,0))
 b:Below w.heap.size w W
def ArAt (W:World) (g:Nat) (a b c d:Nat) :Prop:=W.heap[g]? =some (.cells #[.int .i64 a,.int .i64 b,.int .i64 c,.int .i64 d] 156 (0,0))
def FallsPost (s:List UInt8) (most:Int) (w:World) (e:Ending) (w':World) :Prop:=
 ∃A c,e=.returned (.tuple #[.slice A (fallB s most).1.length c,.int .i64 (fallB s most).2.1,.int .i64 (fallB s most).2.2])∧Own w' w.heap.size 3 encZ (.slice A (fallB s most).1.length c) (fallB s most).1∧Below w.heap.size w w'

theorem crew_Of1 (w:World) (base:Nat) (v:Value) (i:Int) (ho:Own w base 3 encZ v [i]) :Calls Tryz.prog 152 #[v] w fun e w'=>e=.returned (.tuple #[.int .u64 (if isCrew i=true then withC 0 i else 0:Nat),.bool (isCrew i)])∧Below w.heap.size w w':=by
 obtain⟨A,c,rfl,_⟩:=ho.form;have HO:=LH (ho.base_le (Nat.zero_le _));clear ho
 go_enter Tryz.func152,Tryz.ntmps152
 go_wp2_with fail
 go_loopw [4,9] (fun u j wr=>∃q:Nat,j=.int .i64 q∧q≤1∧u=.int .u64 ((if q=0 then 0 else withC 0 i:Nat) :Int)∧(q=1→isCrew i=true)∧Below w.heap.size w wr) (fun _ j _=>1 - (intOf j).toNat)
 case atStart=>exact⟨0,rfl,by omega,rfl,by omega,Below.refl _ _⟩
 case round=>
  obtain⟨q,rfl,hq,rfl,hcr,hB⟩:=hrel;have HB:=LH hB;have HR:=LH (HO.out.below hB);have sz:=hB.size;clear hB;by_cases hlt:q=0
  ·subst hlt
   obtain⟨b,off,rfl,hb,hc⟩:=HR.out.sl.at_ (k:=0) (by simp);have d0:=hc 0 (.int .i64 i) rfl;simp only [Nat.zero_mul,Nat.add_zero] at d0;rw [if_pos rfl];clear hc hcr;go_wp2_with fail;refine(crew_is i _).mono ?_;rintro e w1 ⟨rfl,hb1⟩;have HB1:=LH (HB.out.trans (hb1.mono sz));clear hb1
   cases hi:isCrew i
   ·go_wp2_with fail
    all_goals exact bR (v:=.tuple #[.int .u64 0,.bool false]) (by simp only [results,Tryz.results152];go_simp) rfl ⟨by simp [hi],HB1.out⟩
   ·go_wp2_with fail
    refine(crew_With 0 i (by decide) _).mono ?_;rintro e w2 ⟨rfl,hb2⟩;have HB2:=LH (HB1.out.trans (hb2.mono HB1.out.size));clear hb2;go_wp2_with fail;go_roundw
    case rel=>exact⟨1,by go_num,by omega,rfl,fun _=>hi,HB2.out⟩
    case measure=>simp [intOf]
  ·obtain rfl:q=1:=by omega
   have hi:=hcr rfl;rw [if_neg (by decide)];go_wp2_with fail
   all_goals exact bR (v:=.tuple #[.int .u64 (withC 0 i:Nat),.bool true]) (by simp only [results,Tryz.results152];go_simp) rfl ⟨by simp [hi],HB.out⟩
def magL (t:List UInt8) :Bool:=decide (4≤t.length) && decide (t.take 4= [68,87,76,1])
def cutT (t:List UInt8) :List UInt8:=if magL t=true then t.drop 4 else t
structure LdS (w:World) (pe pf pl px:Nat) (e:Int) (left:List UInt8) (cs:Array Value) (W:World) :Prop where
 r:W.heap[w.heap.size]? =some (.cells #[.int .i64 0,.int .i64 0,.int .u64 0,.string ⟨#[]⟩] 190 (0,0))
 e:W.heap[pe]? =some (.cells #[.int .i64 e] 23 (0,0))
 f:W.heap[pf]? =some (.cells #[.func (.func 244) #[] #[.pointer (some ⟨pe,0,none⟩)]] 300 (0,0))
 l:W.heap[pl]? =some (.cells #[.string ⟨left.toArray⟩] 9 (0,0))
 x:W.heap[px]? =some (.cells cs 190 (0,0))
 b:Below w.heap.size w W
 h1:w.heap.size<pe
 h2:pe<pf
 h3:pf<pl
 h4:pl<px
section
variable {w W W':World} {pe pf pl px:Nat} {e e2:Int} {left left2:List UInt8} {cs:Array Value}
def noteE (e:Int) (b:Bool) (f:Int) :Int:=if b=true∧e=0 then f else e
def numT (e:Int) (left:List UInt8) :Nat×Int×List UInt8:=if e=0 then ((getB left).1,(getB left).2.2,left.drop (getB left).2.1) else (0,e,left)
end
def withinC (a b:Nat) :Bool:=bits BinOp.andNot IntKind.u64 (a:Int) (b:Int) == 0
def ownC (b:Nat) :Nat:=if isCrew (b:Int) =true then withC 0 (b:Int) else 0
def p3 (a b c n:Nat) (e:Int) (left:List UInt8) :Ltr×Int:=
 let e3:=noteE (noteE (noteE e (decide (1048576<n)) 13) (decide (left.length<n)) 9) (decide (n<left.length)) 11
 if e3≠0 then noL e3 else (⟨a,b,c,left⟩,0)
def p2 (a b c:Nat) (e:Int) (left:List UInt8) :Ltr×Int:=p3 a b c (numT e left).1 (numT e left).2.1 (numT e left).2.2
def p1 (a b:Nat) (e:Int) (left:List UInt8) :Ltr×Int:=p2 a b (numT e left).1 (noteE (numT e left).2.1 (!rightC (numT e left).1 || !withinC (ownC b) (numT e left).1) 10) (numT e left).2.2
def p0 (a:Nat) (e:Int) (left:List UInt8) :Ltr×Int:=p1 a (numT e left).1 (noteE (numT e left).2.1 (!isCrew ((numT e left).1:Int)) 10) (numT e left).2.2
def pS (e:Int) (left:List UInt8) :Ltr×Int:=p0 (numT e left).1 (numT e left).2.1 (numT e left).2.2
def decP (s:List UInt8) :Ltr×Int:=pS (noteE (noteE (openT s).2 (decide ((openT s).1.length<4)) 9) (!magL (openT s).1) 10) (cutT (openT s).1)
def noteW (W:World) (pe:Nat) (e:Int) (b:Bool) (f:Int) :World:=if b=true∧e=0 then W.setCell ⟨pe,0,none⟩ (.int .i64 f) else W
def RdrAt (W:World) (pr:Nat) (s:List UInt8) (e:Int) :Prop:=W.heap[pr]? =some (.cells #[.string ⟨s.toArray⟩,.int .i64 e] 359 (0,0))
def RdTo (W:World) (pr:Nat) (s:List UInt8) (e:Int) (W':World) :Prop:=RdrAt W' pr s e∧Turn (fun b=>b=pr) W W'
section
variable {w W W' W2:World} {pr:Nat} {s s2:List UInt8} {e e2:Int}
def rawT (e:Int) (s:List UInt8) (n:Nat) :List UInt8×Int×List UInt8:=
 if noteE e (decide (s.length<n)) 9=0 then (s.take n,0,s.drop n) else ([],noteE e (decide (s.length<n)) 9,s)
def lT (e:Int) (s:List UInt8) :Nat×Int×List UInt8:=((match (rawT e s 1).1 with| []=>0|b :: _=>b.toNat),(rawT e s 1).2.1,(rawT e s 1).2.2)
def btwE (v:Nat) (e least most:Int) :Int:=noteE e (decide ((v:Int) <least) || decide (most< (v:Int))) 10
end
def PtAt (W:World) (pp:Nat) (l k kd n:Int) (A:Option Addr) (m c:Nat) :Prop:=W.heap[pp]? =some (.cells #[.int .i64 l,.int .i64 k,.int .i64 kd,.int .i64 n,.slice A m c] 341 (0,0))
def okE (l er:Int) (L:List Int) :Int:=if er≠0 then er else if (L.all fun id=>isNode l id) =true then 0 else 10
def idsT (l:Int) (e:Int) (s:List UInt8) (most:Int) :List Int×Int×List UInt8:=
 if e=0 then ((fallB s most).1,okE l (fallB s most).2.2 (fallB s most).1,s.drop (fallB s most).2.1) else ([],e,s)
def IdsPost (pr:Nat) (R:List Int×Int×List UInt8) (w:World) (en:Ending) (w':World) :Prop:=
 ∃A c,en=.returned (.slice A R.1.length c)∧Own w' w.heap.size 3 encZ (.slice A R.1.length c) R.1∧RdTo w pr R.2.2 R.2.1 w'
def cntP:List Int→List UInt8→Int→Int→List Nd→List Nd×List UInt8×Int×Int
 | [],s,e,left,out=>(out,s,e,left)
 |id :: ids,s,e,left,out=>
  if btwE (numT e s).1 (numT e s).2.1 1 left≠0 then (out ++ [(id,((numT e s).1:Int))],(numT e s).2.2,btwE (numT e s).1 (numT e s).2.1 1 left,left - ((numT e s).1:Int))
  else cntP ids (numT e s).2.2 (btwE (numT e s).1 (numT e s).2.1 1 left) (left - ((numT e s).1:Int)) (out ++ [(id,((numT e s).1:Int))])
def q4 (l k n:Nat) (C:List Nd×List UInt8×Int×Int) :Read4:=
 if noteE (noteE C.2.2.1 (decide (C.2.1≠ [])) 11) (decide (0<C.2.2.2)) 10≠0 then noRd (noteE (noteE C.2.2.1 (decide (C.2.1≠ [])) 11) (decide (0<C.2.2.2)) 10) else if lightOf l C.1 (k:Int) =false then noRd 13 else ((l,(k:Int),(n:Int),C.1),0)
def q3 (l k n:Nat) (e:Int) (s:List UInt8) :Read4:=q4 l k n (cntP (idsT l e s (8* (k:Int))).1 (idsT l e s (8* (k:Int))).2.2 (idsT l e s (8* (k:Int))).2.1 (n:Int) [])
def q2 (l k:Nat) (e:Int) (s:List UInt8) :Read4:=q3 l k (numT e s).1 (btwE (numT e s).1 (numT e s).2.1 0 72057594037927935) (numT e s).2.2
def q1 (l:Nat) (e:Int) (s:List UInt8) :Read4:=q2 l (numT e s).1 (btwE (numT e s).1 (numT e s).2.1 1 1048576) (numT e s).2.2
def q0 (e:Int) (s:List UInt8) :Read4:=q1 (lT e s).1 (btwE (lT e s).1 (lT e s).2.1 1 48) (lT e s).2.2
def qS (e:Int) (s:List UInt8) :Read4:=q0 (noteE (rawT e s 4).2.1 (!((rawT e s 4).1 == [68,87,80,1])) 10) (rawT e s 4).2.2
def CntPost (ids:List Int) (s:List UInt8) (n:Int) (w:World) (e:Ending) (w':World) :Prop:=
 ∃A c,e=.returned (.tuple #[.slice A (cntF ids s n []).1.length c,.string ⟨(cntF ids s n []).2.1.toArray⟩,.int .i64 (cntF ids s n []).2.2.2])∧Own w' w.heap.size 172 encN (.slice A (cntF ids s n []).1.length c) (cntF ids s n []).1∧Below w.heap.size w w'
theorem grow_N (w:World) (n:Nat) (hn:n≤67108864) :Calls Tryz.prog 223 #[.slice none 0 0,.int .i64 n] w (OwnPost 172 encN [] w):=by
 by_cases h0:n=0
 ·subst h0
  go_enter Tryz.func223,Tryz.ntmps223
  go_wp2_with fail;go_ret;exact⟨_,rfl,Own.nil _ _ _ _,bE⟩
 ·obtain⟨i,hi,e1⟩:=Option.map_eq_some_iff.1 tyN.hinfo
  simp only [Prod.mk.injEq] at e1;obtain⟨hz,hsize,hby⟩:=e1;have h1: ¬(n:Int) <0:=by omega
  have h4: (n:Int) >0:=by omega
  have hrz: ∀ty,(Builtin.append_ #[169,3] ty #[.slice none 0 0,.int .i64 n]).run Tryz.prog w=
   .ok (.slice (some ⟨w.heap.size,0,none⟩) n (grownCap w n 0 172)) (w.drew.alloc (.cells (Builtin.zeroCells (Value.agg #[.int .i64 0,.int .i64 0]).cells n ++ Builtin.zeroCells (Value.agg #[.int .i64 0,.int .i64 0]).cells (grownCap w n 0 172 - n)) 172)):=fun ty=>
   Lib.run_append_nil_zeros w 169 3 ty 172 i _ .i64 .i64 Tryz.underlying169 Tryz.underlying3 hi hz n (by omega) (by omega) (by omega) (by rw [hby];omega)
  have hGn:n≤grownCap w n 0 172:=grownCap_ge w _ _ _;have hGm:=grownCap_le_maxLen w n 0 172 (by unfold maxLen;omega);generalize grownCap w n 0 172=G at hrz hGn hGm
  have HO:Hid (Own (w.drew.alloc (.cells (Builtin.zeroCells (Value.agg #[.int .i64 0,.int .i64 0]).cells n ++ Builtin.zeroCells (Value.agg #[.int .i64 0,.int .i64 0]).cells (G - n)) 172)) w.heap.size 172 encN (.slice (some ⟨w.heap.size,0,none⟩) 0 G) []):=LH
   (.inr ⟨w.heap.size,0,G,_,rfl,Nat.le_refl _,heap_alloc_new w.drew _,by simp,hGm,by simp only [Array.size_append,size_zeroCells,tyN.hzs];omega,fun j u hj=>by simp at hj⟩)
  have hG63:G≤9223372036854775807:=by unfold maxLen at hGm;omega
  have HB:Hid (Below w.heap.size w (w.drew.alloc (.cells (Builtin.zeroCells (Value.agg #[.int .i64 0,.int .i64 0]).cells n ++ Builtin.zeroCells (Value.agg #[.int .i64 0,.int .i64 0]).cells (G - n)) 172))):=LH bE;clear hi hz hsize hby;generalize w.drew.alloc (.cells (Builtin.zeroCells (Value.agg #[.int .i64 0,.int .i64 0]).cells n ++ Builtin.zeroCells (Value.agg #[.int .i64 0,.int .i64 0]).cells (G - n)) 172) =w1 at hrz HO HB
  go_enter Tryz.func223,Tryz.ntmps223
  go_wp2_with (at_builtin;refine Lib.wpList_append_run _ rfl _ _ _ _ rfl _ _ rfl rfl _ _ (hrz _) ?_);go_ret;exact⟨_,rfl,HO.out,HB.out⟩
abbrev SlV:=Option Addr×Nat×List Nd
def encSl:Enc SlV 1:=⟨fun s=> [.slice s.1 s.2.2.length s.2.1],fun _=>rfl,by intro x u hu;simp at hu;subst hu;rfl⟩
def allN (ss:List SlV) :List Nd:=ss.flatMap (·.2.2)
theorem allN_take {ss:List SlV} {q:Nat} (h:q<ss.length) :allN (ss.take (q+1)) =allN (ss.take q) ++ ss[q].2.2:=by
 unfold allN;rw [List.take_succ_eq_append_getElem h,List.flatMap_append];simp
theorem allN_len_take (ss:List SlV) (q:Nat) : (allN (ss.take q)).length≤(allN ss).length:=by
 conv=>rhs;rw [←List.take_append_drop q ss]
 unfold allN;rw [List.flatMap_append,List.length_append];omega
theorem concat_N (w:World) (A:Option Addr) (cap:Nat) (ss:List SlV) (hS:Sl w w.heap.size encSl A ss) (hE: ∀s∈ss,Sl w w.heap.size encN s.1 s.2.2) (hn: (allN ss).length≤67108864) (hk:ss.length≤67108864) :
 Calls Tryz.prog 173 #[.slice A ss.length cap] w (OwnPost 172 encN (allN ss) w):=by
 have HS:=LH hS;have HE:=LH hE;have HT:=LH (fun q (h:q<ss.length)=>allN_take h);have HL:=LH (fun q=>Nat.le_trans (allN_len_take ss q) hn);clear hS hE
 go_enter Tryz.func173,Tryz.ntmps173
 go_wp2_with fail
 go_loopw [3,11] (fun n i wr=>∃q,q≤ss.length∧i=.int .i64 q∧n=.int .i64 (allN (ss.take q)).length∧w=wr) (fun _ i _=>ss.length - (intOf i).toNat)
 case atStart=>exact⟨0,Nat.zero_le _,rfl,by simp [allN],rfl⟩
 case round=>
  obtain⟨q,hq,rfl,rfl,rfl⟩:=hrel;by_cases hlt:q<ss.length
  ·obtain⟨b,off,rfl,hb,hc⟩:=HS.out.at_ hlt
   have d0:=hc 0 _ rfl;simp only [Nat.add_zero,Nat.mul_one] at d0;have e1:=HT.out q hlt;have e2:=HL.out (q+1);have e3: (allN (ss.take (q+1))).length= (allN (ss.take q)).length+ss[q].2.2.length:=by rw [e1,List.length_append]
   obtain⟨s,hs⟩ : ∃s,s=ss[q]:=⟨_,rfl⟩;rw [←hs] at d0 e3;rw [e3] at e2;have E3:=LH e3;clear hc e1 e3 hs;generalize (allN (ss.take q)).length=n at e2 E3⊢;go_wp2_with fail;go_roundw
   case rel=>exact⟨q+1,by omega,by go_num,by rw [E3.out];go_num,by first|rfl|trivial⟩
   case measure=>simp [intOf];omega
  ·obtain rfl:q=ss.length:=by omega
   have HG:=LH (grow_N w (allN ss).length hn);rw [List.take_length];obtain⟨n,hN⟩ : ∃n,n= (allN ss).length:=⟨_,rfl⟩;rw [←hN] at HG⊢hn;have HN:=LH hN;clear hN;go_wp2_with fail;refine HG.out.mono ?_;rintro e w1 ⟨v1,rfl,ho1,hb1⟩;have O1:=LH ho1;have B1:=LH hb1;clear ho1 hb1 HG;go_wp2_with fail
   go_loopw [6,27] (fun v i wr=>∃q,q≤ss.length∧i=.int .i64 q∧Own wr w.heap.size 172 encN v (allN (ss.take q))∧Below w.heap.size w wr) (fun _ i _=>ss.length - (intOf i).toNat)
   case atStart=>exact⟨0,Nat.zero_le _,rfl,by simpa [allN] using O1.out,B1.out⟩
   case round=>
    obtain⟨q,hq,rfl,ho,hB⟩:=hrel;obtain⟨Ao,co,rfl,_⟩:=ho.form;have HO:=LH ho;have HB:=LH hB;have sz:=hB.size;clear ho hB;by_cases hlt:q<ss.length
    ·obtain⟨b,off,rfl,hb,hc⟩:=HS.out.at_ hlt
     have d0:=(HB.out.cell (p:=⟨b,off+q*1+0,none⟩) hb).trans (hc 0 _ rfl);simp only [Nat.add_zero,Nat.mul_one] at d0;have e1:=HT.out q hlt;have e2:=HL.out (q+1);rw [e1,List.length_append] at e2;have hSs:Sl wr wr.heap.size encN ss[q].1 ss[q].2.2:=(HE.out _ (List.getElem_mem hlt)).keep HB.out.size fun p hp=>HB.out.cell hp;have lb:b<wr.heap.size:=Nat.lt_of_lt_of_le hb sz;obtain⟨s,hs⟩ : ∃s,s=ss[q]:=⟨_,rfl⟩;rw [←hs] at d0 e1 e2 hSs;have HSs:=LH hSs;have E1:=LH e1;clear hc e1 hs hSs;obtain⟨As,cs,ls⟩:=s;simp only at d0 e2 HSs E1;obtain⟨L,hL⟩ : ∃L,L=allN (ss.take q):=⟨_,rfl⟩;rw [←hL] at HO E1 e2⊢;clear hL;go_wp2_with ((at_builtin;refine wpList_app tyN rfl _ _ rfl encN w.heap.size (.slice Ao L.length co) L rfl HO.out As cs ls wr.heap.size rfl HSs.out ?c1 ?c2 ?c3 ?c4))
     case c1=>omega
     case c2=>unfold maxLen;omega
     case c3=>exact sz
     case c4=>
      intro v5 w5 ho5 _ _ hb5 _;have O5:=LH ho5;have B5:=LH (HB.out.trans hb5);clear ho5 hb5;go_wp2_with fail;go_roundw
      case rel=>exact⟨q+1,by omega,by go_num,by rw [E1.out];exact O5.out,B5.out⟩
      case measure=>simp [intOf];omega
    ·obtain rfl:q=ss.length:=by omega
     rw [List.take_length] at HO⊢;go_wp2_with fail;go_ret;exact⟨_,rfl,HO.out,HB.out⟩
theorem fold_step {l:List Nd} (hp: ∀x∈l,1≤x.1∧1≤x.2) (hs:sumR l≤72057594037927935) {q:Nat} (h:q< (msort l).length) :
 (addAll [] ((msort l).take q) = []∧addAll [] ((msort l).take (q+1)) = [(msort l)[q]])∨
 ∃(L:List Nd) (y:Nd),addAll [] ((msort l).take q) =L ++ [y]∧L.length<q∧0≤y.2∧y.2+ (msort l)[q].2≤72057594037927935+72057594037927935∧
  ((y.1= (msort l)[q].1∧addAll [] ((msort l).take (q+1)) =L ++ [(y.1,y.2+ (msort l)[q].2)])∨(y.1≠(msort l)[q].1∧addAll [] ((msort l).take (q+1)) = (L ++ [y]) ++ [(msort l)[q]])):=by
 have hpm: ∀x∈msort l,1≤x.1∧1≤x.2:=fun x hx=>hp x ((msort_perm l).mem_iff.1 hx);have e:=addAll_take h;have hsort:=msort_sorted l
 have hsum: ∀k,sumR ((msort l).take k)≤sumR l:=fun k=>by
  rw [←fold_sumR_perm (msort_perm l)];have e1:sumR ((msort l).take k ++ (msort l).drop k) =sumR (msort l):=by rw [List.take_append_drop]
  have e2:=(sumR_pos fun x hx=>(hpm x (List.mem_of_mem_drop (i:=k) hx)).2).1;rw [sumR_append] at e1;omega
 have hx:=hpm _ (List.getElem_mem h);obtain⟨i1,i2,_⟩:=addAll_roll (r:= []) (L:=(msort l).take q) ⟨.nil,by simp⟩ fun x hx=>hpm x (List.mem_of_mem_take hx)
 have hle: ∀z∈addAll [] ((msort l).take q),z.1≤(msort l)[q].1:=addAll_le (by simp) fun z hz=>by
  obtain⟨i,hi,rfl⟩:=List.getElem_of_mem hz;rw [List.length_take] at hi;rw [List.getElem_take];exact List.pairwise_iff_getElem.1 hsort i q (by omega) h (by omega)
 have hlen:=addAll_len ((msort l).take q) [];rw [List.length_take,List.length_nil] at hlen;have hq:=hsum q
 have hxl: (msort l)[q].2≤sumR l:=by
  have e3:=hsum (q+1);rw [List.take_succ_eq_append_getElem h,sumR_append] at e3;have e4:=(sumR_pos fun x hx=>(hpm x (List.mem_of_mem_take (i:=q) hx)).2).1;simp only [sumR] at e3;omega
 rw [e];generalize addAll [] ((msort l).take q) =M at i1 i2 hle hlen⊢;generalize (msort l)[q] =x at hx hle hxl⊢;rcases List.eq_nil_or_concat M with rfl| ⟨L,y,rfl⟩
 ·left;exact⟨rfl,by simp [addR]⟩
 ·right
  simp only [List.concat_eq_append] at*;have hy:=i1.2 y (by simp);have hlt: ∀z∈L,z.1<y.1:=fun z hz=>(List.pairwise_append.1 i1.1).2.2 z hz y (by simp);have hyx:=hle y (by simp);have hL:=(sumR_pos fun z hz=>(i1.2 z (List.mem_append_left _ hz)).2).1;rw [sumR_append] at i2;simp only [sumR] at i2;rw [List.length_append] at hlen;refine⟨L,y,rfl,by simp at hlen;omega,by omega,by omega,?_⟩;by_cases hxy:y.1=x.1
  ·left
   refine⟨hxy,?_⟩;rw [←hxy];exact addR_bump hlt
  ·right
   refine⟨hxy,?_⟩
   exact addR_new fun z hz=>by
    rcases List.mem_append.1 hz with hz|hz
    ·have:=hlt z hz;omega
    ·rw [List.mem_singleton.1 hz];omega
theorem own_last {w:World} {base e:Nat} {v:Value} {L:List Nd} {y:Nd} (h:Own w base e encN v (L ++ [y])) : ∃g off n cap,v=.slice (some ⟨g,off,none⟩) n cap∧n=L.length+1:=by
 rcases h with ⟨_,h⟩ | ⟨g,off,cap,cur,rfl,_⟩
 ·simp at h
 ·exact⟨g,off,_,cap,rfl,by simp⟩
theorem own_last_cells {w:World} {base e g off n cap:Nat} {L:List Nd} {y:Nd} (h:Own w base e encN (.slice (some ⟨g,off,none⟩) n cap) (L ++ [y])) :
 g<w.heap.size∧base≤g∧(∀j,w.frozen? ⟨g,j,none⟩ =false)∧w.cell? ⟨g,off+L.length*2,none⟩ =some (.int .i64 y.1)∧w.cell? ⟨g,off+L.length*2+1,none⟩ =some (.int .i64 y.2):=by
 have h1:=h.lt g rfl;have hk: (L ++ [y])[L.length]? =some y:=by simp
 rcases h.sl with h2| ⟨b,o,hA,_,hc⟩
 ·simp at h2
 ·cases hA
  exact⟨h1.2,h1.1,fun j=>h.frozen j,hc _ y hk 0 _ rfl,hc _ y hk 1 _ rfl⟩
def BumpS (w2:World) (g oo n co:Nat) (L:List Nd) (y:Nd) (px:Nat) (x1 x2:Int) (W:World) :Prop:=
 Own W w2.heap.size 172 encN (.slice (some ⟨g,oo,none⟩) n co) (L ++ [y])∧W.heap[px]? =some (.cells #[.int .i64 x1,.int .i64 x2] 172 (0,0))∧Below w2.heap.size w2 W
theorem bump_own {w2:World} {g oo n co:Nat} {L:List Nd} {y1 y2:Int} {px:Nat} {x2:Int} {W:World} (h:BumpS w2 g oo n co L (y1,y2) px y1 x2 W) :
 Own (W.setCell ⟨g,oo+L.length*2+1,none⟩ (.int .i64 (y2+x2))) w2.heap.size 172 encN (.slice (some ⟨g,oo,none⟩) n co) (L ++ [(y1,y2+x2)]):=by
 have hk:L.length< (L ++ [(y1,y2)]).length:=by simp
 have:=h.1.setElem L.length 1 hk (by decide) (.int .i64 (y2+x2)) (y1,y2+x2) (by rw [List.getElem_append_right (Nat.le_refl _)];simp [encN])
 rwa [List.set_append_right _ _ (Nat.le_refl _),Nat.sub_self,List.set_cons_zero] at this
theorem bump_below {w2:World} {g oo n co:Nat} {L:List Nd} {y:Nd} {px:Nat} {x1 x2:Int} {W:World} (h:BumpS w2 g oo n co L y px x1 x2 W) (u:Value) {o:Nat} :Below w2.heap.size w2 (W.setCell ⟨g,o,none⟩ u):=
 h.2.2.setCell (p:=⟨g,o,none⟩) (own_last_cells h.1).2.1 u
def FoldPost (l:List Nd) (w:World) (e:Ending) (w':World) :Prop:=∃v,e=.returned (.tuple #[v,.bool true])∧Own w' w.heap.size 172 encN v (addAll [] (msort l))∧Below w.heap.size w w'
theorem roll_Fold (w:World) (A:Option Addr) (cap:Nat) (l:List Nd) (hS:Sl w w.heap.size encN A l) (hI:ints l) (hp: ∀x∈l,1≤x.1∧1≤x.2) (hs:sumR l≤72057594037927935) (hc:l.length≤cap) (hcm:cap≤maxLen) (hn:l.length≤67108863) :
 Calls Tryz.prog 172 #[.slice A l.length cap] w (FoldPost l w):=by
 have hT:totalOf l= (sumR l,true):=by unfold totalOf;rw [total_ok (fun x hx=>(hp x hx).2) (Int.le_refl _) (by omega)];simp
 have HT:=LH (fun W h=>roll_Total W A cap l h hI (by omega));rw [hT] at HT;unfold okV at HT;have HSo:=LH (fun W h=>roll_Sorted W (.slice A l.length cap) l h (by omega));have HStep:=LH (fun q (h:q< (msort l).length)=>fold_step hp hs h);have hpm: ∀x∈msort l,1≤x.1∧1≤x.2:=fun x hx=>hp x ((msort_perm l).mem_iff.1 hx);have HP:=LH hpm;have hml:=msort_len l;have HS:=LH hS;unfold FoldPost;obtain⟨S,hSe⟩ : ∃S,S=msort l:=⟨_,rfl⟩;rw [←hSe] at HSo HStep HP hml⊢;clear hS hI hp hs hT hpm hSe;have hc':=LH hc;have hcm':=LH hcm;clear hc hcm
 go_enter Tryz.func172,Tryz.ntmps172
 go_wp2_with fail;refine(HT.out w HS.out).mono ?_;rintro e w1 ⟨rfl,hb1⟩;have R1:Hid (Rd w1 encN (.slice A l.length cap) l):=LH ⟨A,cap,rfl,hc'.out,hcm'.out,HS.out.keep hb1.size fun p hp=>hb1.cell hp⟩;have B1:=LH hb1;clear hb1 HT HS;go_wp2_with fail;refine(HSo.out w1 R1.out).mono ?_;rintro e w2 ⟨v2,rfl,ho2,hb2⟩;obtain⟨A2,c2,rfl,_⟩:=ho2.form;have S2:=LH ho2.sl;have B2:=LH (Below.then_ B1.out hb2);clear ho2 hb2 HSo R1 B1;have hSl:S.length≤67108863:=by omega
 clear hml hn;go_wp2_with fail
 go_loopw [6,20] (fun o i wr=>∃q,q≤S.length∧i=.int .i64 q∧Own wr w2.heap.size 172 encN o (addAll [] (S.take q))∧Below w2.heap.size w2 wr) (fun _ i _=>S.length - (intOf i).toNat)
 case atStart=>exact⟨0,Nat.zero_le _,rfl,.nil _ _ _ _,Below.refl _ _⟩
 case round=>
  obtain⟨q,hq,rfl,ho,hB⟩:=hrel;have HO:=LH ho;have HB:=LH hB;have sz:=hB.size;clear ho hB;by_cases hlt:q<S.length
  ·obtain⟨b,off,rfl,hb,hc⟩:=S2.out.at_ hlt
   have d0:=(HB.out.cell (p:=⟨b,off+q*2+0,none⟩) hb).trans (hc 0 (.int .i64 S[q].1) rfl);have d1:=(HB.out.cell (p:=⟨b,off+q*2+1,none⟩) hb).trans (hc 1 (.int .i64 S[q].2) rfl);simp only [Nat.add_zero] at d0;have hx:=HP.out _ (List.getElem_mem hlt);have hst:=HStep.out q hlt;have lb:b<wr.heap.size:=Nat.lt_of_lt_of_le hb sz;obtain⟨x,hxe⟩ : ∃x,x=S[q]:=⟨_,rfl⟩;rw [←hxe] at d0 d1 hx hst;clear hc hxe;obtain⟨x1,x2⟩:=x;simp only at d0 d1 hx hst;have hx1: ¬x1<1:=by omega
   have hx2: (x2 == 0) =false:=by simp;omega
   obtain⟨M,hM⟩ : ∃M,M=addAll [] (S.take q):=⟨_,rfl⟩;rw [←hM] at HO hst;clear hM;rcases hst with ⟨rfl,hN⟩ | ⟨L,y,rfl,hLq,hy0,hyx,hN⟩
   ·-- the list is empty
    have HN:=LH hN;clear hN;obtain⟨Ao,co,rfl,_⟩:=HO.out.form;have OA:=LH (HO.out.alloc (.cells #[.int .i64 x1,.int .i64 x2] 172));have BA:=LH (HB.out.alloc sz (.cells #[.int .i64 x1,.int .i64 x2] 172));have XA:=LH (heap_alloc_new wr (.cells #[.int .i64 x1,.int .i64 x2] 172));go_upto_region 13 with fail;obtain⟨px,hpx⟩ : ∃p,p=wr.heap.size:=⟨_,rfl⟩;rw [←hpx] at XA⊢;generalize wr.alloc (.cells #[.int .i64 x1,.int .i64 x2] 172) =w3 at OA BA XA⊢;clear hpx d0 d1 lb HO HB sz;have sz:=BA.out.size;have x0:=bC XA.out;have xz:=lB XA.out;refine rX (by kernel_rfl) (by kernel_rfl) ?_
    repeat (go_big_quiet_step (fail))
    refine wpQuiet_nil ?_;intro w4 hb4;have hb4:=bX hb4;have O4:=LH (OA.out.below hb4);have X4:=LH (bB XA.out hb4);have B4:=LH (BA.out.trans (hb4.mono sz));clear hb4 OA XA BA x0 xz;have x0:=bC X4.out;have xz:=lB X4.out;have sz4:=B4.out.size;have O5:=LH (O4.out.alloc (.cells #[.int .i64 x1,.int .i64 x2] 172));go_wp2_with ((at_builtin;refine wpList_push tyN rfl _ _ rfl encN w4 w2.heap.size (.slice Ao ([] :List Nd).length co) [] rfl O4.out (x1,x2) (by go_simp) rfl ?c1 ?c2 ?c3 ?c4))
    try case c1=>simp
    try case c2=>simp [maxLen]
    try case c3=>exact sz4
    case c4=>
     intro v5 w5 ho5 _ _ _ hb5 _;have H5:=LH (And.intro ho5 (B4.out.trans hb5));clear ho5 hb5;go_wp2_with fail;go_roundw
     case rel=>exact⟨q+1,by omega,by go_num,by rw [HN.out];exact H5.out.1,H5.out.2⟩
     case measure=>simp [intOf];omega
   ·have HN:=LH hN
    clear hN;obtain⟨g,oo,n,co,rfl,hn⟩:=own_last HO.out;have hn':=LH hn;clear hn;have OA:=LH (HO.out.alloc (.cells #[.int .i64 x1,.int .i64 x2] 172));have BA:=LH (HB.out.alloc sz (.cells #[.int .i64 x1,.int .i64 x2] 172));have XA:=LH (heap_alloc_new wr (.cells #[.int .i64 x1,.int .i64 x2] 172));go_upto_region 13 with fail;obtain⟨px,hpx⟩ : ∃p,p=wr.heap.size:=⟨_,rfl⟩;rw [←hpx] at XA⊢;generalize wr.alloc (.cells #[.int .i64 x1,.int .i64 x2] 172) =w3 at OA BA XA⊢;clear hpx d0 d1 lb HO HB sz;have sz:=BA.out.size;have x0:=bC XA.out;have xz:=lB XA.out;obtain⟨gl,hgb,gf,c0,c1⟩:=own_last_cells OA.out;obtain⟨y1,y2⟩:=y;simp only at c0 c1 hy0 hyx HN;have hn:=hn'.out;have k0:wrap64 ((n:Int) - 1) = (L.length:Int):=by unfold wrap64;omega
    have k1: (0:Int) < (n:Int):=by omega
    have k1n:0<n:=by omega
    have k1d:decide ((0:Int) < (n:Int)) =true:=by simp;omega
    have k1e:decide (0<n) =true:=by simp;omega
    have k1g:decide ((n:Int) >0) =true:=by simp;omega
    have k2: (L.length:Int) < (n:Int):=by omega
    have k3: (0:Int)≤(L.length:Int):=by omega
    have kw:wrap64 (y2+x2) =y2+x2:=by unfold wrap64;omega
    have k0':IntKind.i64.wrap ((n:Int) - 1) = (L.length:Int):=by rw [IntKind.wrap_i64];omega
    have kw':IntKind.i64.wrap (y2+x2) =y2+x2:=by rw [IntKind.wrap_i64];omega
    clear hn;by_cases hxy:y1=x1
    ·subst hxy
     have HN2:Hid (addAll [] (S.take (q+1)) =L ++ [(y1,y2+x2)]):=LH (by rcases HN.out with ⟨_,h⟩ | ⟨h,_⟩ <;> first|exact h|exact absurd rfl h);clear HN;refine rX (by kernel_rfl) (by kernel_rfl) ?_
     repeat (go_big_quiet_step (fail))
     refine wpQuiet_nil ?_;intro w4 hb4;have hb4:=bX hb4;have S4:Hid (BumpS w2 g oo n co L (y1,y2) px y1 x2 w4):=LH ⟨OA.out.below hb4,bB XA.out hb4,BA.out.trans (hb4.mono sz)⟩;clear hb4 OA XA BA x0 xz gl hgb gf c0 c1 sz;go_upto_region 14 with fail;refine wp_region_noPanic ?_;refine wp_region_N (fun W'=>BumpS w2 g oo n co L (y1,y2) px y1 x2 W') [11] (by kernel_rfl) (⟨S4.out.1.drew,S4.out.2.1,S4.out.2.2.drew⟩) (fun hHeld=> ?_);have S5:=LH hHeld;refine nP 0 (Value.slice (some ⟨g,oo,none⟩) n co) (h:= ?_)
     (try simp only [zA,zB,zC,Act.put,zD,zE,zF])
     refine nP 1 (Value.int .i64 n) (h:= ?_)
     (try simp only [zA,zB,zC,Act.put,zD,zE,zF])
     refine nP 2 (Value.int .i64 L.length) (h:= ?_)
     (try simp only [zA,zB,zC,Act.put,zD,zE,zF])
     refine nP 3 (Value.pointer (some ⟨g,oo+L.length*2,none⟩)) (h:= ?_)
     (try simp only [zA,zB,zC,Act.put,zD,zE,zF])
     refine nP 4 (Value.pointer (some ⟨g,oo+L.length*2+1,none⟩)) (h:= ?_)
     (try simp only [zA,zB,zC,Act.put,zD,zE,zF])
     refine nT 5 (Value.int .i64 y2) (y:=Or.inl ⟨by rfl,fun W hW=>by have q1:=bC hW.2.1;have q2:=lB hW.2.1;obtain⟨q3,_,_,q4,q5⟩:=own_last_cells hW.1;go_simp⟩) (s:=S5.out) (h:= ?_)
     (try simp only [zA,zB,zC,Act.put,zD,zE,zF])
     refine nP 6 (Value.pointer (some ⟨px,1,none⟩)) (h:= ?_)
     (try simp only [zA,zB,zC,Act.put,zD,zE,zF])
     refine nT 7 (Value.int .i64 x2) (y:=Or.inl ⟨by rfl,fun W hW=>by have q1:=bC hW.2.1;have q2:=lB hW.2.1;obtain⟨q3,_,_,q4,q5⟩:=own_last_cells hW.1;go_simp⟩) (s:=S5.out) (h:= ?_)
     (try simp only [zA,zB,zC,Act.put,zD,zE,zF])
     refine nP 8 (Value.int .i64 (y2+x2)) (h:= ?_)
     (try simp only [zA,zB,zC,Act.put,zD,zE,zF])
     refine nP 9 (Value.pointer (some ⟨g,oo+L.length*2,none⟩)) (h:= ?_)
     (try simp only [zA,zB,zC,Act.put,zD,zE,zF])
     refine nP 10 (Value.pointer (some ⟨g,oo+L.length*2+1,none⟩)) (h:= ?_)
     (try simp only [zA,zB,zC,Act.put,zD,zE,zF])
     obtain⟨gl,_,gf,c0,c1⟩:=own_last_cells S5.out.1;refine nO (i:=11) (by kernel_rfl) rfl (fun K hK=> ?_);go_simp;refine hK.out _ _ (fun h _=>absurd (List.mem_singleton.2 rfl) h) ?_;clear hK K gl gf c0 c1
     (try simp only [zA,zB,zC,Act.put,zD,zE,zF])
     refine nD (by kernel_rfl) ?_ _;refine NoPanic.normal ?_;have O6:=LH (bump_own S5.out);have B6:=LH (bump_below S5.out (.int .i64 (y2+x2)) (o:=oo+L.length*2+1));clear S4 S5;go_wp2_with fail;go_roundw
     case rel=>exact⟨q+1,by omega,by go_num,by rw [HN2.out];exact O6.out,B6.out⟩
     case measure=>simp [intOf];omega
    ·have HN2:Hid (addAll [] (S.take (q+1)) = (L ++ [(y1,y2)]) ++ [(x1,x2)]):=LH (by rcases HN.out with ⟨h,_⟩ | ⟨_,h⟩ <;> first|exact absurd h hxy|exact h)
     have hne: (y1 == x1) =false:=by simpa using hxy
     clear HN hxy;refine rX (by kernel_rfl) (by kernel_rfl) ?_
     repeat (go_big_quiet_step (fail))
     refine wpQuiet_nil ?_;intro w4 hb4;have hb4:=bX hb4;have S4:Hid (BumpS w2 g oo n co L (y1,y2) px x1 x2 w4):=LH ⟨OA.out.below hb4,bB XA.out hb4,BA.out.trans (hb4.mono sz)⟩;clear hb4 OA XA BA x0 xz gl hgb gf c0 c1 sz;have x0:=bC S4.out.2.1;have xz:=lB S4.out.2.1;have sz4:=S4.out.2.2.size;have O4:=LH S4.out.1;have B4:=LH S4.out.2.2;clear S4;go_wp2_with ((at_builtin;refine wpList_push tyN rfl _ _ rfl encN w4 w2.heap.size (.slice (some ⟨g,oo,none⟩) n co) (L ++ [(y1,y2)]) rfl O4.out (x1,x2) (by go_simp) rfl ?d1 ?d2 ?d3 ?d4))
     case d1=>have:=hn'.out;(try simp only [List.length_append,List.length_cons,List.length_nil]);omega
     case d2=>have:=hn'.out;unfold maxLen;(try simp only [List.length_append,List.length_cons,List.length_nil]);omega
     try case d3=>exact sz4
     case d4=>
      intro v5 w5 ho5 _ _ _ hb5 _;have H5:=LH (And.intro ho5 (B4.out.trans hb5));clear ho5 hb5;go_wp2_with fail;go_roundw
      case rel=>exact⟨q+1,by omega,by go_num,by rw [HN2.out];simpa using H5.out.1,H5.out.2⟩
      case measure=>simp [intOf];omega
  ·obtain rfl:q=S.length:=by omega
   have HO2:Hid (Own wr w2.heap.size 172 encN u6 (addAll [] S)):=LH (by have:=HO.out;rwa [List.take_length] at this);clear HO;go_wp2_with fail
   go_ret2
   exact⟨_,rfl,HO2.out.base_le B2.out.size,B2.out.trans (HB.out.mono B2.out.size)⟩
def massR (l:Nat) (r:List Nd) (p:Int) :Int×Int:=if (kidsOf l p).2.2=true then (pairR r p,pairR r p+getR r p) else (0,0)
structure StepsIs (l:Int) (r:List Nd) (S:List Int) :Prop where
 up:S.Pairwise (· < ·)
 mem: ∀z,z∈S↔∃x∈r,(endsOf l x.1).2.1=z
def pickB (c:Prop) [Decidable c] (x y:Option Addr) :Option Addr:=if c then x else y
theorem slice_pickB (c:Prop) [Decidable c] (x y:Option Addr) (n m:Nat) :Value.slice (if c then x else y) n m=Value.slice (pickB c x y) n m:=rfl
section
attribute [local go_sem] slice_pickB
end

def pickZ (c:Prop) [Decidable c] (x y:Option Addr) :Option Addr:=if c then x else y
theorem slice_pickZ (c:Prop) [Decidable c] (x y:Option Addr) (n m:Nat) :Value.slice (if c then x else y) n m=Value.slice (pickZ c x y) n m:=rfl
def WithPost (L:List Int) (id:Int) (w:World) (e:Ending) (w':World) :Prop:=
 ∃(A':Option Addr) (cap':Nat) (L':List Int),e=.returned (.slice A' L'.length cap')∧L'.length≤cap'∧cap'≤maxLen∧((A'=none∧cap'=0)∨∃b off,A'=some ⟨b,off,none⟩)∧Sl w' w'.heap.size encZ A' L'∧(∀z,z∈L'↔z∈L∨z=id)∧(L.Pairwise leA→L'.Pairwise leA)∧L'.length≤L.length+1∧Below w.heap.size w w'
section
attribute [local go_sem] slice_pickZ
end
def putAt (L:List Nd) (q:Nat) (x:Nd) :List Nd:=(L.take q ++ [x]) ++ L.drop q
section
attribute [local go_sem] slice_pickZ
end
def SortNPost (l:List Nd) (w:World) (e:Ending) (w':World) :Prop:=∃v S,e=.returned v∧Own w' w.heap.size 172 encN v S∧S.Perm l∧(S.Pairwise fun a b=>a.1≤b.1)∧Below w.heap.size w w'

end Go.Proofs.YtlgnakobjkhmhaaGreatDoor
