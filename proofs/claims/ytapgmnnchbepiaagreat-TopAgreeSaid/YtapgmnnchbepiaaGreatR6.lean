/-
  Texts of this proof, one behind the other: TilesLaw, ReachLaw, GapLaw, AuditLaw, TilesMore, AgendaLaw, FoldLaw, ReadLaw, Ref23, SheetCut, SheetLines, SheetRead, HeapLaw, RunLaw, ProbeDel.
-/
import Derived.Test.YtapgmnnchbepiaaGreatShelf
import Derived.Test.YtapgmnnchbepiaaGreatR1
import Derived.Test.YtapgmnnchbepiaaGreatR3
import Derived.Test.YtapgmnnchbepiaaGreatR4
import Derived.Test.YtapgmnnchbepiaaGreatR5
set_option linter.unusedVariables false
set_option linter.unusedSimpArgs false
set_option maxRecDepth 100000
set_option maxHeartbeats 16000000
namespace Go.Proofs.YtapgmnnchbepiaaGreat
open Go.ChangeShapes Go.WideShapes Go.ChangeAt Go.RowKit
def loN (l:Nat) (x:Int) :Int:=(endsOf l x).1
def hiN (l:Nat) (x:Int) :Int:=(endsOf l x).2.1
def abv (p q:Int) :Bool:=decide (1≤p∧1≤q∧p.toNat.log2≤q.toNat.log2∧q.toNat / 2^ (q.toNat.log2 - p.toNat.log2) =p.toNat)
theorem node_shape {l:Nat} {id:Int} (h:isNode l id=true) : ∃d b t:Nat,d+b=l∧id= ((2^d+t:Nat) :Int)∧t<2^d∧(2^d+t).log2=d∧loN l id= (t:Int) *2^b∧hiN l id= (t:Int) *2^b+2^b - 1:=by
 obtain⟨n,x,hn,rfl,hn1,hn2,hx1,hx2⟩:=isNode_nat h;obtain rfl:n=l:=by omega
 obtain⟨d,b,t,hd,hb,hdb,hxt,htd,hprod⟩:=node_facts hn2 hx1 hx2
 have e1:endsOf n x= ((t:Int) *2^b,(t:Int) *2^b+2^b - 1,true):=by
  simp only [endsOf,h,if_true,Int.toNat_natCast,hd,hb];have: (x:Int) - 2^d=t:=by rw [hxt];push_cast;omega
  rw [this]
 exact⟨d,b,t,hdb,by rw [hxt],htd,by rw [←hxt];exact hd,by unfold loN;rw [e1],by unfold hiN;rw [e1]⟩
theorem log2_shape {d t:Nat} (h:t<2^d) : (2^d+t).log2=d:=by
 rw [Nat.log2_eq_iff (by have:=Nat.two_pow_pos d;omega)];rw [Nat.pow_succ];omega
theorem node_of_shape {l d b t:Nat} (hl:1≤l∧l≤48) (hdb:d+b=l) (ht:t<2^d) :isNode l ((2^d+t:Nat) :Int) =true:=by
 have h1:=Nat.two_pow_pos d;have h2: (2:Nat) ^d≤2^l:=Nat.pow_le_pow_right (by decide) (by omega);have h3: ((2^l:Nat) :Int) =2^l:=by simp
 simp only [isNode,decide_eq_true_eq,Int.toNat_natCast];omega
section
variable {l:Nat} {p q:Int}
theorem isNode_l (hp:isNode l p=true) :1≤l∧l≤48:=by
 simp only [isNode,decide_eq_true_eq] at hp;omega
theorem node_kids (hp:isNode l p=true) (hb:p.toNat.log2<l) :isNode l (2*p) =true∧isNode l (2*p+1) =true∧loN l (2*p) =loN l p∧hiN l (2*p+1) =hiN l p∧loN l (2*p+1) =hiN l (2*p) +1∧(2*p).toNat.log2=p.toNat.log2+1∧(2*p+1).toNat.log2=p.toNat.log2+1:=by
 have hl:=isNode_l hp;obtain⟨d,b,t,h1,rfl,h2,h3,h4,h5⟩:=node_shape hp;rw [Int.toNat_natCast,h3] at hb;obtain⟨c,rfl⟩ : ∃c,b=c+1:=⟨b - 1,by omega⟩;have e1:2* ((2^d+t:Nat) :Int) = ((2^ (d+1) +2*t:Nat) :Int):=by rw [Nat.pow_succ];push_cast;omega
 have e2:2* ((2^d+t:Nat) :Int) +1= ((2^ (d+1) + (2*t+1) :Nat) :Int):=by rw [Nat.pow_succ];push_cast;omega
 have q1:2*t<2^ (d+1):=by rw [Nat.pow_succ];omega
 have q2:2*t+1<2^ (d+1):=by rw [Nat.pow_succ];omega
 have n1:=node_of_shape (b:=c) hl (by omega) q1;have n2:=node_of_shape (b:=c) hl (by omega) q2;rw [e2,e1];refine⟨n1,n2,?_⟩;obtain⟨d',b',t',g1,g2,g3,g4,g5,g6⟩:=node_shape n1;obtain⟨d'',b'',t'',f1,f2,f3,f4,f5,f6⟩:=node_shape n2;have i1:=log2_shape q1;have i2:=log2_shape q2;have g2':=Int.ofNat.inj g2;have f2':=Int.ofNat.inj f2;rw [←g2',i1] at g4;rw [←f2',i2] at f4;subst g4 f4;obtain rfl:b'=c:=by omega
 obtain rfl:b''=b':=by omega
 obtain rfl:t'=2*t:=by omega
 obtain rfl:t''=2*t+1:=by omega
 rw [g5,g6,f5,f6,h4,h5,Int.toNat_natCast,Int.toNat_natCast,Int.toNat_natCast,h3,i1,i2,Int.pow_succ]
 push_cast
 refine⟨?_,?_,?_,rfl,rfl⟩
 ·rw [Int.mul_comm 2 (t:Int),Int.mul_assoc,Int.mul_comm 2]
 ·rw [Int.add_mul,Int.mul_comm 2 (t:Int),Int.mul_assoc,Int.mul_comm 2];omega
 ·rw [Int.add_mul];omega
end
def held (l:Nat) (ids:List Int) (v:Int) :Prop:=∃t∈ids,loN l t≤v∧v≤hiN l t
def sibN (t:Int) :Int:=if t % 2=0 then t+1 else t - 1
def climb:List Int→Int→List Int×Int
 | [],x=>([],x)
 |t :: ts,x=>if sibN t=x then climb ts (x / 2) else (t :: ts,x)
def joinStep (T:List Int) (x:Int) :List Int:=
 match T with
 | []=> [x]
 |t :: ts=>if abv t x=true then t :: ts else (climb (t :: ts) x).2 :: (climb (t :: ts) x).1
def joinF (s:List Int) :List Int:=s.foldl joinStep []
def leT (l:Nat) (a b:Int) :Prop:=loN l a<loN l b∨(loN l a=loN l b∧a≤b)
structure ClimbOf (l:Nat) (T:List Int) (x:Int) (T':List Int) (j:Int) :Prop where
 node:isNode l j=true
 suf:T' <:+ T
 left: ∀t∈T',hiN l t<loN l j
 hi:hiN l j=hiN l x
 lo:loN l j=loN l x∨∃t∈T,loN l j=loN l t
 lole:loN l j≤loN l x
 all: ∀t∈T,t∈T'∨abv j t=true
 in_: ∀v,loN l j≤v→v≤hiN l j→(loN l x≤v∧v≤hiN l x)∨∃t∈T,loN l t≤v∧v≤hiN l t
 stop: ∀t ts,T'=t :: ts→sibN t≠j
structure JInv (l:Nat) (pre T:List Int) :Prop where
 node: ∀t∈T,isNode l t=true
 sep:T.Pairwise (fun a b=>hiN l b<loN l a)
 low: ∀t∈T,∃q∈pre,loN l q=loN l t
 cov: ∀q∈pre,∃t∈T,abv t q=true
 sub: ∀t∈T,∀v,loN l t≤v→v≤hiN l t→held l pre v
 sib:T.Pairwise (fun a b=>sibN b≠a)
structure Tiles (l:Nat) (C:Int→Prop) (T:List Int) :Prop where
 node: ∀t∈T,isNode l t=true
 cov: ∀v,held l T v↔C v
 top: ∀x,isNode l x=true→(∀v,loN l x≤v→v≤hiN l x→C v)→∃t∈T,abv t x=true
def layT (l:Nat) (a b:Int) :Nat→Int→List Int
 |0,x=>if hiN l x<a∨b<loN l x then [] else [x]
 |h+1,x=>if hiN l x<a∨b<loN l x then [] else if a≤loN l x∧hiN l x≤b then [x] else layT l a b h (2*x) ++ layT l a b h (2*x+1)
def ofTiles (l:Nat) (a b:Int) :List Int:=layT l a b l 1
def restStep (l:Nat) (o:List Int×Int) (x:Int) :List Int×Int:=(if o.2<loN l x then o.1 ++ ofTiles l o.2 (loN l x - 1) else o.1,hiN l x+1)
def restF (l:Nat) (T:List Int) :List Int×Int:=T.foldl (restStep l) ([],0)
def restL (l:Nat) (T:List Int) :List Int:=if (restF l T).2≤2^l - 1 then (restF l T).1 ++ ofTiles l (restF l T).2 (2^l - 1) else (restF l T).1
structure RInv (l:Nat) (pre:List Int) (o:List Int×Int) :Prop where
 from0:0≤o.2∧o.2≤2^l
 last:0<o.2→held l pre (o.2 - 1)
 below: ∀t∈pre,hiN l t<o.2
 node: ∀t∈o.1,isNode l t=true
 cov: ∀v,held l o.1 v↔(0≤v∧v<o.2)∧¬held l pre v
 top: ∀x,isNode l x=true→hiN l x<o.2→(∀v,loN l x≤v→v≤hiN l x→¬held l pre v)→∃t∈o.1,abv t x=true
def covR (L:List (Int×Int)) (v:Int) :Prop:=∃r∈L,r.1≤v∧v≤r.2
structure Apart (L:List (Int×Int)) :Prop where
 sep:L.Pairwise fun a b=>a.2+1<b.1
 run: ∀r∈L,r.1≤r.2
def ov (r:Int×Int) (lo hi:Int) :Int:=max 0 (min r.2 hi - max r.1 lo+1)
def cntR (lo hi:Int) :List (Int×Int)→Int
 | []=>0
 |r :: L=>ov r lo hi+cntR lo hi L
structure WithS where
 ahead:List (Int×Int)
 x:Int×Int
 behind:List (Int×Int)
def withStep (s:WithS) (r:Int×Int) :WithS:=
 if r.2+1<s.x.1 then {s with ahead:=s.ahead ++ [r]}
 else if s.x.2+1<r.1 then {s with behind:=s.behind ++ [r]}
 else {s with x:=(if r.1<s.x.1 then r.1 else s.x.1,if s.x.2<r.2 then r.2 else s.x.2)}
def withF (L:List (Int×Int)) (x:Int×Int) :WithS:=L.foldl withStep ⟨[],x, []⟩
def withL (L:List (Int×Int)) (x:Int×Int) :List (Int×Int):=(withF L x).ahead ++ [(withF L x).x] ++ (withF L x).behind
structure WInv (pre:List (Int×Int)) (x:Int×Int) (s:WithS) :Prop where
 run:s.x.1≤s.x.2
 a: ∀r∈s.ahead,r∈pre∧r.2+1<s.x.1
 b: ∀r∈s.behind,r∈pre∧s.x.2+1<r.1
 asep:s.ahead.Pairwise fun a b=>a.2+1<b.1
 bsep:s.behind.Pairwise fun a b=>a.2+1<b.1
 cov: ∀v,(covR s.ahead v∨(s.x.1≤v∧v≤s.x.2)∨covR s.behind v)↔(covR pre v∨(x.1≤v∧v≤x.2))
def runsF (l:Nat) (ids:List Int) :List (Int×Int):=ids.foldl (fun o x=>withL o (loN l x,hiN l x)) []
def chainT (l:Nat) (b:Int) :Int→List Int→Prop
 |a, []=>a=b+1
 |a,t :: L=>isNode l t=true∧loN l t=a∧hiN l t≤b∧chainT l b (hiN l t+1) L
def ends2 (l:Nat) (t:Int) :Int×Int:=(loN l t,hiN l t)
def heldC (l:Nat) (ids:List Int) (x:Int) :Int:=cntR (loN l x) (hiN l x) (runsF l ids)
def allT (T:List Int) (x:Int) :Bool:=T.any fun t=>abv t x
def someT (T:List Int) (x:Int) :Bool:=T.any fun t=>abv t x || abv x t
def onT (T:List Int) (r:List Nd) :Int×Int:=(wIds (allT T) r,wIds (someT T) r)
def refOn (l:Nat) (ids:List Int) (off:Bool) (r:List Nd) :Int×Int:=
 (wIds (fun x=>decide ((if off=true then hiN l x - loN l x+1 - heldC l ids x else heldC l ids x) =hiN l x - loN l x+1)) r,wIds (fun x=>decide (0< (if off=true then hiN l x - loN l x+1 - heldC l ids x else heldC l ids x))) r)
def sideV (n m:Int) (pl ph ql qh:Int) :Int:=if qh*n<pl*m then 1 else if ph*m<ql*n then -1 else 0
def sideOf (l:Int) (a b:List Nd) (x:Int) :Int:=sideV (sumR a) (sumR b) (lowOf l a x) (highOf l a x) (lowOf l b x) (highOf l b x)
def apStep (f:Int→Int) (a:Int×Int) (x:Int) :Int×Int:=if f x≠0∧(a.2=0∨x<a.1) then (x,f x) else a
def apFold (f:Int→Int) (l:List Int) :Int×Int:=l.foldl (apStep f) (0,0)
def apIs (f:Int→Int) (l:List Int) (r:Int×Int) :Prop:=((∀x∈l,f x=0)∧r= (0,0))∨(r.1∈l∧r.2=f r.1∧r.2≠0∧∀x∈l,f x≠0→r.1≤x)
theorem apFold_succ {f:Int→Int} {l:List Int} {q:Nat} (h:q<l.length) :apFold f (l.take (q+1)) =apStep f (apFold f (l.take q)) l[q]:=by
 unfold apFold;rw [List.take_succ_eq_append_getElem h,List.foldl_append];rfl
theorem apFold_is (f:Int→Int) (l:List Int) :apIs f l (apFold f l):=by
 suffices h: ∀q,q≤l.length→apIs f (l.take q) (apFold f (l.take q)) by
  have:=h l.length (Nat.le_refl _)
  rwa [List.take_length] at this
 intro q
 induction q with
 |zero=>intro _;left;exact⟨by simp,rfl⟩
 |succ q ih=>
  intro hq;have hlt:q<l.length:=by omega
  rw [apFold_succ hlt];have hts:=List.take_succ_eq_append_getElem hlt;rw [hts];have hi:=ih (by omega);generalize apFold f (l.take q) =r at hi;unfold apStep;by_cases h0:f l[q] =0
  ·rw [if_neg (by simp [h0])]
   rcases hi with ⟨h1,h2⟩ | ⟨h1,h2,h3,h4⟩
   ·left
    refine⟨fun x hx=> ?_,h2⟩;rcases List.mem_append.1 hx with hx|hx
    ·exact h1 x hx
    ·rw [List.mem_singleton.1 hx];exact h0
   ·right
    refine⟨List.mem_append_left _ h1,h2,h3,fun x hx hf=> ?_⟩;rcases List.mem_append.1 hx with hx|hx
    ·exact h4 x hx hf
    ·rw [List.mem_singleton.1 hx] at hf;exact absurd h0 hf
  ·rcases hi with ⟨h1,h2⟩ | ⟨h1,h2,h3,h4⟩
   ·rw [if_pos ⟨h0,.inl (by rw [h2])⟩]
    right
    refine⟨List.mem_append_right _ (List.mem_singleton.2 rfl),rfl,h0,fun x hx hf=> ?_⟩;rcases List.mem_append.1 hx with hx|hx
    ·exact absurd (h1 x hx) hf
    ·rw [List.mem_singleton.1 hx];exact Int.le_refl _
   ·right
    by_cases hlt2:l[q] <r.1
    ·rw [if_pos ⟨h0,.inr hlt2⟩]
     refine⟨List.mem_append_right _ (List.mem_singleton.2 rfl),rfl,h0,fun x hx hf=> ?_⟩;rcases List.mem_append.1 hx with hx|hx
     ·have:=h4 x hx hf;simp only;omega
     ·rw [List.mem_singleton.1 hx];exact Int.le_refl _
    ·rw [if_neg (fun h=>h.2.elim h3 hlt2)]
     refine⟨List.mem_append_left _ h1,h2,h3,fun x hx hf=> ?_⟩;rcases List.mem_append.1 hx with hx|hx
     ·exact h4 x hx hf
     ·rw [List.mem_singleton.1 hx];omega
theorem apIs_unique {f:Int→Int} {l m:List Int} {r s:Int×Int} (hm: ∀x,x∈l↔x∈m) (h:apIs f l r) (k:apIs f m s) :r=s:=by
 rcases h with ⟨h1,h2⟩ | ⟨h1,h2,h3,h4⟩
 ·rcases k with ⟨k1,k2⟩ | ⟨k1,k2,k3,k4⟩
  ·rw [h2,k2]
  ·exact absurd (k2.trans (h1 _ ((hm _).2 k1))) k3
 ·rcases k with ⟨k1,k2⟩ | ⟨k1,k2,k3,k4⟩
  ·exact absurd (h2.trans (k1 _ ((hm _).1 h1))) h3
  ·have e1:=h4 s.1 ((hm _).2 k1) (k2 ▸ k3)
   have e2:=k4 r.1 ((hm _).1 h1) (h2 ▸ h3);have e:r.1=s.1:=by omega
   exact Prod.ext e (by rw [h2,k2,e])
theorem apIs_first {f:Int→Int} {pre:List Int} {x:Int} {suf:List Int} (hs: (pre ++ x :: suf).Pairwise (· ≤ ·)) (h0: ∀y∈pre,f y=0) (hx:f x≠0) :apIs f (pre ++ x :: suf) (x,f x):=by
 right
 refine⟨by simp,rfl,hx,fun y hy hf=> ?_⟩;rcases List.mem_append.1 hy with hy|hy
 ·exact absurd (h0 y hy) hf
 ·rcases List.mem_cons.1 hy with rfl|hy
  ·exact Int.le_refl _
  ·exact(List.pairwise_cons.1 (List.pairwise_append.1 hs).2.1).1 y hy
theorem apIs_none {f:Int→Int} {l:List Int} (h: ∀x∈l,f x=0) :apIs f l (0,0):=.inl ⟨h,rfl⟩
def downV (n d x:Int) :Int:=(x.toNat*d.toNat / n.toNat:Nat)
def upP (n d x:Int) :Int:=(upV x.toNat d.toNat n.toNat:Nat)
def gapStep (l d:Int) (a b:List Nd) (o:Int×Int) (x:Int) :Int×Int:=
 (max (max o.1 (downV (sumR a) d (lowOf l a x) - upP (sumR b) d (highOf l b x))) (downV (sumR b) d (lowOf l b x) - upP (sumR a) d (highOf l a x)),
  max (max o.2 (upP (sumR a) d (highOf l a x) - downV (sumR b) d (lowOf l b x))) (upP (sumR b) d (highOf l b x) - downV (sumR a) d (lowOf l a x)))
def gapFold (l d:Int) (a b:List Nd) (e:List Int) :Int×Int:=e.foldl (gapStep l d a b) (0,0)
theorem gapFold_snoc (l d:Int) (a b:List Nd) (e:List Int) (x:Int) :gapFold l d a b (e ++ [x]) =gapStep l d a b (gapFold l d a b e) x:=by
 unfold gapFold;rw [List.foldl_append];rfl
theorem gapFold_le (l d:Int) (a b:List Nd) (e:List Int) (z y:Int) : ((gapFold l d a b e).1≤z↔0≤z∧∀x∈e,(gapStep l d a b (0,0) x).1≤z)∧((gapFold l d a b e).2≤y↔0≤y∧∀x∈e,(gapStep l d a b (0,0) x).2≤y):=by
 suffices h: ∀(e:List Int) (o:Int×Int),0≤o.1→0≤o.2→(((e.foldl (gapStep l d a b) o).1≤z↔o.1≤z∧∀x∈e,(gapStep l d a b (0,0) x).1≤z)∧((e.foldl (gapStep l d a b) o).2≤y↔o.2≤y∧∀x∈e,(gapStep l d a b (0,0) x).2≤y)) from h e (0,0) (Int.le_refl _) (Int.le_refl _)
 intro e
 induction e with
 |nil=>intro o h1 h2;simp
 |cons x e ih=>
  intro o h1 h2;rw [List.foldl_cons];obtain⟨i1,i2⟩:=ih (gapStep l d a b o x) (by simp only [gapStep];omega) (by simp only [gapStep];omega)
  constructor
  ·rw [i1]
   simp only [List.mem_cons,forall_eq_or_imp];have: ((gapStep l d a b o x).1≤z)↔o.1≤z∧(gapStep l d a b (0,0) x).1≤z:=by simp only [gapStep];omega
   rw [this,and_assoc]
  ·rw [i2]
   simp only [List.mem_cons,forall_eq_or_imp];have: ((gapStep l d a b o x).2≤y)↔o.2≤y∧(gapStep l d a b (0,0) x).2≤y:=by simp only [gapStep];omega
   rw [this,and_assoc]
theorem gapFold_set {l d:Int} {a b:List Nd} {e f:List Int} (h: ∀x,x∈e↔x∈f) :gapFold l d a b e=gapFold l d a b f:=by
 have h1:=gapFold_le l d a b e;have h2:=gapFold_le l d a b f;have k: ∀p:Int→Prop,(∀x∈e,p x)↔(∀x∈f,p x):=fun p=>⟨fun q x hx=>q x ((h x).2 hx),fun q x hx=>q x ((h x).1 hx)⟩;have e1: ∀z,(gapFold l d a b e).1≤z↔(gapFold l d a b f).1≤z:=fun z=>by rw [(h1 z 0).1,(h2 z 0).1,k]
 have e2: ∀z,(gapFold l d a b e).2≤z↔(gapFold l d a b f).2≤z:=fun z=>by rw [(h1 0 z).2,(h2 0 z).2,k]
 refine Prod.ext ?_ ?_
 ·have:=(e1 _).1 (Int.le_refl _);have:=(e1 _).2 (Int.le_refl _);omega
 ·have:=(e2 _).1 (Int.le_refl _);have:=(e2 _).2 (Int.le_refl _);omega
def ownN (r:List Nd) (id:Int) :Int:=wIds (fun x=>abv id x) r
def bagB (l:Nat) (q:List Nd) (lo hi:Int) :Int:=weighR l (inLow lo hi) q
def moreN (l:Nat) (r q:List Nd) (id:Int) :Int:=ownN r id - bagB l q (loN l id) (hiN l id)
def culF (l:Nat) (r q:List Nd) (id:Int) :Int:=max (moreN l r q id) 0
def inRun (l:Nat) (a b x z:Int) :Bool:=abv x z && (decide (a≤loN l z) && decide (hiN l z≤b))
def inRunV (l:Nat) (a b x z:Int) :Bool:=(decide (a≤loN l z) && decide (loN l x≤loN l z)) && (decide (hiN l z≤b) && decide (hiN l z≤hiN l x))
def ancF:Nat→Int→List Int
 |0,_=> []
 |n+1,x=>if x<1 then [] else x :: ancF n (x / 2)
def ancL (x:Int) :List Int:=ancF 49 x
def allAnc (r:List Nd) :List Int:=r.flatMap fun x=>ancL x.1
def offIs (f:Int→Int) (L:List Int) (r:Int×Int) :Prop:=r.1∈L∧r.2=f r.1∧∀x∈L,f x≤r.2∧(f x=r.2→r.1≤x)
def offStep (f:Int→Int) (a:Int×Int) (x:Int) :Int×Int:=if a.2<f x then (x,f x) else a
def offFold (f:Int→Int) (L:List Int) :Int×Int:=L.foldl (offStep f) (0,0)
def offStepR (f:Int→Int) (a:Int×Int) (x:Int) :Int×Int:=if a.2<f x∨(f x=a.2∧x<a.1) then (x,f x) else a
def offFoldR (f:Int→Int) (L:List Int) :Int×Int:=L.foldl (offStepR f) (0,f 0)
def mxT (l:Nat) (b t:Int) :Prop:=t % 2=1∨b<hiN l (t / 2)
def layR (l:Nat) (L:List (Int×Int)) :List Int:=L.flatMap fun r=>ofTiles l r.1 r.2
def aheadI (a b:Int) :Bool:=if a.toNat.log2≠b.toNat.log2 then decide (b.toNat.log2<a.toNat.log2) else decide (a<b)
def swapL (L:List Int) (i j:Nat) :List Int:=(L.set i (L.getD j 0)).set j (L.getD i 0)
theorem swapL_len (L:List Int) (i j:Nat) : (swapL L i j).length=L.length:=by simp [swapL]
theorem swapL_perm {L:List Int} {i j:Nat} (hi:i<L.length) (hj:j<L.length) : (swapL L i j).Perm L:=by
 rw [List.perm_iff_count];intro a;unfold swapL;have e1:L.getD j 0=L[j]:=by simp [hj]
 have e2:L.getD i 0=L[i]:=by simp [hi]
 rw [e1,e2];by_cases hij:i=j
 ·subst hij;simp
 ·rw [List.count_set (by simpa using hj),List.count_set hi]
  have e3: (L.set i L[j])[j]'(by simpa using hj) =L[j]:=by rw [List.getElem_set_ne hij]
  rw [e3];have c1:L[i] =a→0<List.count a L:=fun h=>List.count_pos_iff.2 (h ▸ List.getElem_mem hi);have c2:L[j] =a→0<List.count a L:=fun h=>List.count_pos_iff.2 (h ▸ List.getElem_mem hj);by_cases h1:L[i] =a <;> by_cases h2:L[j] =a <;> simp [h1,h2] <;> (have:=c1;have:=c2;simp_all)
def upH:Nat→List Int→Nat→List Int
 |0,L,_=>L
 |n+1,L,i=>if 0<i∧aheadI (L.getD i 0) (L.getD ((i - 1) / 2) 0) =true then upH n (swapL L i ((i - 1) / 2)) ((i - 1) / 2) else L
theorem upH_perm: ∀(n:Nat) (L:List Int) (i:Nat),i<L.length→(upH n L i).Perm L:=by
 intro n
 induction n with
 |zero=>intro L i _;exact .refl _
 |succ n ih=>
  intro L i hi;simp only [upH]
  split
  ·exact(ih _ _ (by rw [swapL_len];omega)).trans (swapL_perm hi (by omega))
  ·exact .refl _
def stepH (L:List Int) (a k:Nat) :Nat:=if k<L.length∧aheadI (L.getD k 0) (L.getD a 0) =true then k else a
theorem stepH_or (L:List Int) (a k:Nat) :stepH L a k=a∨(stepH L a k=k∧k<L.length):=by
 unfold stepH
 split
 ·rename_i h;exact .inr ⟨rfl,h.1⟩
 ·exact .inl rfl
def firstH (L:List Int) (i:Nat) :Nat:=stepH L (stepH L i (2*i+1)) (2*i+2)
theorem firstH_le (L:List Int) (i:Nat) :i≤firstH L i:=by
 unfold firstH;rcases stepH_or L i (2*i+1) with h|h <;> rcases stepH_or L (stepH L i (2*i+1)) (2*i+2) with g|g <;> omega
theorem firstH_lt {L:List Int} {i:Nat} (h:i<L.length) :firstH L i<L.length:=by
 unfold firstH;rcases stepH_or L i (2*i+1) with h|h <;> rcases stepH_or L (stepH L i (2*i+1)) (2*i+2) with g|g <;> omega
def downH:Nat→List Int→Nat→List Int
 |0,L,_=>L
 |n+1,L,i=>if firstH L i=i then L else downH n (swapL L i (firstH L i)) (firstH L i)
theorem downH_perm: ∀(n:Nat) (L:List Int) (i:Nat),i<L.length→(downH n L i).Perm L:=by
 intro n
 induction n with
 |zero=>intro L i _;exact .refl _
 |succ n ih=>
  intro L i hi;simp only [downH]
  split
  ·exact .refl _
  ·have:=firstH_lt hi
   exact(ih _ _ (by rw [swapL_len];exact this)).trans (swapL_perm hi this)
def putH (L:List Int) (id:Int) :List Int:=upH L.length (L ++ [id]) L.length
theorem putH_perm (L:List Int) (id:Int) : (putH L id).Perm (id :: L):=
 (upH_perm _ _ _ (by simp)).trans (List.perm_append_comm (l₁:=L) (l₂:= [id]))
def popH:List Int→List Int
 | []=> []
 |x :: L=>downH L.length ((x :: L).set 0 ((x :: L).getD L.length 0) |>.take L.length) 0
theorem popH_perm (x:Int) (L:List Int) : (popH (x :: L)).Perm L:=by
 unfold popH
 cases L with
 |nil=>simp [downH]
 |cons y L=>
  refine(downH_perm _ _ _ (by simp)).trans ?_
  have e: ((x :: y :: L).set 0 ((x :: y :: L).getD (y :: L).length 0)).take (y :: L).length= ((y :: L).getLast (by simp)) :: (y :: L).dropLast:=by
   rw [List.set_cons_zero,List.length_cons,List.take_succ_cons,List.dropLast_eq_take,List.getLast_eq_getElem]
   congr 1
   simp
  rw [e];have h:=List.dropLast_concat_getLast (l:=y :: L) (by simp)
  conv=>rhs;rw [←h]
  exact(List.perm_append_comm (l₁:= [(y :: L).getLast (by simp)]) (l₂:=(y :: L).dropLast)).symm.symm
def pairR (r:List Nd) (p:Int) :Int:=getR r (2*p) +getR r (2*p+1)
def foldR (r:List Nd) (p:Int) :List Nd:=addR (delR (delR r (2*p)) (2*p+1)) p (pairR r p)
def readyR (l:Nat) (r:List Nd) (p most:Int) :Bool:=(kidsOf l p).2.2 && decide (0<pairR r p∧pairR r p+getR r p≤most)
theorem ready_iff {l:Nat} {r:List Nd} {p most:Int} :readyR l r p most=true↔(kidsOf l p).2.2=true∧0<pairR r p∧pairR r p+getR r p≤most:=by
 simp [readyR]
theorem kids_iff {l:Nat} {p:Int} : (kidsOf l p).2.2=true↔isNode l p=true∧p<2^l:=by
 unfold kidsOf;simp only [Int.toNat_natCast];by_cases h:isNode l p=true∧p<2^l
 ·rw [if_pos h];simp [h]
 ·rw [if_neg h];simp;intro h1;exact Int.not_lt.1 fun h2=>h ⟨h1,h2⟩
theorem kids_node {l:Nat} {p:Int} (h:isNode l p=true) (h2:p<2^l) :p.toNat.log2<l:=by
 have h1:1≤p:=by simp only [isNode,decide_eq_true_eq] at h;omega
 obtain⟨n,rfl⟩:=Int.eq_ofNat_of_zero_le (show 0≤p by omega);rw [Int.toNat_natCast];refine(Nat.log2_lt (by omega)).2 ?_;have: ((2^l:Nat) :Int) =2^l:=by simp
 omega
theorem getR_fold {r:List Nd} (hr:Roll r) {p:Int} (hp:1≤p) (id:Int) :getR (foldR r p) id=if id=p then getR r p+getR r (2*p) +getR r (2*p+1) else if id=2*p∨id=2*p+1 then 0 else getR r id:=by
 unfold foldR;rw [getR_add ((hr.del _).del _),getR_del (hr.del _),getR_del (hr.del _),getR_del hr,getR_del hr];by_cases h1:id=p
 ·rw [if_pos h1,if_pos h1,if_neg (by omega),if_neg (by omega)];unfold pairR;omega
 ·rw [if_neg h1,if_neg h1]
  by_cases h2:id=2*p+1
  ·rw [if_pos h2,if_pos (.inr h2)]
  ·rw [if_neg h2]
   by_cases h3:id=2*p
   ·rw [if_pos h3,if_pos (.inl h3)]
   ·rw [if_neg h3,if_neg (by omega)]
theorem foldR_roll {r:List Nd} (hr:Roll r) {p:Int} (hp:1≤p) (h:0<pairR r p) :Roll (foldR r p):=((hr.del _).del _).add hp (by omega)
theorem foldR_sum {r:List Nd} (hr:Roll r) {p:Int} :sumR (foldR r p) =sumR r:=by
 unfold foldR;rw [sumR_add,sumR_del (hr.del _),sumR_del hr,getR_del hr,if_neg (by omega)];unfold pairR;omega
theorem delR_len {r:List Nd} (id:Int) : (delR r id).length≤r.length∧(getR r id≠0→(delR r id).length+1=r.length):=by
 induction r with
 |nil=>simp [delR,getR]
 |cons x r ih=>
  simp only [delR,getR]
  split
  ·simp
  ·simp only [List.length_cons]
   exact⟨by omega,fun h=>by have:=ih.2 h;omega⟩
theorem foldR_len {r:List Nd} (hr:Roll r) {p:Int} (hp:1≤p) (h:0<pairR r p) : (foldR r p).length≤r.length:=by
 have h1:=delR_len (r:=r) (2*p);have h2:=delR_len (r:=delR r (2*p)) (2*p+1);have h3:getR (delR r (2*p)) (2*p+1) =getR r (2*p+1):=by rw [getR_del hr,if_neg (by omega)]
 have h4:=len_add ((hr.del (2*p)).del (2*p+1)) p (pairR r p);unfold foldR;rw [h4];have:getR r (2*p)≠0∨getR r (2*p+1)≠0:=by unfold pairR at h;omega
 rcases this with g|g
 ·have:=h1.2 g;split <;> omega
 ·have:=h2.2 (by rw [h3];exact g);split <;> omega
theorem foldR_fits {l:Nat} {r:List Nd} (hf:Fits l r) {p most:Int} (h:readyR l r p most=true) :Fits l (foldR r p):=by
 obtain⟨h1,h2,h3⟩:=ready_iff.1 h;obtain⟨n1,n2⟩:=kids_iff.1 h1;have hp:=(isNode_lt n1).1;refine⟨foldR_roll hf.roll hp h2,fun x hx=> ?_,by rw [foldR_sum hf.roll];exact hf.sum⟩;rcases addR_mem hx with e|hx
 ·have:=pow_pos' l;omega
 ·exact hf.lt x (delR_sub (delR_sub hx))
inductive Folded (l:Nat) (most:Int) :List Nd→List Nd→Prop
 |refl (r) :Folded l most r r
 |step {r s} (p) :Folded l most r s→readyR l s p most=true→Folded l most r (foldR s p)
theorem Folded.fits {l:Nat} {most:Int} {r s:List Nd} (h:Folded l most r s) (hf:Fits l r) :Fits l s:=by
 induction h with
 |refl=>exact hf
 |step p _ hy ih=>exact foldR_fits ih hy
theorem Folded.sum {l:Nat} {most:Int} {r s:List Nd} (h:Folded l most r s) (hf:Fits l r) :sumR s=sumR r:=by
 induction h with
 |refl=>rfl
 |step p h hy ih=>rw [foldR_sum (h.fits hf).roll,ih]
theorem Folded.len {l:Nat} {most:Int} {r s:List Nd} (h:Folded l most r s) (hf:Fits l r) :s.length≤r.length:=by
 induction h with
 |refl=>exact Nat.le_refl _
 |step p h hy ih=>
  obtain⟨h1,h2,h3⟩:=ready_iff.1 hy;exact Nat.le_trans (foldR_len (h.fits hf).roll (isNode_lt (kids_iff.1 h1).1).1 h2) ih
theorem Folded.trans {l:Nat} {most:Int} {r s t:List Nd} (h:Folded l most r s) (k:Folded l most s t) :Folded l most r t:=by
 induction k with
 |refl=>exact h
 |step p _ hy ih=>exact .step p ih hy
def deepR (r:List Nd) :Nat:=(r.map fun x=>x.1.toNat.log2).sum
theorem deep_del {r:List Nd} (id:Int) (h:getR r id≠0) :deepR (delR r id) +id.toNat.log2=deepR r:=by
 induction r with
 |nil=>simp [getR] at h
 |cons x r ih=>
  simp only [getR] at h;simp only [delR]
  split
  ·rename_i he;subst he;simp [deepR];omega
  ·rename_i hne
   rw [if_neg hne] at h;have:=ih h;simp only [deepR,List.map_cons,List.sum_cons] at this⊢;omega
theorem del_none {r:List Nd} (hr:Roll r) {id:Int} (h:getR r id=0) :delR r id=r:=by
 induction r with
 |nil=>rfl
 |cons x r ih=>
  have hx:=hr.2 x (by simp);simp only [getR] at h;simp only [delR]
  split
  ·rename_i he;rw [if_pos he] at h;omega
  ·rename_i hne;rw [if_neg hne] at h;rw [ih hr.tail h]
theorem deep_add (r:List Nd) (id c:Int) :deepR (addR r id c)≤deepR r+id.toNat.log2:=by
 induction r with
 |nil=>simp [addR,deepR]
 |cons x r ih=>
  simp only [addR]
  split
  ·rename_i he;subst he;simp [deepR]
  ·split
   ·simp [deepR];omega
   ·simp only [deepR,List.map_cons,List.sum_cons] at ih⊢;omega
theorem deep_fold {l:Nat} {r:List Nd} (hr:Roll r) {p most:Int} (hy:readyR l r p most=true) :deepR (foldR r p) +1≤deepR r:=by
 obtain⟨h1,h2,h3⟩:=ready_iff.1 hy;obtain⟨n1,n2⟩:=kids_iff.1 h1;obtain⟨k1,k2,k3,k4,k5,k6,k7⟩:=node_kids n1 (kids_node n1 n2);have a1:=deep_add (delR (delR r (2*p)) (2*p+1)) p (pairR r p);have e1:getR (delR r (2*p)) (2*p+1) =getR r (2*p+1):=by rw [getR_del hr,if_neg (by omega)]
 unfold foldR;unfold pairR at h2;by_cases g1:getR r (2*p) =0
 ·rw [del_none hr g1] at a1 e1⊢
  have:=deep_del (r:=r) (2*p+1) (by omega);omega
 ·have d1:=deep_del (2*p) g1
  by_cases g2:getR r (2*p+1) =0
  ·rw [del_none (hr.del _) (by rw [e1];exact g2)] at a1⊢
   omega
  ·have d2:=deep_del (r:=delR r (2*p)) (2*p+1) (by rw [e1];exact g2)
   omega
def openT (s:List UInt8) :List UInt8×Int:=if s.length<4 then ([],9) else if sealT (s.take (s.length - 4)) =s then (s.take (s.length - 4),0) else ([],12)
def noLtr:Ltr:=⟨0,0,0, []⟩
def decN (s0:List UInt8) :Ltr×Int:=
 let a:=getB s0
 if a.2.2≠0 then (noLtr,a.2.2) else
 let s1:=s0.drop a.2.1
 let b:=getB s1
 if b.2.2≠0 then (noLtr,b.2.2) else if isCrew b.1=false then (noLtr,10) else
 let s2:=s1.drop b.2.1
 let c:=getB s2
 if c.2.2≠0 then (noLtr,c.2.2) else if (rightC c.1 && hasC c.1 b.1) =false then (noLtr,10) else
 let s3:=s2.drop c.2.1
 let n:=getB s3
 if n.2.2≠0 then (noLtr,n.2.2) else if 1048576<n.1 then (noLtr,13) else
 let s4:=s3.drop n.2.1
 if s4.length<n.1 then (noLtr,9) else if n.1<s4.length then (noLtr,11) else (⟨a.1,b.1,c.1,s4⟩,0)
def decL (s:List UInt8) :Ltr×Int:=
 let o:=openT s
 if o.2≠0 then (noLtr,o.2) else if o.1.length<4 then (noLtr,9) else if o.1.take 4≠ [68,87,76,1] then (noLtr,10) else decN (o.1.drop 4)
def cntF:List Int→List UInt8→Int→List Nd→List Nd×List UInt8×Int×Int
 | [],s,left,out=>(out,s,left,0)
 |id :: ids,s,left,out=>
  let g:=getB s
  if g.2.2≠0 then ([], [],0,g.2.2) else if g.1=0∨left< (g.1:Int) then ([], [],0,10) else cntF ids (s.drop g.2.1) (left - (g.1:Int)) (out ++ [(id,(g.1:Int))])
def readN (l:Nat) (s0:List UInt8) : (Nat×Int×Int×List Nd)×Int:=
 let k:=getB s0
 if k.2.2≠0 then ((0,0,0, []),k.2.2) else if k.1<1∨1048576<k.1 then ((0,0,0, []),10) else
 let s1:=s0.drop k.2.1
 let n:=getB s1
 if n.2.2≠0 then ((0,0,0, []),n.2.2) else if 72057594037927935<n.1 then ((0,0,0, []),10) else
 let s2:=s1.drop n.2.1
 let f:=fallB s2 (8* (k.1:Int))
 if f.2.2≠0 then ((0,0,0, []),f.2.2) else if (f.1.all fun id=>isNode l id) =false then ((0,0,0, []),10) else
 let c:=cntF f.1 (s2.drop f.2.1) (n.1:Int) []
 if c.2.2.2≠0 then ((0,0,0, []),c.2.2.2) else if c.2.1≠ [] then ((0,0,0, []),11) else if 0<c.2.2.1 then ((0,0,0, []),10) else
 if lightOf l c.1 (k.1:Int) =false then ((0,0,0, []),13) else ((l,(k.1:Int),(n.1:Int),c.1),0)
def readW (s:List UInt8) : (Nat×Int×Int×List Nd)×Int:=
 let o:=openT s
 if o.2≠0 then ((0,0,0, []),o.2) else if o.1.length<4 then ((0,0,0, []),9) else if o.1.take 4≠ [68,87,80,1] then ((0,0,0, []),10) else
 match o.1.drop 4 with
 | []=>((0,0,0, []),9)
 |b :: s0=>if b.toNat<1∨48<b.toNat then ((0,0,0, []),10) else readN b.toNat s0
def wireT (l:Nat) (k:Int) (r:List Nd) :List UInt8:=sealT ([68,87,80,1] ++ [UInt8.ofNat l] ++ putB [k,sumR r] ++ risesB (r.map (·.1)) ++ putB (r.map (·.2)))
def OpenPost (s:List UInt8) (w:World) (e:Ending) (w':World) :Prop:=e=.returned (.tuple #[.string ⟨(openT s).1.toArray⟩,.int .i64 (openT s).2])∧Below w.heap.size w w'
theorem text_take (l:List UInt8) (n:Nat) : (ByteArray.mk l.toArray).extract 0 n= ⟨(l.take n).toArray⟩:=by
 apply ByteArray.ext
 simp [ByteArray.data_extract]
theorem index_line: ∀(a t:List UInt8),(10:UInt8)∉a→Lib.indexByte (a ++ 10 :: t) 10= (a.length:Int):=by
 intro a
 induction a with
 |nil=>intro t _;simp [Lib.indexByte]
 |cons b r ih=>
  intro t h;have h1:b≠10:=fun e=>h (by simp [e]);have h2:=ih t (fun hm=>h (by simp [hm]));simp only [List.cons_append,Lib.indexByte,h2,List.length_cons];rw [if_neg (by simpa using h1),if_neg (by simp only [beq_iff_eq];omega)]
  push_cast;rfl
theorem lite_Cut_line (w:World) (S a t:List UInt8) (n:Nat) (hl:S.length≤1000000000) (hle:n+1≤S.length) (ht: (ByteArray.mk S.toArray).extract 0 n= ⟨a.toArray⟩) (hd: (ByteArray.mk S.toArray).extract (n+1) S.length= ⟨t.toArray⟩)
 (hi: ∀W,Calls Tryz.prog 243 #[.string ⟨S.toArray⟩,.string ⟨#[10]⟩] W fun e w'=>e=.returned (.int .i64 n)∧w'=W) :
 Calls Tryz.prog 212 #[.string ⟨S.toArray⟩,.string ⟨#[10]⟩] w fun e w'=>e=.returned (.tuple #[.string ⟨a.toArray⟩,.string ⟨t.toArray⟩,.bool true])∧Below w.heap.size w w':=by
 have HI:=LH hi;clear hi
 go_enter Tryz.func212,Tryz.ntmps212
 go_wp2_with fail;refine(HI.out _).mono ?_;rintro e w1 ⟨rfl,hw⟩;obtain rfl:=hw.symm;go_wp2_with fail;refine rX (by kernel_rfl) (by kernel_rfl) ?_
 repeat (go_big_quiet_step (fail))
 refine wpQuiet_nil ?_;intro w3 hb3;replace hb3:=bX hb3;have B3:Below w.heap.size w w3:=Below.then_ bE hb3;have s3:=B3.size;go_wp2_with fail;exact bR (v:=.tuple #[.string ⟨a.toArray⟩,.string ⟨t.toArray⟩,.bool true]) (by simp only [results,Tryz.results212];go_simp) rfl ⟨rfl,B3⟩
theorem strings_Cut_line (w:World) (a t:List UInt8) (h: (10:UInt8)∉a) (hl: (a ++ 10 :: t).length≤1000000000) :
 Calls Tryz.prog 172 #[.string ⟨(a ++ 10 :: t).toArray⟩,.string ⟨#[10]⟩] w fun e w'=>e=.returned (.tuple #[.string ⟨a.toArray⟩,.string ⟨t.toArray⟩,.bool true])∧Below w.heap.size w w':=by
 have hi:=index_line a t h;have HI:=LH (fun W=>Tryz.stringslite_Index_one ⟨(a ++ 10 :: t).toArray⟩ 10 W);simp only [hi] at HI;have ht:=text_take (a ++ 10 :: t) a.length;rw [List.take_left] at ht;have hd:=text_drop (a ++ 10 :: t) (a.length+1);rw [show (a ++ 10 :: t).drop (a.length+1) =t by rw [List.drop_append];simp] at hd;have hle:a.length+1≤(a ++ 10 :: t).length:=by simp
 obtain⟨S,hS⟩ : ∃S,S=a ++ 10 :: t:=⟨_,rfl⟩;rw [←hS] at HI ht hd hl hle⊢;obtain⟨n,hn⟩ : ∃n,n=a.length:=⟨_,rfl⟩;rw [←hn] at HI ht hd hle;clear hS hn hi h;have HL:=LH (fun W=>lite_Cut_line W S a t n hl hle ht hd HI.out);clear ht hd
 go_enter Tryz.func172,Tryz.ntmps172
 go_wp2_with fail;refine(HL.out _).mono ?_;rintro e w1 ⟨rfl,hb1⟩;have B1:Below w.heap.size w w1:=Below.then_ bE hb1;have s1:=B1.size;go_wp2_with fail;exact bR (v:=.tuple #[.string ⟨a.toArray⟩,.string ⟨t.toArray⟩,.bool true]) (by simp only [results,Tryz.results172];go_simp) rfl ⟨rfl,B1⟩
section
attribute [local go_sem] Oper.semAt_some
def txtL (L:List (List UInt8)) :List UInt8:=L.flatMap fun a=>a ++ [10]
theorem txtL_cons (a:List UInt8) (L:List (List UInt8)) :txtL (a :: L) =a ++ 10 :: txtL L:=by unfold txtL;rw [List.flatMap_cons,List.append_assoc];rfl
theorem txtL_drop (L:List (List UInt8)) {k:Nat} (h:k<L.length) :txtL (L.drop k) =L[k] ++ 10 :: txtL (L.drop (k+1)):=by rw [List.drop_eq_getElem_cons h,txtL_cons]
theorem txtL_len (L:List (List UInt8)) (k:Nat) : (txtL (L.drop k)).length≤(txtL L).length:=by
 have h:=congrArg (fun l=>(txtL l).length) (List.take_append_drop k L);unfold txtL at h⊢;simp only [List.flatMap_append,List.length_append] at h;omega
theorem txtL_count (L:List (List UInt8)) :L.length≤(txtL L).length:=by
 induction L with
 |nil=>simp
 |cons a L ih=>rw [txtL_cons];simp only [List.length_cons,List.length_append];omega
theorem sheet_lines (w:World) (s:List UInt8) :Calls Tryz.prog 103 #[.string ⟨s.toArray⟩] w fun e w'=>e=.returned (.func (.func 171) #[] #[.pointer (some ⟨w.heap.size,0,none⟩)])∧w.alloc (.cells #[.string ⟨s.toArray⟩] 9) =w':=by
 go_enter Tryz.func103,Tryz.ntmps103
 go_wp2_with fail;go_ret;exact⟨rfl,rfl⟩
def lineAt (L:List (List UInt8)) (k:Nat) :List UInt8:=L.getD k []
theorem lineAt_in {L:List (List UInt8)} {k:Nat} (h:k<L.length) :lineAt L k=L[k]:=by unfold lineAt;rw [List.getD_eq_getElem?_getD,List.getElem?_eq_getElem h];rfl
def lineE (L:List (List UInt8)) (k:Nat) :Array Value:= #[.int .i64 ((k:Int) +1),.string ⟨(lineAt L k).toArray⟩]
def lineS (L:List (List UInt8)) (k:Nat) :Obj:=.cells #[.string ⟨(txtL (L.drop k)).toArray⟩] 9 (0,0)
theorem grown_of {w w':World} (hb:Below w.heap.size w w') :w.grownBy w' none:=⟨hb.os,hb.tape,hb.output,hb.size,fun k hk _=>hb.block k hk⟩
theorem lines_st (n bs:Nat) (L:List (List UInt8)) (w:World) (hn:1≤n) (h10: ∀a∈L,(10:UInt8)∉a) (hl: (txtL L).length≤1000000000) (hb:bs<w.heap.size) :
 SeqSt Fence.wide n Tryz.prog 171 #[.pointer (some ⟨bs,0,none⟩)] (lineE L) L.length bs (lineS L) w:=fun q J W hW hJ hJs hY h0 hS=>by
 have HY:=LH hY;have H0:=LH h0;have HJ:=LH hJ;have HJs:=LH hJs;have HL:=LH (And.intro h10 hl);have KS:=LH hS;clear hY h0 hJ hJs h10 hS;refine callsIn_of_wp Tryz.func171 rfl trivial ?_ rfl;simp only [Tryz.ntmps171,List.size_toArray,List.length_cons,List.length_nil,Nat.reduceAdd,Nat.reduceSub,Array.replicate_succ,Array.replicate_zero,List.push_toArray,List.append_toArray,List.nil_append,List.cons_append]
 gi_wp2_with fail
 gi_loopw [3] (fun i wr=>∃k:Nat,k≤L.length∧i=.int .i64 (k+1:Nat)∧J k wr∧wr.heap[bs]? =some (lineS L k)∧True) (fun i _=>L.length+1 - (intOf i).toNat)
 case atStart=>exact⟨0,Nat.zero_le _,rfl,H0.out,KS.out,trivial⟩
 case round=>
  obtain⟨k,hk,rfl,hJk,hbk,_⟩:=hrel;have KJ:=LH hJk;have KB:=LH hbk;clear hJk;unfold lineS at hbk;have cb:=bC hbk;have fb:=bF hbk;have zb:=lB hbk;by_cases hlt:k<L.length
  ·have hkb:k<1000000000:=by have h1:=txtL_count L;have h2:=HL.out.2;omega
   have hS:=txtL_drop L hlt;have ha:=HL.out.1 _ (List.getElem_mem hlt);have hle:=txtL_len L k;have hlen:=HL.out.2;rw [hS] at cb hle;have HY1:=LH (fun W1 (h:J k W1) (hb:W1.heap[bs]? =some (lineS L k))=>HY.out k W1 hlt h hb);unfold lineE at HY1;have hgd:lineAt L k=L[k]:=lineAt_in hlt;rw [hgd] at HY1;have HC:=LH (fun W1=>strings_Cut_line W1 L[k] (txtL (L.drop (k+1))) ha (by omega));have hN:Hid (lineS L (k+1) =.cells #[.string ⟨(txtL (L.drop (k+1))).toArray⟩] 9 (0,0)):=LH rfl;have HP:=LH (show (L[k] ++ 10 :: txtL (L.drop (k+1))).isEmpty=false by simp);generalize txtL (L.drop (k+1)) =t at cb HC hN HP hle;generalize L[k] =a at cb HC HY1 HP hle;generalize a ++ 10 :: t=S at cb HC HP hle;clear hS ha hgd hle hlen;have hne:=HP.out
   gi_wp2_with fail
   refine⟨trivial,?_⟩;refine(callsIn_wide.2 (HC.out _)).mono ?_;rintro e w3 ⟨rfl,hb3⟩;have J3:=HJ.out k _ _ none KJ.out (grown_of hb3) (fun r e=>by cases e);have K3:=bB KB.out hb3;have s3:=hb3.size;obtain⟨fn,tmps,assign,body,hy,hR⟩:=HY1.out _ J3 K3;clear hb3 J3 K3 cb fb hbk
   gi_wp2_with fail
   refine hR.mono ?_;rintro e w4 ⟨rfl,hJ4,hk4⟩;have K4:=LH hk4;have J4:=LH hJ4;unfold lineS at hk4;have cb4:=bC hk4;have fb4:=bF hk4;have zb4:=lB hk4;have s4:bs<w4.heap.size:=zb4;have KN:Hid ((w4.setCell ⟨bs,0,none⟩ (.string ⟨t.toArray⟩)).heap[bs]? =some (lineS L (k+1))):=LH (by rw [hN.out];exact zH (i:=0) hk4 _);have JN:=LH (HJs.out _ _ (.string ⟨t.toArray⟩) hJ4);clear hJ4 hk4 hy hR
   gi_wp2_with fail
   go_roundw
   case rel=>exact⟨k+1,by omega,by go_num,JN.out,KN.out,trivial⟩
   case measure=>simp [intOf];omega
  ·obtain rfl:k=L.length:=by omega
   rw [List.drop_length] at cb;have e0:txtL [] = []:=rfl;rw [e0] at cb;clear hbk
   gi_wp2_with fail
   go_end0
   exact⟨⟨_,rfl⟩,KJ.out⟩
end
section
attribute [local go_sem] Oper.semAt_some
def linesL (l:Nat) (k:Int) (r:List Nd) :List (List UInt8):=(headT l k (sumR r)).flatten :: r.map fun x=>(nodeT l x).flatten
theorem textL_lines (l:Nat) (k:Int) (r:List Nd) :textL l k r=txtL (linesL l k r):=by
 unfold textL txtL linesL;rw [List.flatMap_cons,List.flatMap_map]
theorem digB_ten (n:Nat) : (10:UInt8)∉digB n:=fun h=>by
 have:=(digB_digit n 10 h).1
 revert this;decide
theorem head_ten (l:Nat) (k n:Int) : (10:UInt8)∉(headT l k n).flatten:=by
 have h1:=digB_ten l;have h2:=digB_ten k.toNat;have h3:=digB_ten n.toNat;unfold headT;simp only [List.flatten_cons,List.flatten_nil,List.mem_append,List.mem_cons,List.not_mem_nil];simp [h1,h2,h3]
theorem node_ten (l:Nat) (x:Nd) : (10:UInt8)∉(nodeT l x).flatten:=by
 have h1:=digB_ten (endsOf l x.1).1.toNat;have h2:=digB_ten (endsOf l x.1).2.1.toNat;have h3:=digB_ten x.2.toNat;unfold nodeT;simp only [List.flatten_cons,List.flatten_nil,List.mem_append,List.mem_cons,List.not_mem_nil];simp [h1,h2,h3]
theorem lines_ten (l:Nat) (k:Int) (r:List Nd) : ∀a∈linesL l k r,(10:UInt8)∉a:=by
 intro a ha;unfold linesL at ha;rcases List.mem_cons.1 ha with rfl|ha
 ·exact head_ten _ _ _
 ·obtain⟨x,_,rfl⟩:=List.mem_map.1 ha
  exact node_ten _ _
theorem right_l48 {l:Nat} {r:List Nd} (h:rightOf l r=true) :1≤l∧l≤48:=by
 simp only [rightOf,Bool.and_eq_true] at h;have:=h.2;simp only [isNode,decide_eq_true_eq] at this;omega
theorem dig_k {l k K:Int} (h:isDig l k K=true) :1≤k∧k≤1048576:=by
 simp only [isDig,Bool.and_eq_true,decide_eq_true_eq] at h;exact h.2
def ReadPost (K l:Nat) (k:Int) (r:List Nd) (w:World) (e:Ending) (w':World) :Prop:=∃g F,e=.returned (.tuple #[.pointer (some ⟨g,0,none⟩),.int .i64 0,.int .i64 0])∧DigAt w' g K l k r F∧(∀b,F b→w.heap.size≤b)∧Below w.heap.size w w'
theorem Own.but {α:Type} {size:Nat} {w w':World} {base pr e:Nat} {E:Enc α size} {v:Value} {l:List α} (h:Own w base e E v l) (hb:But pr w w') (hne:v.ownBlock≠some pr) :Own w' base e E v l:=by
 rcases h with h| ⟨g,off,cap,cur,rfl,h1,h2,h3⟩
 ·exact .inl h
 ·exact .inr ⟨g,off,cap,cur,rfl,h1,hb.k _ _ h2 (fun e=>hne (by rw [←e];rfl)),h3⟩
structure RdI (w:World) (l kn:Nat) (r:List Nd) (k:Nat) (W:World) :Prop where
 d:W.heap[w.heap.size]? =some (.cells #[.pointer none] 27 (0,0))
 n:W.heap[w.heap.size+1]? =some (.cells #[.int .i64 0] 3 (0,0))
 e:W.heap[w.heap.size+1+1]? =some (.cells #[.int .i64 0] 41 (0,0))
 p:W.heap[w.heap.size+1+1+1+1]? =some (.cells #[.pointer (some ⟨w.heap.size+1+1+1,0,none⟩)] 172 (0,0))
 s: ∃u,W.heap[w.heap.size+1+1+1+1+1]? =some (.cells #[u] 9 (0,0))
 r: ∃v,RdgAt W (w.heap.size+1+1+1) (if k=0 then 0 else l) (if k=0 then 0 else kn) 0 (if k=0 then 0 else sumR (r.drop (k - 1))) v∧Own W w.heap.size 77 encN v (r.take (k - 1))
 b:Below w.heap.size w W
theorem RdI.from {w:World} {l kn:Nat} {r:List Nd} {B:Nat} (hB:w.heap.size≤B) :OwnFrom B (RdI w l kn r):=fun s X Y row hs hg hr=>by
 have h2:=fun q e=>(hr q e).2;obtain⟨v,h3,h4⟩:=hs.r;obtain⟨u,h5⟩:=hs.s
 exact⟨row_grown hs.d hg h2,row_grown hs.n hg h2,row_grown hs.e hg h2,row_grown hs.p hg h2,⟨u,row_grown h5 hg h2⟩,⟨v,row_grown h3 hg h2,own_grown h4 hg h2⟩,
  ⟨hg.os.trans hs.b.os,hg.tape.trans hs.b.tape,hg.output.trans hs.b.output,Nat.le_trans hs.b.size hg.size,fun i hi=>(hg.block i (by have:=hs.b.size;omega) (fun e=>by have:=(hr i e.symm).1;omega)).trans (hs.b.block i hi)⟩⟩
theorem RdI.set {w:World} {l kn:Nat} {r:List Nd} {k:Nat} {X:World} (h:RdI w l kn r k X) (v:Value) :RdI w l kn r k (X.setCell ⟨w.heap.size+1+1+1+1+1,0,none⟩ v):=by
 obtain⟨u,h3,h4⟩:=h.r;obtain⟨y,h5⟩:=h.s
 exact⟨(Below.heap_setCell _ _ _ _ (show w.heap.size≠w.heap.size+1+1+1+1+1 by omega)).trans h.d,(Below.heap_setCell _ _ _ _ (show w.heap.size+1≠w.heap.size+1+1+1+1+1 by omega)).trans h.n,(Below.heap_setCell _ _ _ _ (show w.heap.size+1+1≠w.heap.size+1+1+1+1+1 by omega)).trans h.e,
  (Below.heap_setCell _ _ _ _ (show w.heap.size+1+1+1+1≠w.heap.size+1+1+1+1+1 by omega)).trans h.p,⟨v,zH (i:=0) h5 v⟩,
  ⟨u,(Below.heap_setCell _ _ _ _ (show w.heap.size+1+1+1≠w.heap.size+1+1+1+1+1 by omega)).trans h3,h4.setCell (p:=⟨w.heap.size+1+1+1+1+1,0,none⟩) (h4.ne_block h5 (by decide)) v⟩,h.b.setCell (p:=⟨w.heap.size+1+1+1+1+1,0,none⟩) (show w.heap.size≤w.heap.size+1+1+1+1+1 by omega) v⟩
theorem RdI.next {w:World} {l kn:Nat} {r l0:List Nd} {k:Nat} {v:Value} {W W':World} (h:RdI w l kn r k W) (hown:Own W w.heap.size 77 encN v l0) (hs:W.heap.size≤W'.heap.size)
 (hk: ∀b o,W.heap[b]? =some o→b≠w.heap.size+1+1+1→v.ownBlock≠some b→W'.heap[b]? =some o) (hb:Below w.heap.size W W')
 (hr: ∃v',RdgAt W' (w.heap.size+1+1+1) l kn 0 (sumR (r.drop k)) v'∧Own W' w.heap.size 77 encN v' (r.take k)) :RdI w l kn r (k+1) W':=by
 obtain⟨u,h5⟩:=h.s;refine⟨hk _ _ h.d (by omega) (hown.ne_block h.d (by decide)),hk _ _ h.n (by omega) (hown.ne_block h.n (by decide)),hk _ _ h.e (by omega) (hown.ne_block h.e (by decide)),hk _ _ h.p (by omega) (hown.ne_block h.p (by decide)),⟨u,hk _ _ h5 (by omega) (hown.ne_block h5 (by decide))⟩,?_,h.b.trans hb⟩;rw [if_neg (by omega),if_neg (by omega),if_neg (by omega),Nat.add_sub_cancel];exact hr
theorem lines_at (l:Nat) (k:Int) (r:List Nd) {q:Nat} (h:q<r.length) :lineAt (linesL l k r) (q+1) = (nodeT l r[q]).flatten:=by
 unfold lineAt linesL;rw [List.getD_eq_getElem?_getD,List.getElem?_cons_succ,List.getElem?_map,List.getElem?_eq_getElem h];rfl
theorem head_at (l:Nat) (k:Int) (r:List Nd) :lineAt (linesL l k r) 0= (headT l k (sumR r)).flatten:=rfl
theorem sumR_drop (r:List Nd) {q:Nat} (h:q<r.length) :sumR (r.drop q) =r[q].2+sumR (r.drop (q+1)):=by
 rw [List.drop_eq_getElem_cons h];rfl
theorem sumR_drop_le {r:List Nd} (hr:Roll r) : ∀q,0≤sumR (r.drop q)∧sumR (r.drop q)≤sumR r:=by
 intro q;have h0: ∀q,0≤sumR (r.drop q):=fun q=>sumR_nonneg ⟨hr.1.sublist (List.drop_sublist _ _),fun x hx=>hr.2 x (List.mem_of_mem_drop hx)⟩;refine⟨h0 q,?_⟩
 induction q with
 |zero=>rw [List.drop_zero];exact Int.le_refl _
 |succ q ih=>
  rcases Nat.lt_or_ge q r.length with h|h
  ·have h1:=sumR_drop r h
   have h2:=(hr.2 _ (List.getElem_mem h)).2;omega
  ·rw [List.drop_of_length_le (by omega)]
   exact h0 0 |> fun h=>by rw [List.drop_zero] at h;exact h
theorem keeps_of {W W':World} {B pr:Nat} {v:Value} {cs:Array Value} {t:Nat} (hs:W.heap.size≤W'.heap.size) (hk: ∀b o,W.heap[b]? =some o→b≠pr→v.ownBlock≠some b→W'.heap[b]? =some o) (hp:W.heap[pr]? =some (.cells cs t (0,0)))
 (hv: ∀g,v.ownBlock=some g→∃c t2,W.heap[g]? =some (.cells c t2 (0,0))) :KeepsFrom B W W':=
 ⟨hs,fun k o _ hk1 hc=>hk k o hk1 (fun e=>by subst e;rw [hp] at hk1;injection hk1 with hk1;subst hk1;cases hc) (fun e=>by obtain⟨c,t2,h⟩:=hv k e;rw [h] at hk1;injection hk1 with hk1;subst hk1;cases hc)⟩
theorem Own.cells {α:Type} {size:Nat} {w:World} {base e:Nat} {E:Enc α size} {v:Value} {l:List α} (h:Own w base e E v l) : ∀g,v.ownBlock=some g→∃c t2,w.heap[g]? =some (.cells c t2 (0,0)):=by
 intro g hg;rcases h with ⟨rfl,_⟩ | ⟨g',off,cap,cur,rfl,h1,h2,h3⟩
 ·cases hg
 ·have:g'=g:=by simpa [Value.ownBlock] using hg
  subst this;exact⟨_,_,h2⟩
theorem sheet_Read (w:World) (l Kd kn:Nat) (r:List Nd) (h:loadErr l kn Kd r=0) (hn:r.length≤1000000) (hI:ints r) :
 Calls Tryz.prog 39 #[.string ⟨(textL l kn r).toArray⟩,.int .i64 Kd] w (ReadPost Kd l kn r w):=by
 have hln: (textL l kn r).length≤1000000000:=by
  have hf:=(right_fits (goodL_parts h).1).1;have hl:1≤l∧l≤48:=right_l48 (goodL_parts h).1;have h0:=sumR_nonneg hf.roll;have h1:=hf.sum;have h2:=lines_bound (q:=r.length) hl hf hn;rw [List.take_length] at h2;have hk:=(dig_k (goodL_dig h));have h3:=headT_len (l:=l) (k:=kn) (n:=sumR r) (by omega) (by omega) (by omega);unfold textL;simp only [List.length_append,List.length_singleton] at h2⊢;omega
 rw [textL_lines] at hln⊢;have HLn:=LH hln;clear hln;have hd:=goodL_dig h;obtain⟨hr,h8,hli⟩:=goodL_parts h;have HT:=LH (lines_ten l kn r);obtain⟨S,hS⟩ : ∃S,S=txtL (linesL l kn r):=⟨_,rfl⟩;have HS:=LH hS;have hne:S.isEmpty=false:=by rw [hS];unfold linesL;rw [txtL_cons];simp
 rw [←hS];clear hS;have hf:=(right_fits hr).1;have hl:=right_l48 hr;have hkn:1≤kn∧kn≤1048576:=by have:=dig_k hd;omega
 have hs0:=sumR_nonneg hf.roll;have hs1:=hf.sum;obtain⟨sn,hsn⟩:=Int.eq_ofNat_of_zero_le hs0;refine(callsIn_wide (n:=3)).1 ?_;refine callsIn_of_wp_marks Tryz.func39 rfl trivial ?_ rfl;simp only [Tryz.ntmps39,List.size_toArray,List.length_cons,List.length_nil,Nat.reduceAdd,Nat.reduceSub,Array.replicate_succ,Array.replicate_zero,List.push_toArray,List.append_toArray,List.nil_append,List.cons_append]
 gi_wp2_with fail
 refine⟨trivial,?_⟩;refine(callsIn_wide.2 (sheet_lines _ S)).mono ?_;rintro e w4 ⟨rfl,rfl⟩
 gi_wp2_with fail
 have HI0:Hid (RdI w l kn r 0 ((((((w.alloc (.cells #[.pointer none] 27)).alloc (.cells #[.int .i64 0] 3)).alloc (.cells #[.int .i64 0] 41)).alloc (.cells #[.int .i64 0,.int .i64 0,.int .i64 0,.int .i64 0,.slice none 0 0] 174)).alloc (.cells #[.pointer (some ⟨w.heap.size+1+1+1,0,none⟩)] 172)).alloc (.cells #[.string ⟨S.toArray⟩] 9))):=LH (by
  refine⟨?_,?_,?_,?_,⟨.string ⟨S.toArray⟩,?_⟩,⟨.slice none 0 0,?_,Own.nil _ _ _ _⟩,bE⟩
  all_goals (try unfold RdgAt)
  all_goals repeat (first|exact heap_new_at _ _ _ (by simp) |refine(Below.heap_alloc _ _ _ (by simp;try omega)).trans ?_))
 have HB0:Hid (((((((w.alloc (.cells #[.pointer none] 27)).alloc (.cells #[.int .i64 0] 3)).alloc (.cells #[.int .i64 0] 41)).alloc (.cells #[.int .i64 0,.int .i64 0,.int .i64 0,.int .i64 0,.slice none 0 0] 174)).alloc (.cells #[.pointer (some ⟨w.heap.size+1+1+1,0,none⟩)] 172)).alloc (.cells #[.string ⟨S.toArray⟩] 9)).heap[w.heap.size+1+1+1+1+1]? =some (lineS (linesL l kn r) 0)):=LH (by
  unfold lineS;rw [List.drop_zero,←HS.out];exact heap_new_at _ _ _ (by simp))
 have hz0: ((((((w.alloc (.cells #[.pointer none] 27)).alloc (.cells #[.int .i64 0] 3)).alloc (.cells #[.int .i64 0] 41)).alloc (.cells #[.int .i64 0,.int .i64 0,.int .i64 0,.int .i64 0,.slice none 0 0] 174)).alloc (.cells #[.pointer (some ⟨w.heap.size+1+1+1,0,none⟩)] 172)).alloc (.cells #[.string ⟨S.toArray⟩] 9)).heap.size=w.heap.size+6:=by simp
 generalize ((((((w.alloc (.cells #[.pointer none] 27)).alloc (.cells #[.int .i64 0] 3)).alloc (.cells #[.int .i64 0] 41)).alloc (.cells #[.int .i64 0,.int .i64 0,.int .i64 0,.int .i64 0,.slice none 0 0] 174)).alloc (.cells #[.pointer (some ⟨w.heap.size+1+1+1,0,none⟩)] 172)).alloc (.cells #[.string ⟨S.toArray⟩] 9)) =W0 at HI0 HB0 hz0⊢;have hlen: (txtL (linesL l kn r)).length≤1000000000:=HLn.out
 refine wpIn_rangeFunc_st (encs:=lineE (linesL l kn r)) rfl (by decide) (gf:=171) (lb:= #[.pointer (some ⟨w.heap.size+1+1+1+1+1,0,none⟩)]) rfl trivial (enters_of Tryz.func171 (by kernel_rfl) rfl)
  (lines_st (3 - 1) (w.heap.size+1+1+1+1+1) (linesL l kn r) W0 (by decide) HT.out hlen (by omega)) (Below.refl _ _) HB0.out (fun _=>rfl) (RdI w l kn r) (RdI.from (by omega)) (fun s X v h=>h.set v) HI0.out
  (fun k=>{tmps:= #[.string ⟨S.toArray⟩,.int .i64 Kd,undef,undef,.pointer (some ⟨w.heap.size,0,none⟩),.pointer (some ⟨w.heap.size+1,0,none⟩),.pointer (some ⟨w.heap.size+1+1,0,none⟩),.pointer (some ⟨w.heap.size+1+1+1+1,0,none⟩),
    .int .i64 ((k:Int) +1),.string ⟨(lineAt (linesL l kn r) k).toArray⟩,undef,undef,.agg #[.int .i64 0,.int .i64 0,.int .i64 0,.int .i64 0,.slice none 0 0],.pointer (some ⟨w.heap.size+1+1+1,0,none⟩),.string ⟨S.toArray⟩,.bool false,.string ⟨S.toArray⟩,
    .func (.func 171) #[] #[.pointer (some ⟨w.heap.size+1+1+1+1+1,0,none⟩)],.int .i64 ((k:Int) +1),.string ⟨(lineAt (linesL l kn r) k).toArray⟩,undef,undef,undef,undef,undef,undef,undef,undef,undef,undef,undef,undef,undef,undef,undef,undef,undef,undef,undef,undef,undef,undef,undef,undef,undef,undef,undef,undef,undef,undef,undef,undef,undef,undef,undef],defers:= []}) ?assign ?body ?done
 case assign=>
  intro q k W Kc hK;unfold lineE
  gi_wp2
  exact hK
 case body=>
  intro q k W hk hR hbs;obtain⟨v,hrd,hown⟩:=hR.r;have KR:=LH hR;have KO:=LH hown;have KRd:=LH hrd;have KBs:=LH hbs;have cp:=bC hR.p;have zp:=lB hR.p;have hvp:=hown.ne_block hrd (by decide);have hvs:=hown.ne_block hbs (by decide);have hsz:=hR.b.size;rcases Nat.eq_zero_or_pos k with rfl|hk0
  ·rw [if_pos rfl,if_pos rfl,if_pos rfl] at hrd
   have hl0:lineAt (linesL l kn r) 0= (headT l kn sn).flatten:=by rw [head_at,hsn]
   rw [hl0];have HH:=LH (sheet_head W _ l kn sn 0 0 0 0 v hl hkn (by omega) hrd);clear hrd hown hbs hR;have hs:=KR.out.s
   gi_wp2_with fail
   refine⟨trivial,?_⟩;refine(CallsIn.inRound q (callsIn_wide.2 HH.out)).mono ?_;rintro e w5 ⟨rfl,hR5,hB5⟩;have HK:Hid (∀b o,W.heap[b]? =some o→b≠w.heap.size+1+1+1→v.ownBlock≠some b→w5.heap[b]? =some o):=LH (fun b o h1 h2 _=>hB5.k b o h1 h2);have HN:=LH (KR.out.next KO.out hB5.s HK.out (hB5.b _ (by omega)) ⟨v,by rw [List.drop_zero,hsn];exact hR5,by have:=KO.out.but hB5 hvp;simpa using this⟩);have HS5:=LH hB5.s;clear hR5 hB5 HH
   gi_wp2_with fail
   exact⟨keeps_of HS5.out HK.out KRd.out KO.out.cells,HN.out,HK.out _ _ KBs.out (by omega) hvs⟩
  ·obtain⟨k,rfl⟩ : ∃m,k=m+1:=⟨k - 1,by omega⟩
   have hkr:k<r.length:=by unfold linesL at hk;simp only [List.length_cons,List.length_map] at hk;omega
   rw [if_neg (by omega),if_neg (by omega),if_neg (by omega),Nat.add_sub_cancel] at hrd;rw [Nat.add_sub_cancel] at hown;have hl0:=lines_at l kn r hkr;rw [hl0];have hxm:=List.getElem_mem hkr;have hdr:=sumR_drop r hkr;have hle:=sumR_drop_le hf.roll k;have hle2:=sumR_drop_le hf.roll (k+1);have hpw:=hf.roll.1
   have hlast: ∀y∈r.take k,y.1< (r[k]).1:=by
    have hmem:r[k]∈r.drop k:=by rw [List.drop_eq_getElem_cons hkr];exact List.mem_cons_self
    rw [←List.take_append_drop k r] at hpw;intro y hy;exact(List.pairwise_append.1 hpw).2.2 y hy _ hmem
   have HH:=LH (sheet_node W _ w.heap.size l kn 0 (sumR (r.drop k)) v (r.take k) r[k] hl (hf.nodes hl _ hxm) (hf.roll.2 _ hxm).2 (by omega) (by omega) hlast (by rw [List.length_take];omega) hrd hown hsz);have hk1: ((k:Int) +1+1 == 1) =false:=beq_eq_false_iff_ne.2 (by omega);have HTk:Hid (r.take k ++ [r[k]] =r.take (k+1)):=LH (by rw [List.take_succ_eq_append_getElem hkr]);have HSk:Hid (sumR (r.drop k) - (r[k]).2=sumR (r.drop (k+1))):=LH (by omega);rw [HTk.out,HSk.out] at HH;generalize (nodeT l r[k]).flatten=T at HH⊢;clear hrd hown hbs hR hl0 hxm hdr hle hle2 hpw hlast
   gi_wp2_with fail
   refine⟨trivial,?_⟩;refine(CallsIn.inRound q (callsIn_wide.2 HH.out)).mono ?_;rintro e w5 ⟨rfl,v5,hR5,hO5,hs5,hk5,hb5⟩;have HK:=LH hk5;have HN:=LH (KR.out.next KO.out hs5 hk5 (hb5 _ (by omega) (by omega) hsz) ⟨v5,hR5,hO5⟩);have HS5:=LH hs5;clear hR5 hO5 hs5 hk5 hb5 HH
   gi_wp2_with fail
   exact⟨keeps_of HS5.out HK.out KRd.out KO.out.cells,HN.out,HK.out _ _ KBs.out (by omega) hvs⟩
 case done=>
  intro D W hD hR hK;have hN: (linesL l kn r).length=r.length+1:=by unfold linesL;simp
  rw [hN] at hR;obtain⟨v,hrd,hown⟩:=hR.r;rw [if_neg (by omega),if_neg (by omega),if_neg (by omega),Nat.add_sub_cancel,List.drop_length] at hrd;rw [Nat.add_sub_cancel,List.take_length] at hown;obtain⟨A,cap,rfl,_⟩:=hown.form;have h0:sumR [] =0:=rfl;rw [h0] at hrd;have KR:=LH hR;have KO:=LH hown;have KRd:=LH hrd;have KD:=LH hK;have cp:=bC hR.p;have zp:=lB hR.p;have HE:=LH (sheet_end W _ l kn w.heap.size 0 A cap r hl hkn hr (by omega) hli hI hn hrd hown);clear hrd hown hK hR HT HI0 HB0 h0
  gi_wp2_with fail
  refine⟨trivial,?_⟩;refine(callsIn_wide.2 HE.out).mono ?_;rintro e w5 ⟨rfl,hb5⟩;have P5:=LH (bB KR.out.p hb5);have R5:=LH (show RdgAt w5 (w.heap.size+1+1+1) l kn 0 0 (.slice A r.length cap) from bB KRd.out hb5);have D5:=LH (bB KR.out.d hb5);have N5:=LH (bB KR.out.n hb5);have E5:=LH (bB KR.out.e hb5);have O5:=LH (KO.out.below hb5);have B5:=LH (KR.out.b.trans (hb5.mono KR.out.b.size));have Df5:=LH ((hb5.block D (Array.getElem?_eq_some_iff.1 KD.out).1).trans KD.out);clear cp zp hb5 HE KR KO KRd KD;have cp:=bC P5.out;have zp:=lB P5.out;have cr:=bC R5.out;have fr:=bF R5.out;have zr:=lB R5.out
  gi_wp2_with fail
  refine wpIn_wide.2 ?_;have R6:=LH (zH (i:=2) R5.out (.int .i64 Kd));have P6:=LH ((Below.heap_setCell w5 ⟨w.heap.size+1+1+1,2,none⟩ (.int .i64 Kd) (w.heap.size+1+1+1+1) (show w.heap.size+1+1+1+1≠w.heap.size+1+1+1 by omega)).trans P5.out);have D6:=LH ((Below.heap_setCell w5 ⟨w.heap.size+1+1+1,2,none⟩ (.int .i64 Kd) w.heap.size (show w.heap.size≠w.heap.size+1+1+1 by omega)).trans D5.out);have N6:=LH ((Below.heap_setCell w5 ⟨w.heap.size+1+1+1,2,none⟩ (.int .i64 Kd) (w.heap.size+1) (show w.heap.size+1≠w.heap.size+1+1+1 by omega)).trans N5.out);have E6:=LH ((Below.heap_setCell w5 ⟨w.heap.size+1+1+1,2,none⟩ (.int .i64 Kd) (w.heap.size+1+1) (show w.heap.size+1+1≠w.heap.size+1+1+1 by omega)).trans E5.out);have O6:=LH (O5.out.setCell (p:=⟨w.heap.size+1+1+1,2,none⟩) (O5.out.ne_block R5.out (by decide)) (.int .i64 Kd));have B6:=LH (B5.out.setCell (p:=⟨w.heap.size+1+1+1,2,none⟩) (show w.heap.size≤w.heap.size+1+1+1 by omega) (.int .i64 Kd));have hDr:D≠w.heap.size+1+1+1:=by omega
  have hDd:D≠w.heap.size:=by omega
  have hDn:D≠w.heap.size+1:=by omega
  have hDe:D≠w.heap.size+1+1:=by omega
  have Df6:=LH ((Below.heap_setCell w5 ⟨w.heap.size+1+1+1,2,none⟩ (.int .i64 Kd) D hDr).trans Df5.out);clear cp zp cr fr zr P5 R5 D5 N5 E5 O5 B5 Df5;generalize w5.setCell ⟨w.heap.size+1+1+1,2,none⟩ (.int .i64 Kd) =W6 at R6 P6 D6 N6 E6 O6 B6 Df6⊢;have R6':W6.heap[w.heap.size+1+1+1]? =some (.cells #[.int .i64 l,.int .i64 kn,.int .i64 Kd,.int .i64 0,.slice A r.length cap] 174 (0,0)):=R6.out;have R7:=LH R6';clear R6 R6';have HLd:=LH (fun W A cap (ho:Own W w.heap.size 77 encN (.slice A r.length cap) r)=>digest_Load W l Kd kn A cap r h ho.sl hI (by omega));clear h hr h8 hli hd hI;refine wp_region_noPanic ?_;refine wp_region_N (fun W=>W.heap[w.heap.size+1+1+1+1]? =some (.cells #[.pointer (some ⟨w.heap.size+1+1+1,0,none⟩)] 172 (0,0))∧W.heap[w.heap.size+1+1+1]? =some (.cells #[.int .i64 l,.int .i64 kn,.int .i64 Kd,.int .i64 0,.slice A r.length cap] 174 (0,0))) [] (by kernel_rfl) (⟨P6.out,R7.out⟩) (fun hHeld=> ?_);refine wpAnyN_take (i:=0) (v:=.pointer (some ⟨w.heap.size+1+1+1,0,none⟩)) rfl (by kernel_rfl) (by kernel_rfl) (by kernel_rfl) (by kernel_rfl) (fun _ _ _ h=>h) (Or.inl ⟨by rfl,fun W hW=>by have q1:=bC hW.1;go_simp⟩) ⟨P6.out,R7.out⟩ ?_
  (try simp only [zA,zB,zC,Act.put,zD,zE,zF])
  refine nP 1 (.pointer (some ⟨w.heap.size+1+1+1,0,none⟩)) (h:= ?_)
  (try simp only [zA,zB,zC,Act.put,zD,zE,zF])
  refine nP 2 (.pointer (some ⟨w.heap.size+1+1+1,0,none⟩)) (h:= ?_)
  (try simp only [zA,zB,zC,Act.put,zD,zE,zF])
  refine wpAnyN_take (i:=3) (v:=.agg #[.int .i64 l,.int .i64 kn,.int .i64 Kd]) rfl (by kernel_rfl) (by kernel_rfl) (by kernel_rfl) (by kernel_rfl) (fun _ _ _ h=>h) (Or.inl ⟨by rfl,fun W hW=>by have q1:=bC hW.2;go_simp⟩) ⟨P6.out,R7.out⟩ ?_
  (try simp only [zA,zB,zC,Act.put,zD,zE,zF])
  refine wpAnyN_take (i:=4) (v:=.pointer (some ⟨w.heap.size+1+1+1,0,none⟩)) rfl (by kernel_rfl) (by kernel_rfl) (by kernel_rfl) (by kernel_rfl) (fun _ _ _ h=>h) (Or.inl ⟨by rfl,fun W hW=>by have q1:=bC hW.1;go_simp⟩) ⟨P6.out,R7.out⟩ ?_
  (try simp only [zA,zB,zC,Act.put,zD,zE,zF])
  refine nP 5 (.pointer (some ⟨w.heap.size+1+1+1,0,none⟩)) (h:= ?_)
  (try simp only [zA,zB,zC,Act.put,zD,zE,zF])
  refine nP 6 (.pointer (some ⟨w.heap.size+1+1+1,4,none⟩)) (h:= ?_)
  (try simp only [zA,zB,zC,Act.put,zD,zE,zF])
  refine wpAnyN_take (i:=7) (v:=.slice A r.length cap) rfl (by kernel_rfl) (by kernel_rfl) (by kernel_rfl) (by kernel_rfl) (fun _ _ _ h=>h) (Or.inl ⟨by rfl,fun W hW=>by have q1:=bC hW.2;go_simp⟩) ⟨P6.out,R7.out⟩ ?_
  (try simp only [zA,zB,zC,Act.put,zD,zE,zF])
  refine nO (i:=8) (by kernel_rfl) rfl (fun K hK=> ?_);go_simp;refine(HLd.out _ A cap O6.out.drew).mono ?_;rintro e w7 ⟨g7,F7,rfl,hD7,hF7,hb7⟩;have P8:=LH (bB (w:=W6.drew) P6.out hb7);have R8:=LH (bB (w:=W6.drew) R7.out hb7);have D8:=LH (bB (w:=W6.drew) D6.out hb7);have N8:=LH (bB (w:=W6.drew) N6.out hb7);have E8:=LH (bB (w:=W6.drew) E6.out hb7);have Df8:=LH ((hb7.block D (Array.getElem?_eq_some_iff.1 Df6.out).1).trans Df6.out);have B8:=LH ((Below.drew B6.out).trans (hb7.mono (Below.drew B6.out).size));have G8:=LH hD7;have F8:=LH (fun b (hb:F7 b)=>show w.heap.size+1+1+1+1<b from Nat.lt_of_lt_of_le (lB P6.out) (hF7 b hb));have FD8:=LH (fun b (hb:F7 b)=>show D<b from Nat.lt_of_lt_of_le (Array.getElem?_eq_some_iff.1 Df6.out).1 (hF7 b hb));clear hD7 hF7 hb7 P6 R7 D6 N6 E6 O6 B6 Df6 HLd;refine hK.out _ _ (fun _ _=>⟨P8.out,R8.out⟩) ?_;clear hK K
  (try simp only [zA,zB,zC,Act.put,zD,zE,zF])
  refine nP 9 (.tuple #[.pointer (some ⟨g7,0,none⟩),.int .i64 0]) (h:= ?_)
  (try simp only [zA,zB,zC,Act.put,zD,zE,zF])
  refine nP 10 (.pointer (some ⟨g7,0,none⟩)) (h:= ?_)
  (try simp only [zA,zB,zC,Act.put,zD,zE,zF])
  refine nP 11 (.int .i64 0) (h:= ?_)
  (try simp only [zA,zB,zC,Act.put,zD,zE,zF])
  have cd:=bC D8.out;have fd:=bF D8.out;have zd:=lB D8.out;refine nO (i:=12) (by kernel_rfl) rfl (fun K hK=> ?_);go_simp;have P9:=LH ((Below.heap_setCell w7 ⟨w.heap.size,0,none⟩ (.pointer (some ⟨g7,0,none⟩)) (w.heap.size+1+1+1+1) (show (w.heap.size+1+1+1+1:Nat)≠w.heap.size by omega)).trans P8.out);have R9:=LH ((Below.heap_setCell w7 ⟨w.heap.size,0,none⟩ (.pointer (some ⟨g7,0,none⟩)) (w.heap.size+1+1+1) (show (w.heap.size+1+1+1:Nat)≠w.heap.size by omega)).trans R8.out);have N9:=LH ((Below.heap_setCell w7 ⟨w.heap.size,0,none⟩ (.pointer (some ⟨g7,0,none⟩)) (w.heap.size+1) (show (w.heap.size+1:Nat)≠w.heap.size by omega)).trans N8.out);have E9:=LH ((Below.heap_setCell w7 ⟨w.heap.size,0,none⟩ (.pointer (some ⟨g7,0,none⟩)) (w.heap.size+1+1) (show (w.heap.size+1+1:Nat)≠w.heap.size by omega)).trans E8.out);have D9:=LH (zH (i:=0) D8.out (.pointer (some ⟨g7,0,none⟩)));have Df9:=LH ((Below.heap_setCell w7 ⟨w.heap.size,0,none⟩ (.pointer (some ⟨g7,0,none⟩)) D hDd).trans Df8.out);have G9:=LH (G8.out.set (q:=w.heap.size) (o:=0) (u:=.pointer (some ⟨g7,0,none⟩)) (fun b hb=>by have:=F8.out b hb;omega));have B9:=LH (B8.out.setCell (p:=⟨w.heap.size,0,none⟩) (Nat.le_refl _) (.pointer (some ⟨g7,0,none⟩)));refine hK.out _ _ (fun _ _=>⟨P9.out,R9.out⟩) ?_;clear hK K cd fd zd P8 R8 N8 E8 D8 Df8 G8 B8
  (try simp only [zA,zB,zC,Act.put,zD,zE,zF])
  generalize (w7.setCell ⟨w.heap.size,0,none⟩ (.pointer (some ⟨g7,0,none⟩))) =w9 at P9 R9 N9 E9 D9 Df9 G9 B9⊢;have ce:=bC E9.out;have fe:=bF E9.out;have ze:=lB E9.out;refine nO (i:=13) (by kernel_rfl) rfl (fun K hK=> ?_);go_simp;have P10:=LH ((Below.heap_setCell w9 ⟨w.heap.size+1+1,0,none⟩ (.int .i64 0) (w.heap.size+1+1+1+1) (show (w.heap.size+1+1+1+1:Nat)≠w.heap.size+1+1 by omega)).trans P9.out);have R10:=LH ((Below.heap_setCell w9 ⟨w.heap.size+1+1,0,none⟩ (.int .i64 0) (w.heap.size+1+1+1) (show (w.heap.size+1+1+1:Nat)≠w.heap.size+1+1 by omega)).trans R9.out);have N10:=LH ((Below.heap_setCell w9 ⟨w.heap.size+1+1,0,none⟩ (.int .i64 0) (w.heap.size+1) (show (w.heap.size+1:Nat)≠w.heap.size+1+1 by omega)).trans N9.out);have D10:=LH ((Below.heap_setCell w9 ⟨w.heap.size+1+1,0,none⟩ (.int .i64 0) (w.heap.size) (show (w.heap.size:Nat)≠w.heap.size+1+1 by omega)).trans D9.out);have E10:=LH (zH (i:=0) E9.out (.int .i64 0));have Df10:=LH ((Below.heap_setCell w9 ⟨w.heap.size+1+1,0,none⟩ (.int .i64 0) D hDe).trans Df9.out);have G10:=LH (G9.out.set (q:=w.heap.size+1+1) (o:=0) (u:=.int .i64 0) (fun b hb=>by have:=F8.out b hb;omega));have B10:=LH (B9.out.setCell (p:=⟨w.heap.size+1+1,0,none⟩) (show w.heap.size≤w.heap.size+1+1 by omega) (.int .i64 0));refine hK.out _ _ (fun _ _=>⟨P10.out,R10.out⟩) ?_;clear hK K ce fe ze P9 R9 N9 E9 D9 Df9 G9 B9 P10 R10
  (try simp only [zA,zB,zC,Act.put,zD,zE,zF])
  generalize w9.setCell ⟨w.heap.size+1+1,0,none⟩ (.int .i64 0) =w10 at N10 E10 D10 Df10 G10 B10⊢;refine nD (by kernel_rfl) ?_ _;refine NoPanic.normal ?_;have D11:w10.heap[w.heap.size]? =some (.cells #[.pointer (some ⟨g7,0,none⟩)] 27 (0,0)):=D10.out;have cd:w10.cell? ⟨w.heap.size,0,none⟩ =some (.pointer (some ⟨g7,0,none⟩)):=bC D11 0;have fd:=bF D11;have zd:=lB D11;have E11:w10.heap[w.heap.size+1+1]? =some (.cells #[.int .i64 0] 41 (0,0)):=E10.out;have ce:w10.cell? ⟨w.heap.size+1+1,0,none⟩ =some (.int .i64 0):=bC E11 0;have fe:=bF E11;have ze:=lB E11;have cn:w10.cell? ⟨w.heap.size+1,0,none⟩ =some (.int .i64 0):=bC N10.out 0;have fn:=bF N10.out;have zn:=lB N10.out;clear D11 E11;go_wp2_with fail;refine wpIn_wide.2 ?_;go_wp2_with fail
  go_region
  all_goals (
   go_wp2_with fail;have D12: ((((w10.setCell ⟨w.heap.size,0,none⟩ (.pointer (some ⟨g7,0,none⟩))).setCell ⟨w.heap.size+1,0,none⟩ (.int .i64 0)).setCell ⟨w.heap.size+1+1,0,none⟩ (.int .i64 0)).drew).heap[w.heap.size]? =some (.cells #[.pointer (some ⟨g7,0,none⟩)] 27 (0,0)):=(Below.heap_setCell _ _ _ _ (show w.heap.size≠w.heap.size+1+1 by omega)).trans ((Below.heap_setCell _ _ _ _ (show w.heap.size≠w.heap.size+1 by omega)).trans (zH (i:=0) D10.out _));have N12: ((((w10.setCell ⟨w.heap.size,0,none⟩ (.pointer (some ⟨g7,0,none⟩))).setCell ⟨w.heap.size+1,0,none⟩ (.int .i64 0)).setCell ⟨w.heap.size+1+1,0,none⟩ (.int .i64 0)).drew).heap[w.heap.size+1]? =some (.cells #[.int .i64 0] 3 (0,0)):=(Below.heap_setCell _ _ _ _ (show w.heap.size+1≠w.heap.size+1+1 by omega)).trans (zH (i:=0) ((Below.heap_setCell _ _ _ _ (show w.heap.size+1≠w.heap.size by omega)).trans N10.out) _);have E12: ((((w10.setCell ⟨w.heap.size,0,none⟩ (.pointer (some ⟨g7,0,none⟩))).setCell ⟨w.heap.size+1,0,none⟩ (.int .i64 0)).setCell ⟨w.heap.size+1+1,0,none⟩ (.int .i64 0)).drew).heap[w.heap.size+1+1]? =some (.cells #[.int .i64 0] 41 (0,0)):=zH (i:=0) ((Below.heap_setCell _ _ _ _ (show w.heap.size+1+1≠w.heap.size+1 by omega)).trans ((Below.heap_setCell _ _ _ _ (show w.heap.size+1+1≠w.heap.size by omega)).trans E10.out)) _;have F12: ((((w10.setCell ⟨w.heap.size,0,none⟩ (.pointer (some ⟨g7,0,none⟩))).setCell ⟨w.heap.size+1,0,none⟩ (.int .i64 0)).setCell ⟨w.heap.size+1+1,0,none⟩ (.int .i64 0)).drew).heap[D]? =some (.deferred (some [])):=(Below.heap_setCell _ _ _ _ hDe).trans ((Below.heap_setCell _ _ _ _ hDn).trans ((Below.heap_setCell _ _ _ _ hDd).trans Df10.out));have G12:DigAt ((((w10.setCell ⟨w.heap.size,0,none⟩ (.pointer (some ⟨g7,0,none⟩))).setCell ⟨w.heap.size+1,0,none⟩ (.int .i64 0)).setCell ⟨w.heap.size+1+1,0,none⟩ (.int .i64 0)).drew) g7 Kd l kn r F7:=(((G10.out.set (fun b hb=>by have:=F8.out b hb;omega)).set (fun b hb=>by have:=F8.out b hb;omega)).set (fun b hb=>by have:=F8.out b hb;omega)).drew;have B12:Below w.heap.size w ((((w10.setCell ⟨w.heap.size,0,none⟩ (.pointer (some ⟨g7,0,none⟩))).setCell ⟨w.heap.size+1,0,none⟩ (.int .i64 0)).setCell ⟨w.heap.size+1+1,0,none⟩ (.int .i64 0)).drew):=(((B10.out.setCell (p:=⟨w.heap.size,0,none⟩) (Nat.le_refl _) _).setCell (p:=⟨w.heap.size+1,0,none⟩) (show w.heap.size≤w.heap.size+1 by omega) _).setCell (p:=⟨w.heap.size+1+1,0,none⟩) (show w.heap.size≤w.heap.size+1+1 by omega) _).drew;generalize (((w10.setCell ⟨w.heap.size,0,none⟩ (.pointer (some ⟨g7,0,none⟩))).setCell ⟨w.heap.size+1,0,none⟩ (.int .i64 0)).setCell ⟨w.heap.size+1+1,0,none⟩ (.int .i64 0)).drew=W12 at D12 N12 E12 F12 G12 B12⊢;refine⟨by simp,.inl ⟨_,_,rfl,run_takeDeferred F12,?_⟩⟩;have hg:=grownBy_putObj' W12 D (.deferred none);have hr: ∀r,some D=some r→∃o:Obj,W12.heap[r]? =some o∧o.isCells=false:=fun r e=>by cases e;exact⟨_,F12,rfl⟩
   have d1: (W12.putObj D (.deferred none)).cell? ⟨w.heap.size,0,none⟩ =some (.pointer (some ⟨g7,0,none⟩)):=bC (row_grown D12 hg hr) 0;have d2: (W12.putObj D (.deferred none)).cell? ⟨w.heap.size+1,0,none⟩ =some (.int .i64 0):=bC (row_grown N12 hg hr) 0;have d3: (W12.putObj D (.deferred none)).cell? ⟨w.heap.size+1+1,0,none⟩ =some (.int .i64 0):=bC (row_grown E12 hg hr) 0;exact⟨.tuple #[.pointer (some ⟨g7,0,none⟩),.int .i64 0,.int .i64 0],by simp [results,Tryz.f39,go_sem,d1,d2,d3],g7,F7,rfl,G12.keep (fun b hb=>World.putObj_heap_other (by have:=FD8.out b hb;omega)),fun b hb=>by have:=F8.out b hb;omega,B12.trans (belowK_b (w:=w) (Nat.le_refl _) W12 D _ _ (by omega) F12 rfl rfl)⟩)
end
def leA (a b:Int) :Prop:=aheadI b a=false
theorem ahead_iff (a b:Int) :aheadI a b=true↔b.toNat.log2<a.toNat.log2∨(a.toNat.log2=b.toNat.log2∧a<b):=by
 unfold aheadI
 split
 ·rename_i h;simp only [decide_eq_true_eq];omega
 ·rename_i h;simp only [decide_eq_true_eq];omega
theorem leA_iff (a b:Int) :leA a b↔b.toNat.log2<a.toNat.log2∨(a.toNat.log2=b.toNat.log2∧a≤b):=by
 unfold leA;rw [←Bool.not_eq_true,ahead_iff];omega
theorem leA_refl (a:Int) :leA a a:=(leA_iff a a).2 (by omega)
theorem leA_trans {a b c:Int} (h:leA a b) (k:leA b c) :leA a c:=by
 rw [leA_iff] at*;omega
theorem leA_of {a b:Int} (h:aheadI a b=true) :leA a b:=by
 rw [ahead_iff] at h;rw [leA_iff];omega
def HeapO (L:List Int) :Prop:=∀j:Nat,0<j→j<L.length→leA (L.getD ((j - 1) / 2) 0) (L.getD j 0)
theorem swapL_get {L:List Int} {i j:Nat} (hi:i<L.length) (hj:j<L.length) (k:Nat) : (swapL L i j).getD k 0=if k=j then L.getD i 0 else if k=i then L.getD j 0 else L.getD k 0:=by
 unfold swapL;simp only [List.getD_eq_getElem?_getD,List.getElem?_set,List.length_set];by_cases h1:k=j
 ·subst h1;simp [hj]
 ·rw [if_neg h1,if_neg (fun e=>h1 e.symm)]
  by_cases h2:k=i
  ·subst h2;simp [hi]
  ·rw [if_neg h2,if_neg (fun e=>h2 e.symm)]
structure UpO (L:List Int) (i:Nat) :Prop where
 ok: ∀j:Nat,0<j→j<L.length→j≠i→leA (L.getD ((j - 1) / 2) 0) (L.getD j 0)
 kid:0<i→∀j:Nat,0<j→j<L.length→(j - 1) / 2=i→leA (L.getD ((i - 1) / 2) 0) (L.getD j 0)
theorem upH_heap: ∀(n:Nat) (L:List Int) (i:Nat),i<L.length→i≤n→UpO L i→HeapO (upH n L i):=by
 intro n
 induction n with
 |zero=>
  intro L i hi hn h j h0 hj;simp only [upH] at hj⊢;exact h.ok j h0 hj (by omega)
 |succ n ih=>
  intro L i hi hn h;simp only [upH]
  split
  ·rename_i hs
   obtain⟨hi0,ha⟩:=hs;obtain⟨p,hp⟩ : ∃p,p= (i - 1) / 2:=⟨_,rfl⟩;rw [←hp] at ha⊢;have hpi:p<i:=by omega
   have hpl:p<L.length:=by omega
   have hle:=leA_of ha;refine ih _ _ (by rw [swapL_len];exact hpl) (by omega) ⟨?_,?_⟩
   ·intro j h0 hj hne
    rw [swapL_len] at hj;rw [swapL_get hi hpl,swapL_get hi hpl];by_cases hji:j=i
    ·subst hji
     rw [←hp,if_pos rfl,if_neg (by omega),if_pos rfl];exact hle
    ·rw [if_neg hne,if_neg hji]
     by_cases hqp: (j - 1) / 2=p
     ·rw [if_pos hqp]
      have:=h.ok j h0 hj hji;rw [hqp] at this;exact leA_trans hle this
     ·rw [if_neg hqp]
      by_cases hqi: (j - 1) / 2=i
      ·rw [if_pos hqi]
       have:=h.kid hi0 j h0 hj hqi;rw [←hp] at this;exact this
      ·rw [if_neg hqi]
       exact h.ok j h0 hj hji
   ·intro hp0 j h0 hj hjp
    rw [swapL_len] at hj;rw [swapL_get hi hpl,swapL_get hi hpl];rw [if_neg (by omega: ¬(p - 1) / 2=p),if_neg (by omega: ¬(p - 1) / 2=i),if_neg (by omega: ¬j=p)];have k1:=h.ok p hp0 hpl (by omega);by_cases hji:j=i
    ·rw [if_pos hji]
     exact k1
    ·rw [if_neg hji]
     have k2:=h.ok j h0 hj hji;rw [hjp] at k2;exact leA_trans k1 k2
  ·rename_i hs
   intro j h0 hj;by_cases hji:j=i
   ·subst hji
    have:aheadI (L.getD j 0) (L.getD ((j - 1) / 2) 0) =false:=by
     rw [←Bool.not_eq_true];exact fun ha=>hs ⟨h0,ha⟩
    exact this
   ·exact h.ok j h0 hj hji
theorem getD_append {L:List Int} {x:Int} {j:Nat} (h:j<L.length) : (L ++ [x]).getD j 0=L.getD j 0:=by
 simp only [List.getD_eq_getElem?_getD];rw [List.getElem?_append_left h]
theorem putH_heap {L:List Int} (h:HeapO L) (id:Int) :HeapO (putH L id):=by
 refine upH_heap _ _ _ (by simp) (Nat.le_refl _) ⟨?_,?_⟩
 ·intro j h0 hj hne
  simp only [List.length_append,List.length_cons,List.length_nil] at hj;rw [getD_append (by omega),getD_append (by omega)];exact h j h0 (by omega)
 ·intro _ j h0 hj hjp
  simp only [List.length_append,List.length_cons,List.length_nil] at hj;omega
structure DownO (L:List Int) (i:Nat) :Prop where
 ok: ∀j:Nat,0<j→j<L.length→(j - 1) / 2≠i→leA (L.getD ((j - 1) / 2) 0) (L.getD j 0)
 kid:0<i→∀j:Nat,0<j→j<L.length→(j - 1) / 2=i→leA (L.getD ((i - 1) / 2) 0) (L.getD j 0)
theorem stepH_le (L:List Int) (a k:Nat) :leA (L.getD (stepH L a k) 0) (L.getD a 0)∧(k<L.length→leA (L.getD (stepH L a k) 0) (L.getD k 0)):=by
 unfold stepH
 split
 ·rename_i h
  exact⟨leA_of h.2,fun _=>leA_refl _⟩
 ·rename_i h
  refine⟨leA_refl _,fun hk=> ?_⟩
  have:aheadI (L.getD k 0) (L.getD a 0) =false:=by
   rw [←Bool.not_eq_true];exact fun ha=>h ⟨hk,ha⟩
  exact this
theorem firstH_min (L:List Int) (i:Nat) :leA (L.getD (firstH L i) 0) (L.getD i 0)∧∀j:Nat,0<j→j<L.length→(j - 1) / 2=i→leA (L.getD (firstH L i) 0) (L.getD j 0):=by
 unfold firstH;obtain⟨a1,a2⟩:=stepH_le L i (2*i+1);obtain⟨b1,b2⟩:=stepH_le L (stepH L i (2*i+1)) (2*i+2);refine⟨leA_trans b1 a1,fun j h0 hj hp=> ?_⟩;rcases (by omega:j=2*i+1∨j=2*i+2) with e|e
 ·rw [e] at hj⊢
  exact leA_trans b1 (a2 hj)
 ·rw [e] at hj⊢
  exact b2 hj
theorem firstH_or (L:List Int) (i:Nat) :firstH L i=i∨firstH L i=2*i+1∨firstH L i=2*i+2:=by
 unfold firstH;rcases stepH_or L i (2*i+1) with h|h <;> rcases stepH_or L (stepH L i (2*i+1)) (2*i+2) with g|g <;> omega
theorem downH_heap: ∀(n:Nat) (L:List Int) (i:Nat),i<L.length→L.length≤n+i→DownO L i→HeapO (downH n L i):=by
 intro n
 induction n with
 |zero=>intro L i hi hn h;omega
 |succ n ih=>
  intro L i hi hn h;simp only [downH];obtain⟨m1,m2⟩:=firstH_min L i;have hf:=firstH_lt hi
  split
  ·rename_i he
   intro j h0 hj;by_cases hp: (j - 1) / 2=i
   ·rw [he] at m2
    rw [hp];exact m2 j h0 hj hp
   ·exact h.ok j h0 hj hp
  ·rename_i hne
   have hor:=firstH_or L i;generalize firstH L i=f at*;have hfi: (f - 1) / 2=i:=by omega
   refine ih _ _ (by rw [swapL_len];exact hf) (by rw [swapL_len];omega) ⟨?_,?_⟩
   ·intro j h0 hj hp
    rw [swapL_len] at hj;rw [swapL_get hi hf,swapL_get hi hf];rw [if_neg hp];by_cases hjf:j=f
    ·rw [if_pos hjf,hjf,hfi,if_pos rfl]
     exact m1
    ·rw [if_neg hjf]
     by_cases hqi: (j - 1) / 2=i
     ·rw [if_pos hqi,if_neg (by omega)]
      exact m2 j h0 hj hqi
     ·rw [if_neg hqi]
      by_cases hji:j=i
      ·rw [if_pos hji,hji]
       exact h.kid (by omega) f (by omega) hf hfi
      ·rw [if_neg hji]
       exact h.ok j h0 hj hqi
   ·intro _ j h0 hj hjp
    rw [swapL_len] at hj;rw [swapL_get hi hf,swapL_get hi hf,hfi];rw [if_neg (by omega: ¬i=f),if_pos rfl,if_neg (by omega: ¬j=f),if_neg (by omega: ¬j=i)];have:=h.ok j h0 hj (by omega);rw [hjp] at this;exact this
theorem popH_heap {x:Int} {L:List Int} (h:HeapO (x :: L)) :HeapO (popH (x :: L)):=by
 unfold popH;by_cases h0:L.length=0
 ·have:L= []:=List.length_eq_zero_iff.1 h0
  subst this;intro j h1 h2;simp [downH] at h2
 ·have e: ∀j:Nat,0<j→j<L.length→(((x :: L).set 0 ((x :: L).getD L.length 0)).take L.length).getD j 0= (x :: L).getD j 0:=by
   intro j h1 h2;simp only [List.getD_eq_getElem?_getD,List.getElem?_take,List.getElem?_set];rw [if_pos h2,if_neg (by omega)]
  have hl: (((x :: L).set 0 ((x :: L).getD L.length 0)).take L.length).length=L.length:=by
   rw [List.length_take,List.length_set,List.length_cons];omega
  refine downH_heap _ _ _ (by rw [hl];omega) (by rw [hl];omega) ⟨?_,fun h=>by omega⟩;intro j h1 h2 h3;rw [hl] at h2;rw [e j h1 h2,e _ (by omega) (by omega)];exact h j h1 (by rw [List.length_cons];omega)
theorem heap_first {L:List Int} (h:HeapO L) : ∀j:Nat,j<L.length→leA (L.getD 0 0) (L.getD j 0):=by
 intro j
 induction j using Nat.strongRecOn with
 |ind j ih=>
  intro hj;by_cases h0:j=0
  ·subst h0;exact leA_refl _
  ·exact leA_trans (ih ((j - 1) / 2) (by omega) (by omega)) (h j (by omega) hj)
theorem heap_head {x:Int} {L:List Int} (h:HeapO (x :: L)) : ∀y∈x :: L,leA x y:=by
 intro y hy;obtain⟨j,hj,rfl⟩:=List.mem_iff_getElem.1 hy;have:=heap_first h j hj;simp only [List.getD_eq_getElem?_getD] at this;rw [List.getElem?_eq_getElem hj] at this
 simpa using this
theorem heap_nil:HeapO []:=fun j _ hj=>by simp at hj
def FirstIs (l:Nat) (most:Int) (r:List Nd) (p:Int) :Prop:=readyR l r p most=true∧∀q,readyR l r q most=true→leA p q
inductive RunTo (l:Nat) (most:Int) :List Nd→List Int→List Nd→Prop
 |done {r:List Nd} (h: ∀p,readyR l r p most=false) :RunTo l most r [] r
 |step {r s:List Nd} {p:Int} {ps:List Int} (h:FirstIs l most r p) (k:RunTo l most (foldR r p) ps s) :RunTo l most r (p :: ps) s
theorem RunTo.folded {l:Nat} {most:Int} {r s:List Nd} {ps:List Int} (h:RunTo l most r ps s) :Folded l most r s:=by
 induction h with
 |done _=>exact Folded.refl _
 |step h _ ih=>exact(Folded.step _ (Folded.refl _) h.1).trans ih
def putW (L:List Int) (id:Int) :List Int:=if id<1∨id∈L then L else putH L id
theorem putW_mem (L:List Int) (id:Int) (y:Int) :y∈putW L id↔y∈L∨(1≤id∧y=id):=by
 unfold putW
 split
 ·rename_i h
  rcases h with h|h
  ·constructor
   ·exact .inl
   ·rintro(h2| ⟨h2,_⟩)
    ·exact h2
    ·omega
  ·constructor
   ·exact .inl
   ·rintro(h2| ⟨_,rfl⟩)
    ·exact h2
    ·exact h
 ·rename_i h
  rw [(putH_perm L id).mem_iff,List.mem_cons]
  constructor
  ·rintro(rfl|h2)
   ·exact .inr ⟨by omega,rfl⟩
   ·exact .inl h2
  ·rintro(h2| ⟨_,rfl⟩)
   ·exact .inr h2
   ·exact .inl rfl
theorem putW_len (L:List Int) (id:Int) : (putW L id).length≤L.length+1:=by
 unfold putW
 split
 ·omega
 ·rw [(putH_perm L id).length_eq];simp
structure WaitL (L:List Int) :Prop where
 heap:HeapO L
 once:L.Nodup
 pos: ∀x∈L,1≤x
theorem WaitL.nil:WaitL []:=⟨heap_nil,List.nodup_nil,by simp⟩
theorem WaitL.put {L:List Int} (h:WaitL L) (id:Int) :WaitL (putW L id):=by
 unfold putW
 split
 ·exact h
 ·rename_i hn
  refine⟨putH_heap h.heap id,?_,?_⟩
  ·rw [(putH_perm L id).nodup_iff,List.nodup_cons]
   exact⟨fun hm=>hn (.inr hm),h.once⟩
  ·intro x hx
   rcases List.mem_cons.1 ((putH_perm L id).mem_iff.1 hx) with rfl|hx
   ·omega
   ·exact h.pos x hx
theorem WaitL.pop {x:Int} {L:List Int} (h:WaitL (x :: L)) :WaitL (popH (x :: L)):=
 ⟨popH_heap h.heap,(popH_perm x L).nodup_iff.2 (List.nodup_cons.1 h.once).2,fun y hy=>h.pos y (List.mem_cons_of_mem _ ((popH_perm x L).mem_iff.1 hy))⟩
def Waits (l:Nat) (most:Int) (r:List Nd) (L:List Int) :Prop:=∀p,readyR l r p most=true→p∈L
theorem Waits.skip {l:Nat} {most:Int} {r:List Nd} {x:Int} {L:List Int} (h:Waits l most r (x :: L)) (hx:readyR l r x most=false) :Waits l most r (popH (x :: L)):=by
 intro p hp;rw [(popH_perm x L).mem_iff];rcases List.mem_cons.1 (h p hp) with rfl|h2
 ·rw [hx] at hp;cases hp
 ·exact h2
theorem Waits.first {l:Nat} {most:Int} {r:List Nd} {x:Int} {L:List Int} (h:Waits l most r (x :: L)) (hw:WaitL (x :: L)) (hx:readyR l r x most=true) :FirstIs l most r x:=
 ⟨hx,fun q hq=>heap_head hw.heap q (h q hq)⟩
theorem Waits.fold {l:Nat} {most:Int} {r:List Nd} {x:Int} {L:List Int} (hr:Roll r) (h:Waits l most r (x :: L)) (hx:readyR l r x most=true) :
 Waits l most (foldR r x) (putW (putW (putW (popH (x :: L)) (2*x)) (2*x+1)) (x / 2)):=by
 have hk:=(ready_iff.1 hx).1;have hx1:1≤x:=(isNode_lt (kids_iff.1 hk).1).1;intro p hp;rw [putW_mem,putW_mem,putW_mem,(popH_perm x L).mem_iff];obtain⟨h1,h2,h3⟩:=ready_iff.1 hp;have hp1:1≤p:=(isNode_lt (kids_iff.1 h1).1).1;by_cases e1:p=2*x
 ·exact .inl (.inl (.inr ⟨by omega,e1⟩))
 by_cases e2:p=2*x+1
 ·exact .inl (.inr ⟨by omega,e2⟩)
 by_cases e3:p=x / 2
 ·exact .inr ⟨by omega,e3⟩
 by_cases e4:p=x
 ·subst e4
  simp only [pairR,getR_fold hr hx1] at h2;rw [if_neg (by omega),if_pos (.inl trivial),if_neg (by omega),if_pos (.inr trivial)] at h2;omega
 refine .inl (.inl (.inl ?_))
 have g: ∀id,id≠x→id≠2*x→id≠2*x+1→getR (foldR r x) id=getR r id:=fun id a b c=>by
  rw [getR_fold hr hx1,if_neg a,if_neg (by omega)]
 have q1:=g (2*p) (by omega) (by omega) (by omega);have q2:=g (2*p+1) (by omega) (by omega) (by omega);have q3:=g p e4 e1 e2
 have:readyR l r p most=true:=by
  rw [ready_iff];refine⟨h1,?_,?_⟩
  ·simp only [pairR,q1,q2] at h2⊢
   exact h2
  ·simp only [pairR,q1,q2,q3] at h3⊢
   exact h3
 rcases List.mem_cons.1 (h p this) with h|h
 ·exact absurd h e4
 ·exact h
theorem Waits.done {l:Nat} {most:Int} {r:List Nd} (h:Waits l most r []) :RunTo l most r [] r:=.done fun p=>by
 rw [←Bool.not_eq_true];exact fun hp=>by simpa using h p hp
theorem Waits.start {l:Nat} {most:Int} {r:List Nd} {L:List Int} (hL: ∀x∈r,1≤x.1 / 2→x.1 / 2∈L) (hr:Roll r) :Waits l most r L:=by
 intro p hp;obtain⟨h1,h2,_⟩:=ready_iff.1 hp;have hp1:1≤p:=(isNode_lt (kids_iff.1 h1).1).1
 have:getR r (2*p)≠0∨getR r (2*p+1)≠0:=by
  unfold pairR at h2;omega
 rcases this with h|h
 ·have:=hL _ (getR_pos hr h) (by simp only;omega)
  simp only at this
  rwa [show 2*p / 2=p by omega] at this
 ·have:=hL _ (getR_pos hr h) (by simp only;omega)
  simp only at this
  rwa [show (2*p+1) / 2=p by omega] at this
def wayOf (n a b:Nat) :Nat:=(b+n - a) % n
theorem way_step {n a b:Nat} (ha:a<n) (hb:b<n) :b=step n a (wayOf n a b)∧wayOf n a b<n:=by
 refine⟨?_,Nat.mod_lt _ (by omega)⟩;unfold step wayOf;rw [Nat.add_mod_mod];have:a+ (b+n - a) =b+n:=by omega
 rw [this,Nat.add_mod_right,Nat.mod_eq_of_lt hb]
theorem way_of {n a d:Nat} (ha:a<n) (hd:d<n) :wayOf n a (step n a d) =d:=by
 have h:=way_step (b:=step n a d) ha (step_lt (by omega));exact(step_inj hd h.2 h.1).symm
theorem step_step {n h c s:Nat} :step n (step n h c) s=step n h (c+s):=by
 unfold step;rw [Nat.mod_add_mod,Nat.add_assoc]
structure Del (b:Nat) (S0:List Nd) (h0 E:Nat) (S m:List Nd) (c t:Nat) :Prop where
 len:S.length=2^b
 perm: (S.filter full).Perm m
 hole: ∀y,S[step (2^b) h0 c]? =some y→y.2=0
 ct:c<t
 tE:t≤E
 En:E<2^b
 h0n:h0<2^b
 same: ∀t',t≤t'→t'<2^b→S[step (2^b) h0 t']? =S0[step (2^b) h0 t']?
 free: ∀y,S0[step (2^b) h0 E]? =some y→y.2=0
 mid: ∀t',c<t'→t'<t→∀y,S[step (2^b) h0 t']? =some y→y.2≠0→∃d,d<2^b∧step (2^b) h0 t'=step (2^b) (homeOf b y.1) d∧∀d'<d,∀z,S[step (2^b) (homeOf b y.1) d']? =some z→z.2≠0
 reach: ∀i x,S[i]? =some x→x.2≠0→∃d,d<2^b∧i=step (2^b) (homeOf b x.1) d∧∀d'<d,step (2^b) (homeOf b x.1) d'=step (2^b) h0 c∨∀y,S[step (2^b) (homeOf b x.1) d']? =some y→y.2≠0
theorem get_set' {S:List Nd} {i j:Nat} {x:Nd} (h:j≠i) : (S.set i x)[j]? =S[j]? :=by
 rw [List.getElem?_set,if_neg (fun e=>h e.symm)]
theorem get_set_at {S:List Nd} {i:Nat} {x:Nd} (h:i<S.length) : (S.set i x)[i]? =some x:=by
 rw [List.getElem?_set,if_pos rfl,if_pos h]
theorem filter_set_free {S:List Nd} {i:Nat} {y x:Nd} (hi:S[i]? =some y) (hy:y.2≠0) (hx:x.2=0) : (S.filter full).Perm (y :: (S.set i x).filter full):=by
 have h1:=set_split hi;have hlt:=(List.getElem?_eq_some_iff.1 hi).1;have h2:S.set i x=S.take i ++ x :: S.drop (i+1):=by rw [List.set_eq_take_append_cons_drop,if_pos hlt]
 rw [h2,List.filter_append,List.filter_cons,if_neg (by simp [full,hx])]
 conv=>lhs;rw [h1]
 rw [List.filter_append,List.filter_cons,if_pos (by simp [full,hy])];exact List.perm_middle
section
variable {b:Nat} {S0 S m:List Nd} {h0 E c t:Nat}
theorem Del.start (h:PInv b S m) {x:Nd} (hx:S[h0]? =some x) (hx0:x.2≠0) (hm:m.length<2^b) {m':List Nd} (hm':m.Perm (x :: m')) :
 ∃E,Del b (S.set h0 (0,0)) h0 E (S.set h0 (0,0)) m' 0 1:=by
 have hlt:=(List.getElem?_eq_some_iff.1 hx).1;have hn:h0<2^b:=by rw [←h.len];exact hlt
 obtain⟨j,y,hj,hy⟩:=h.free hm;have hjn:j<2^b:=by rw [←h.len];exact(List.getElem?_eq_some_iff.1 hj).1
 have hne:j≠h0:=by rintro rfl;rw [hx] at hj;cases hj;exact hx0 hy
 obtain⟨e,he,hje⟩:=step_onto hjn hn;have hs0:step (2^b) h0 0=h0:=by unfold step;rw [Nat.add_zero,Nat.mod_eq_of_lt hn]
 have he0:e≠0:=by rintro rfl;exact hne (hje.trans hs0)
 refine⟨e,by rw [List.length_set];exact h.len,?_,?_,by omega,by omega,he,hn,fun _ _ _=>rfl,?_,fun t' h1 h2=>by omega,?_⟩
 ·exact((filter_set_free hx hx0 (x:=(0,0)) rfl).symm.trans (h.perm.trans hm')).cons_inv
 ·intro y hy
  rw [hs0,get_set_at hlt] at hy
  cases hy;rfl
 ·intro z hz
  rw [←hje,get_set' hne,hj] at hz
  cases hz;exact hy
 ·intro i z hi hz
  rcases get_set hi with ⟨rfl,rfl⟩ | ⟨hi0,hi⟩
  ·exact absurd rfl hz
  ·obtain⟨d,hd,e1,hw⟩:=h.reach i z hi hz
   refine⟨d,hd,e1,fun d' hd'=> ?_⟩;by_cases hp:step (2^b) (homeOf b z.1) d'=h0
   ·left;rw [hp,hs0]
   ·right
    intro y hy;rw [get_set' hp] at hy;exact hw d' hd' y hy
theorem Del.ne (h:Del b S0 h0 E S m c t) {x:Nd} (hx:S[step (2^b) h0 t]? =some x) (hx0:x.2≠0) :t<E:=by
 refine Nat.lt_of_le_of_ne h.tE ?_;rintro rfl;rw [h.same t (Nat.le_refl _) h.En] at hx;exact hx0 (h.free x hx)
theorem Del.stay (h:Del b S0 h0 E S m c t) (hb:b≤64) {x:Nd} (hx:S[step (2^b) h0 t]? =some x) (hx0:x.2≠0) (hw:wayOf (2^b) (homeOf b x.1) (step (2^b) h0 t) <wayOf (2^b) (homeOf b x.1) (step (2^b) h0 c)) :
 Del b S0 h0 E S m c (t+1):=by
 have hE:=h.ne hx hx0;have hct:=h.ct;refine⟨h.len,h.perm,h.hole,by omega,hE,h.En,h.h0n,fun t' h1 h2=>h.same t' (by omega) h2,h.free,?_,h.reach⟩;intro t' h1 h2 y hy hy0;rcases Nat.lt_or_eq_of_le (Nat.le_of_lt_succ h2) with hlt|rfl
 ·exact h.mid t' h1 hlt y hy hy0
 ·rw [hx] at hy;cases hy
  obtain⟨d,hd,e1,hr⟩:=h.reach _ x hx hx0;refine⟨d,hd,e1,fun d' hd' z hz=> ?_⟩;rcases hr d' hd' with hp|hp
  ·have hh:=homeOf_lt hb x.1
   rw [e1,way_of hh hd,←hp,way_of hh (by omega)] at hw;omega
  ·exact hp z hz
theorem Del.move (h:Del b S0 h0 E S m c t) (hb:b≤64) {x:Nd} (hx:S[step (2^b) h0 t]? =some x) (hx0:x.2≠0) (hw:wayOf (2^b) (homeOf b x.1) (step (2^b) h0 c)≤wayOf (2^b) (homeOf b x.1) (step (2^b) h0 t)) :
 Del b S0 h0 E ((S.set (step (2^b) h0 c) x).set (step (2^b) h0 t) (0,0)) m t (t+1):=by
 have hE:=h.ne hx hx0;have hct:=h.ct;have hn:=h.En;have hp:=Nat.two_pow_pos b;have hh:=homeOf_lt hb x.1;have hL:=h.len;have hci:step (2^b) h0 c<S.length:=by rw [hL];exact step_lt hp
 have hti:step (2^b) h0 t<S.length:=by rw [hL];exact step_lt hp
 have hne:step (2^b) h0 c≠step (2^b) h0 t:=fun e=>by have:=step_inj (by omega) (by omega) e;omega
 obtain⟨y,hy⟩ : ∃y,S[step (2^b) h0 c]? =some y:=⟨_,List.getElem?_eq_getElem hci⟩;have hy0:=h.hole y hy;have g1: ∀j,j≠step (2^b) h0 c→j≠step (2^b) h0 t→((S.set (step (2^b) h0 c) x).set (step (2^b) h0 t) (0,0))[j]? =S[j]? :=fun j h1 h2=>by rw [get_set' h2,get_set' h1]
 have g2: ((S.set (step (2^b) h0 c) x).set (step (2^b) h0 t) (0,0))[step (2^b) h0 c]? =some x:=by rw [get_set' hne,get_set_at hci]
 have g3: ((S.set (step (2^b) h0 c) x).set (step (2^b) h0 t) (0,0))[step (2^b) h0 t]? =some (0,0):=get_set_at (by rw [List.length_set];exact hti);obtain⟨d,hd,e1,hr⟩:=h.reach _ x hx hx0;obtain⟨dh,edh,hdh⟩ : ∃dh,step (2^b) h0 c=step (2^b) (homeOf b x.1) dh∧dh<2^b:=⟨_,way_step hh (step_lt hp)⟩;rw [e1,way_of hh hd,edh,way_of hh hdh] at hw
 have hlt:dh<d:=by
  refine Nat.lt_of_le_of_ne hw ?_;rintro rfl;exact hne (edh.trans e1.symm)
 refine⟨by rw [List.length_set,List.length_set];exact hL,?_,?_,by omega,hE,hn,h.h0n,?_,h.free,fun t' h1 h2=>by omega,?_⟩
 ·have p1:=filter_set_new hy hy0 hx0
  have q: (S.set (step (2^b) h0 c) x)[step (2^b) h0 t]? =some x:=by rw [get_set' (fun e=>hne e.symm)];exact hx
  have p2:=filter_set_free q hx0 (x:=(0,0)) rfl;exact((p2.symm.trans p1).cons_inv).trans h.perm
 ·intro z hz
  rw [g3] at hz
  cases hz;rfl
 ·intro t' h1 h2
  rw [g1 _ (fun e=>by have:=step_inj (by omega) (by omega) e;omega) (fun e=>by have:=step_inj (by omega) (by omega) e;omega)];exact h.same t' (by omega) h2
 ·intro i z hi hz
  by_cases hit:i=step (2^b) h0 t
  ·subst hit;rw [g3] at hi;cases hi;exact absurd rfl hz
  ·by_cases hic:i=step (2^b) h0 c
   ·subst hic
    rw [g2] at hi;cases hi;refine⟨dh,hdh,edh,fun d' hd'=>.inr fun y hy=> ?_⟩;have n1:step (2^b) (homeOf b x.1) d'≠step (2^b) h0 c:=fun e=>by rw [edh] at e;have:=step_inj (by omega) hdh e;omega
    have n2:step (2^b) (homeOf b x.1) d'≠step (2^b) h0 t:=fun e=>by rw [e1] at e;have:=step_inj (by omega) hd e;omega
    rw [g1 _ n1 n2] at hy;rcases hr d' (by omega) with hq|hq
    ·exact absurd hq n1
    ·exact hq y hy
   ·rw [g1 i hic hit] at hi
    obtain⟨d2,hd2,e2,hr2⟩:=h.reach i z hi hz;refine⟨d2,hd2,e2,fun d' hd'=> ?_⟩;by_cases n2:step (2^b) (homeOf b z.1) d'=step (2^b) h0 t
    ·exact .inl n2
    ·right
     intro y hy;by_cases n1:step (2^b) (homeOf b z.1) d'=step (2^b) h0 c
     ·rw [n1,g2] at hy;cases hy;exact hx0
     ·rw [g1 _ n1 n2] at hy
      rcases hr2 d' hd' with hq|hq
      ·exact absurd hq n1
      ·exact hq y hy
theorem Del.done (h:Del b S0 h0 E S m c t) {x:Nd} (hx:S[step (2^b) h0 t]? =some x) (hx0:x.2=0) (hi: (m.map (·.1)).Nodup) (hpos: ∀x∈m,1≤x.2) :PInv b S m:=by
 have hct:=h.ct;have hn:=h.En;have htE:=h.tE;refine⟨h.len,h.perm,hi,hpos,fun i z hz hz0=> ?_⟩;obtain⟨d,hd,e1,hr⟩:=h.reach i z hz hz0;by_cases hh: ∃d',d'<d∧step (2^b) (homeOf b z.1) d'=step (2^b) h0 c
 ·obtain⟨d',hd',e2⟩:=hh
  have key: ∀s,step (2^b) (homeOf b z.1) (d'+s) =step (2^b) h0 (c+s):=fun s=>by rw [←step_step,e2,step_step]
  have ei:i=step (2^b) h0 (c+ (d - d')):=by rw [e1,←key];congr 1;omega
  rcases Nat.lt_trichotomy (c+ (d - d')) t with hlt|heq|hgt
  ·rw [ei] at hz
   obtain⟨d2,h1,h2,h3⟩:=h.mid _ (by omega) hlt z hz hz0;exact⟨d2,h1,ei.trans h2,h3⟩
  ·rw [ei,heq,hx] at hz
   cases hz
   exact absurd hx0 hz0
  ·have h3:=hr (d'+ (t - c)) (by omega)
   rw [key,show c+ (t - c) =t by omega] at h3;rcases h3 with h3|h3
   ·have:=step_inj (by omega) (by omega) h3;omega
   ·exact absurd hx0 (h3 x hx)
 ·refine⟨d,hd,e1,fun d' hd' y hy=> ?_⟩
  rcases hr d' hd' with hq|hq
  ·exact absurd ⟨d',hd',hq⟩ hh
  ·exact hq y hy
end
end Go.Proofs.YtapgmnnchbepiaaGreat
