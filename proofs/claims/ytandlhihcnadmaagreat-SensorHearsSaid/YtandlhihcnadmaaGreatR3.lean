/-
  Texts of this proof, one behind the other: Load16, RankPlain, TilesLaw, FitsP, Flow, TellsA, Digits, Times, Quot, DivLaw, Div64, Part, Reach, ReachLaw, FlowRank, GapLaw, AuditLaw, TilesMore, AgendaLaw, HeapLaw, FoldLaw, RunLaw, BagLaw, Leaf, AddB, HeldLaw.
-/
import Derived.Deep.CutBlock
import Derived.Deep.DeepCutAuto
import Derived.Laws.BitsLemmas
import Derived.Test.YtandlhihcnadmaaGreatR1
import Derived.Test.YtandlhihcnadmaaGreatR2
set_option linter.unusedVariables false
set_option linter.unusedSimpArgs false
set_option maxRecDepth 100000
set_option maxHeartbeats 16000000
namespace Go.Proofs.YtandlhihcnadmaaGreat
open Go.ChangeShapes Go.WideShapes Go.ChangeAt Go.RowKit
theorem DigAt.drew {w:World} {g K l:Nat} {k:Int} {r:List Nd} {F:Nat→Prop} (h:DigAt w g K l k r F) :DigAt w.drew g K l k r F:=h.keep fun b hb=>rfl
def goodL (l k K:Int) (r:List Nd) :Prop:=r.length≤150∧¬(K=1∧10<l)∧loadErr l k K r=0
def LPost (K l:Nat) (k:Int) (r:List Nd) (d:Value) (w:World) (e:Ending) (w':World) :Prop:=∃g F,e=.returned (.tuple #[.pointer (some ⟨g,0,none⟩),d])∧DigAt w' g K l k r F∧(∀b,F b→w.heap.size≤b)∧Below w.heap.size w w'
def nodes16:List Nd:= [(1,1),(4,2),(7,3)]
theorem ends_bounds {l:Nat} {id:Int} (h:isNode l id=true) :0≤(endsOf l id).1∧(endsOf l id).1≤(endsOf l id).2.1∧(endsOf l id).2.1≤2^l - 1:=by
 obtain⟨n,x,hn,rfl,hn1,hn2,hx1,hx2⟩:=isNode_nat h;obtain rfl:n=l:=by omega
 obtain⟨d,b,t,hd,hb,hdb,hxt,htd,hprod⟩:=node_facts hn2 hx1 hx2
 have e1:endsOf n x= ((t:Int) *2^b,(t:Int) *2^b+2^b - 1,true):=by
  simp only [endsOf,h,if_true,Int.toNat_natCast,hd,hb];have: (x:Int) - 2^d=t:=by rw [hxt];push_cast;omega
  rw [this]
 rw [e1];have q3:=pow_pos' b
 have q8: (t:Int) *2^b+2^b≤2^n:=by
  have h: (((t+1) *2^b:Nat) :Int)≤((2^n:Nat) :Int):=by exact_mod_cast hprod
  push_cast at h
  rw [Int.add_mul,Int.one_mul] at h;exact h
 have q9:0≤(t:Int) *2^b:=Int.mul_nonneg (by omega) (by omega);simp only;omega
def loN (l:Nat) (x:Int) :Int:=(endsOf l x).1
def hiN (l:Nat) (x:Int) :Int:=(endsOf l x).2.1
def abv (p q:Int) :Bool:=decide (1≤p∧1≤q∧p.toNat.log2≤q.toNat.log2∧q.toNat / 2^ (q.toNat.log2 - p.toNat.log2) =p.toNat)
theorem node_shape {l:Nat} {id:Int} (h:isNode l id=true) : ∃d b t:Nat,d+b=l∧id= ((2^d+t:Nat) :Int)∧t<2^d∧(2^d+t).log2=d∧loN l id= (t:Int) *2^b∧hiN l id= (t:Int) *2^b+2^b - 1:=by
 obtain⟨n,x,hn,rfl,hn1,hn2,hx1,hx2⟩:=isNode_nat h;obtain rfl:n=l:=by omega
 obtain⟨d,b,t,hd,hb,hdb,hxt,htd,hprod⟩:=node_facts hn2 hx1 hx2
 have e1:endsOf n x= ((t:Int) *2^b,(t:Int) *2^b+2^b - 1,true):=by
  simp only [endsOf,h,if_true,Int.toNat_natCast,hd,hb];have: (x:Int) - 2^d=t:=by rw [hxt];push_cast;omega
  rw [this]
 exact⟨d,b,t,hdb,by rw [hxt],htd,by rw [←hxt];exact hd,by unfold loN;rw [e1],by unfold hiN;rw [e1]⟩
theorem log2_shape {d t:Nat} (h:t<2^d) : (2^d+t).log2=d:=by
 rw [Nat.log2_eq_iff (by have:=Nat.two_pow_pos d;omega)];rw [Nat.pow_succ];omega
theorem node_of_shape {l d b t:Nat} (hl:1≤l∧l≤48) (hdb:d+b=l) (ht:t<2^d) :isNode l ((2^d+t:Nat) :Int) =true:=by
 have h1:=Nat.two_pow_pos d;have h2: (2:Nat) ^d≤2^l:=Nat.pow_le_pow_right (by decide) (by omega);have h3: ((2^l:Nat) :Int) =2^l:=by simp
 simp only [isNode,decide_eq_true_eq,Int.toNat_natCast];omega
section
variable {l:Nat} {p q:Int}
theorem lo_hi (hp:isNode l p=true) :loN l p≤hiN l p:=(ends_bounds hp).2.1
theorem isNode_l (hp:isNode l p=true) :1≤l∧l≤48:=by
 simp only [isNode,decide_eq_true_eq] at hp;omega
theorem node_kids (hp:isNode l p=true) (hb:p.toNat.log2<l) :isNode l (2*p) =true∧isNode l (2*p+1) =true∧loN l (2*p) =loN l p∧hiN l (2*p+1) =hiN l p∧loN l (2*p+1) =hiN l (2*p) +1∧(2*p).toNat.log2=p.toNat.log2+1∧(2*p+1).toNat.log2=p.toNat.log2+1:=by
 have hl:=isNode_l hp;obtain⟨d,b,t,h1,rfl,h2,h3,h4,h5⟩:=node_shape hp;rw [Int.toNat_natCast,h3] at hb;obtain⟨c,rfl⟩ : ∃c,b=c+1:=⟨b - 1,by omega⟩;have e1:2* ((2^d+t:Nat) :Int) = ((2^ (d+1) +2*t:Nat) :Int):=by rw [Nat.pow_succ];push_cast;omega
 have e2:2* ((2^d+t:Nat) :Int) +1= ((2^ (d+1) + (2*t+1) :Nat) :Int):=by rw [Nat.pow_succ];push_cast;omega
 have q1:2*t<2^ (d+1):=by rw [Nat.pow_succ];omega
 have q2:2*t+1<2^ (d+1):=by rw [Nat.pow_succ];omega
 have n1:=node_of_shape (b:=c) hl (by omega) q1;have n2:=node_of_shape (b:=c) hl (by omega) q2;rw [e2,e1];refine⟨n1,n2,?_⟩;obtain⟨d',b',t',g1,g2,g3,g4,g5,g6⟩:=node_shape n1;obtain⟨d'',b'',t'',f1,f2,f3,f4,f5,f6⟩:=node_shape n2;have i1:=log2_shape q1;have i2:=log2_shape q2;have g2':=Int.ofNat.inj g2;have f2':=Int.ofNat.inj f2;rw [←g2',i1] at g4;rw [←f2',i2] at f4;subst g4 f4;obtain rfl:b'=c:=by omega
 obtain rfl:b''=b':=by omega
 obtain rfl:t'=2*t:=by omega
 obtain rfl:t''=2*t+1:=by omega
 rw [g5,g6,f5,f6,h4,h5,Int.toNat_natCast,Int.toNat_natCast,Int.toNat_natCast,h3,i1,i2,Int.pow_succ]
 push_cast
 refine⟨?_,?_,?_,rfl,rfl⟩
 ·rw [Int.mul_comm 2 (t:Int),Int.mul_assoc,Int.mul_comm 2]
 ·rw [Int.add_mul,Int.mul_comm 2 (t:Int),Int.mul_assoc,Int.mul_comm 2];omega
 ·rw [Int.add_mul];omega
end
def held (l:Nat) (ids:List Int) (v:Int) :Prop:=∃t∈ids,loN l t≤v∧v≤hiN l t
def sibN (t:Int) :Int:=if t % 2=0 then t+1 else t - 1
def climb:List Int→Int→List Int×Int
 | [],x=>([],x)
 |t :: ts,x=>if sibN t=x then climb ts (x / 2) else (t :: ts,x)
def joinStep (T:List Int) (x:Int) :List Int:=
 match T with
 | []=> [x]
 |t :: ts=>if abv t x=true then t :: ts else (climb (t :: ts) x).2 :: (climb (t :: ts) x).1
def joinF (s:List Int) :List Int:=s.foldl joinStep []
def leT (l:Nat) (a b:Int) :Prop:=loN l a<loN l b∨(loN l a=loN l b∧a≤b)
structure ClimbOf (l:Nat) (T:List Int) (x:Int) (T':List Int) (j:Int) :Prop where
 node:isNode l j=true
 suf:T' <:+ T
 left: ∀t∈T',hiN l t<loN l j
 hi:hiN l j=hiN l x
 lo:loN l j=loN l x∨∃t∈T,loN l j=loN l t
 lole:loN l j≤loN l x
 all: ∀t∈T,t∈T'∨abv j t=true
 in_: ∀v,loN l j≤v→v≤hiN l j→(loN l x≤v∧v≤hiN l x)∨∃t∈T,loN l t≤v∧v≤hiN l t
 stop: ∀t ts,T'=t :: ts→sibN t≠j
structure JInv (l:Nat) (pre T:List Int) :Prop where
 node: ∀t∈T,isNode l t=true
 sep:T.Pairwise (fun a b=>hiN l b<loN l a)
 low: ∀t∈T,∃q∈pre,loN l q=loN l t
 cov: ∀q∈pre,∃t∈T,abv t q=true
 sub: ∀t∈T,∀v,loN l t≤v→v≤hiN l t→held l pre v
 sib:T.Pairwise (fun a b=>sibN b≠a)
structure Tiles (l:Nat) (C:Int→Prop) (T:List Int) :Prop where
 node: ∀t∈T,isNode l t=true
 cov: ∀v,held l T v↔C v
 top: ∀x,isNode l x=true→(∀v,loN l x≤v→v≤hiN l x→C v)→∃t∈T,abv t x=true
def layT (l:Nat) (a b:Int) :Nat→Int→List Int
 |0,x=>if hiN l x<a∨b<loN l x then [] else [x]
 |h+1,x=>if hiN l x<a∨b<loN l x then [] else if a≤loN l x∧hiN l x≤b then [x] else layT l a b h (2*x) ++ layT l a b h (2*x+1)
def ofTiles (l:Nat) (a b:Int) :List Int:=layT l a b l 1
def restStep (l:Nat) (o:List Int×Int) (x:Int) :List Int×Int:=(if o.2<loN l x then o.1 ++ ofTiles l o.2 (loN l x - 1) else o.1,hiN l x+1)
def restF (l:Nat) (T:List Int) :List Int×Int:=T.foldl (restStep l) ([],0)
def restL (l:Nat) (T:List Int) :List Int:=if (restF l T).2≤2^l - 1 then (restF l T).1 ++ ofTiles l (restF l T).2 (2^l - 1) else (restF l T).1
structure RInv (l:Nat) (pre:List Int) (o:List Int×Int) :Prop where
 from0:0≤o.2∧o.2≤2^l
 last:0<o.2→held l pre (o.2 - 1)
 below: ∀t∈pre,hiN l t<o.2
 node: ∀t∈o.1,isNode l t=true
 cov: ∀v,held l o.1 v↔(0≤v∧v<o.2)∧¬held l pre v
 top: ∀x,isNode l x=true→hiN l x<o.2→(∀v,loN l x≤v→v≤hiN l x→¬held l pre v)→∃t∈o.1,abv t x=true
theorem Fits.nodes {l:Nat} {r:List Nd} (hf:Fits l r) (hl:1≤l∧l≤48) : ∀x∈r,isNode l x.1=true:=by
 intro x hx;have h1:=(hf.roll.2 x hx).1;have h2:=hf.lt x hx;simp only [isNode,decide_eq_true_eq,Int.toNat_natCast];omega
structure Tr where
 leaf:Int
 node:Int
 c:Int
def wTr (f:Tr→Bool) :List Tr→Int
 | []=>0
 |t :: T=>(if f t=true then t.c else 0) +wTr f T
def wIds (p:Int→Bool) :List Nd→Int
 | []=>0
 |x :: r=>(if p x.1=true then x.2 else 0) +wIds p r
theorem sumR_ids (r:List Nd) :sumR r=wIds (fun _=>true) r:=by
 induction r with
 |nil=>rfl
 |cons x r ih=>simp only [sumR,wIds,ih];simp
theorem wTr_nonneg {T:List Tr} (h: ∀t∈T,1≤t.c) (f:Tr→Bool) :0≤wTr f T:=by
 induction T with
 |nil=>simp [wTr]
 |cons t T ih=>
  have h1:=h t (by simp);have h2:=ih fun u hu=>h u (by simp [hu]);simp only [wTr]
  split <;> omega
theorem wTr_split (g:Tr→Bool) (k:Tr→Int) (a:Int) (T:List Tr) :wTr g T=wTr (fun t=>g t && (k t == a)) T+wTr g (T.filter fun t=>k t != a):=by
 induction T with
 |nil=>rfl
 |cons t T ih=>
  simp only [wTr,List.filter_cons,ih];by_cases hk:k t=a
  ·simp [hk];omega
  ·simp [hk,wTr];omega
theorem wTr_key (p:Int→Bool) (k:Tr→Int) (a:Int) (T:List Tr) :wTr (fun t=>p (k t) && (k t == a)) T=if p a=true then wTr (fun t=>k t == a) T else 0:=by
 induction T with
 |nil=>simp [wTr]
 |cons t T ih=>
  simp only [wTr,ih];by_cases hk:k t=a
  ·subst hk
   by_cases hp:p (k t) =true
   ·simp [hp]
   ·simp [hp]
  ·have: (k t == a) =false:=by simpa using hk
   simp only [this,Bool.and_false,Bool.false_eq_true,if_false,Int.zero_add]
theorem wTr_none {T:List Tr} {f:Tr→Bool} (h: ∀t∈T,f t=false) :wTr f T=0:=by
 induction T with
 |nil=>rfl
 |cons t T ih=>simp only [wTr,h t (by simp),ih fun u hu=>h u (by simp [hu])];simp
theorem wIds_tr (p:Int→Bool) (k:Tr→Int) {r:List Nd} : ∀(T:List Tr),Roll r→(∀t∈T,1≤t.c)→(∀id,getR r id=wTr (fun t=>k t == id) T)→wIds p r=wTr (fun t=>p (k t)) T:=by
 induction r with
 |nil=>
  intro T _ hT h
  cases T with
  |nil=>rfl
  |cons t T=>
   have h1:=h (k t);have h2:=wTr_nonneg (fun u hu=>hT u (by simp [hu])) (fun u=>k u == k t) (T:=T);have h3:=hT t (by simp);simp only [getR,wTr,BEq.rfl,if_true] at h1;omega
 |cons x r ih=>
  intro T hr hT h;have h1:=h x.1;simp only [getR,if_true] at h1;rw [wTr_split (fun t=>p (k t)) k x.1 T,wTr_key];simp only [wIds];rw [←h1]
  congr 1
  refine ih _ hr.tail (fun t ht=>hT t (List.mem_filter.1 ht).1) fun id=> ?_;by_cases hid:id=x.1
  ·subst hid
   rw [getR_none (fun y hy=>by have:=hr.head y hy;omega),wTr_none];intro t ht;have:=(List.mem_filter.1 ht).2
   simpa using this
  ·have h2:=h id
   simp only [getR] at h2;rw [if_neg (fun e=>hid e.symm)] at h2
   rw [h2,wTr_split (fun t=>k t == id) k x.1 T,wTr_none (f:=fun t=>(k t == id) && (k t == x.1)) (fun t _=>by
    by_cases e:k t=id
    ·simp [e,hid]
    ·simp [e])]
   simp
def Flow (l:Nat) (r q:List Nd) :Prop:=∃T:List Tr,(∀t∈T,1≤t.c)∧
 (∀t∈T,isNode l t.node=true∧isNode l t.leaf=true∧(endsOf l t.node).1≤(endsOf l t.leaf).1∧(endsOf l t.leaf).2.1≤(endsOf l t.node).2.1)∧
 (∀id,getR r id=wTr (fun t=>t.node == id) T)∧(∀id,getR q id=wTr (fun t=>t.leaf == id) T)
section
variable {l:Nat} {r q:List Nd}
theorem Flow.nil (l:Nat) :Flow l [] []:=⟨[],by simp,by simp,fun _=>rfl,fun _=>rfl⟩
theorem Flow.add (h:Flow l r q) (hr:Roll r) (hq:Roll q) {id c:Int} (hid:isNode l id=true) (hc:1≤c) :Flow l (addR r id c) (addR q id c):=by
 obtain⟨T,h1,h2,h3,h4⟩:=h;refine⟨⟨id,id,c⟩ :: T,?_,?_,?_,?_⟩
 ·intro t ht
  rcases List.mem_cons.1 ht with rfl|ht
  ·exact hc
  ·exact h1 t ht
 ·intro t ht
  rcases List.mem_cons.1 ht with rfl|ht
  ·exact⟨hid,hid,Int.le_refl _,Int.le_refl _⟩
  ·exact h2 t ht
 ·intro j
  rw [getR_add hr,h3,h3];simp only [wTr];by_cases e:j=id
  ·subst e;simp;omega
  ·have: (id == j) =false:=by simpa using fun e'=>e e'.symm
   rw [if_neg e,this];simp
 ·intro j
  rw [getR_add hq,h4,h4];simp only [wTr];by_cases e:j=id
  ·subst e;simp;omega
  ·have: (id == j) =false:=by simpa using fun e'=>e e'.symm
   rw [if_neg e,this];simp
theorem Flow.fold (h:Flow l r q) {a b p:Int} {r':List Nd} (hp:isNode l p=true) (hab:a≠b) (hap:a≠p) (hbp:b≠p) (ha: (endsOf l p).1≤(endsOf l a).1∧(endsOf l a).2.1≤(endsOf l p).2.1) (hb: (endsOf l p).1≤(endsOf l b).1∧(endsOf l b).2.1≤(endsOf l p).2.1)
 (hr: ∀id,getR r' id=if id=p then getR r p+getR r a+getR r b else if id=a∨id=b then 0 else getR r id) :Flow l r' q:=by
 obtain⟨T,h1,h2,h3,h4⟩:=h;refine⟨T.map fun t=>if t.node=a∨t.node=b then {t with node:=p} else t,?_,?_,?_,?_⟩
 ·intro t ht
  obtain⟨u,hu,rfl⟩:=List.mem_map.1 ht;have:=h1 u hu
  split <;> exact this
 ·intro t ht
  obtain⟨u,hu,rfl⟩:=List.mem_map.1 ht;have:=h2 u hu
  split
  ·rename_i hn
   refine⟨hp,this.2.1,?_,?_⟩
   ·simp only
    rcases hn with hn|hn
    ·rw [hn] at this;omega
    ·rw [hn] at this;omega
   ·simp only
    rcases hn with hn|hn
    ·rw [hn] at this;omega
    ·rw [hn] at this;omega
  ·exact this
 ·intro id
  rw [hr,h3,h3,h3,h3];clear h1 h2 h3 h4 hr
  induction T with
  |nil=>simp [wTr]
  |cons t T ih=>
   simp only [List.map_cons,wTr];by_cases i1:id=p
   ·rw [if_pos i1] at ih⊢
    subst i1;by_cases ta:t.node=a
    ·have e1:t.node≠b:=by omega
     have e2:t.node≠id:=by omega
     simp [ta,hab,hap]
     omega
    ·by_cases tb:t.node=b
     ·simp [tb,hbp,fun e:b=a=>hab e.symm]
      omega
     ·simp [ta,tb]
      by_cases tp:t.node=id
      ·simp [tp];omega
      ·simp [tp];omega
   ·rw [if_neg i1] at ih⊢
    by_cases i2:id=a∨id=b
    ·rw [if_pos i2] at ih⊢
     by_cases t1:t.node=a∨t.node=b
     ·rw [if_pos t1]
      have: (p == id) =false:=by simpa using fun e=>i1 e.symm
      simp only [this];simp only [Bool.false_eq_true,if_false];omega
     ·rw [if_neg t1]
      have: (t.node == id) =false:=by
       simp only [beq_eq_false_iff_ne,ne_eq];rintro rfl;exact t1 i2
      simp only [this,Bool.false_eq_true,if_false];omega
    ·rw [if_neg i2] at ih⊢
     by_cases t1:t.node=a∨t.node=b
     ·rw [if_pos t1]
      have e1: (p == id) =false:=by simpa using fun e=>i1 e.symm
      have e2: (t.node == id) =false:=by
       simp only [beq_eq_false_iff_ne,ne_eq];rintro rfl;exact i2 t1
      simp only [e1,e2,Bool.false_eq_true,if_false];omega
     ·rw [if_neg t1];omega
 ·intro id
  rw [h4];clear h1 h2 h3 h4 hr
  induction T with
  |nil=>rfl
  |cons t T ih=>
   simp only [List.map_cons,wTr,ih];by_cases hc:t.node=a∨t.node=b
   ·rw [if_pos hc]
   ·rw [if_neg hc]
theorem Flow.sum (h:Flow l r q) (hr:Roll r) (hq:Roll q) :sumR r=sumR q:=by
 obtain⟨T,h1,h2,h3,h4⟩:=h;rw [sumR_ids,sumR_ids,wIds_tr _ (·.node) T hr h1 h3,wIds_tr _ (·.leaf) T hq h1 h4]
end
def pathOf (l:Nat) (y:Int) :List Int:=(List.range l).map fun d=>(2^l+y) / 2^ (l - d)
theorem ref13_Weight (w:World) (k u:Int) (A:Option Addr) (cap:Nat) (l:List Nd) (hS:Sl w w.heap.size encN A l) (hI:ints l) (hm:l.length≤maxLen) :
 Calls Tryz.prog 52 #[.agg #[.int .i64 k,.int .i64 u,.slice A l.length cap]] w fun e w'=>e=.returned (.int .i64 (totalOf l).1)∧Below w.heap.size w w':=by
 have HC:=LH (ref7_Total · u A cap l · hI hm);have HS:=LH hS;clear hS hI hm
 go_enter Tryz.func52,Tryz.ntmps52
 go_wp2_with fail;refine(HC.out _ (HS.out.keep (by simp) fun p hp=>Go.RowKit.Below.cell (B:=w.heap.size) (w:=w) bE hp)).mono ?_;rintro e w1 ⟨rfl,hb1⟩;have B1:Below w.heap.size w w1:=Below.then_ bE hb1;have s1:=B1.size;go_wp2_with fail;go_ret;exact⟨rfl,bE⟩
def encD:Enc Nat 1:=⟨fun x=> [.int .i64 x],fun _=>rfl,by intro x u hu;simp at hu;subst hu;rfl⟩
def dg (l:List Nat) (i:Nat) :Nat:=l.getD i 0
def valD:List Nat→Nat
 | []=>0
 |x :: l=>x+1000*valD l
def okD (l:List Nat) :Prop:=∀x∈l,x≤999
def cmpV (x y:Nat) :Int:=if x<y then -1 else if y<x then 1 else 0

section
variable {a c u d q rh:Nat}
end
structure DivFacts (hi lo y s a c u x1 x0:Nat) :Prop where
 s63:s≤63
 eY:y*2^s=a*4294967296+c
 a1:2147483648≤a
 a2:a<4294967296
 lc:c<4294967296
 eu:u=hi*2^s+lo / 2^ (64 - s)
 uY:u<a*4294967296+c
 et:lo*2^s % 18446744073709551616=x1*4294967296+x0
 l1:x1<4294967296
 l0:x0<4294967296
structure Guess (a c u d q rh:Nat) :Prop where
 eq:q*a+rh=u
 ge: (u*4294967296+d) / (a*4294967296+c)≤q
 rh:rh<4294967296
section
variable {a c u d q rh:Nat}
end
def upV (a b c:Nat) :Nat:=a*b / c+if a*b % c=0 then 0 else 1
def inLow (a b lo hi:Int) :Bool:=decide (a≤lo) && decide (hi≤b)
def inHigh (a b lo hi:Int) :Bool:=decide (lo≤b) && decide (a≤hi)
def betwLow (l:Int) (r:List Nd) (a b:Int) :Int:=weighR l (inLow a b) r
def betwHigh (l:Int) (r:List Nd) (a b:Int) :Int:=weighR l (inHigh a b) r
def covR (L:List (Int×Int)) (v:Int) :Prop:=∃r∈L,r.1≤v∧v≤r.2
structure Apart (L:List (Int×Int)) :Prop where
 sep:L.Pairwise fun a b=>a.2+1<b.1
 run: ∀r∈L,r.1≤r.2
def ov (r:Int×Int) (lo hi:Int) :Int:=max 0 (min r.2 hi - max r.1 lo+1)
def cntR (lo hi:Int) :List (Int×Int)→Int
 | []=>0
 |r :: L=>ov r lo hi+cntR lo hi L
structure WithS where
 ahead:List (Int×Int)
 x:Int×Int
 behind:List (Int×Int)
def withStep (s:WithS) (r:Int×Int) :WithS:=
 if r.2+1<s.x.1 then {s with ahead:=s.ahead ++ [r]}
 else if s.x.2+1<r.1 then {s with behind:=s.behind ++ [r]}
 else {s with x:=(if r.1<s.x.1 then r.1 else s.x.1,if s.x.2<r.2 then r.2 else s.x.2)}
def withF (L:List (Int×Int)) (x:Int×Int) :WithS:=L.foldl withStep ⟨[],x, []⟩
def withL (L:List (Int×Int)) (x:Int×Int) :List (Int×Int):=(withF L x).ahead ++ [(withF L x).x] ++ (withF L x).behind
structure WInv (pre:List (Int×Int)) (x:Int×Int) (s:WithS) :Prop where
 run:s.x.1≤s.x.2
 a: ∀r∈s.ahead,r∈pre∧r.2+1<s.x.1
 b: ∀r∈s.behind,r∈pre∧s.x.2+1<r.1
 asep:s.ahead.Pairwise fun a b=>a.2+1<b.1
 bsep:s.behind.Pairwise fun a b=>a.2+1<b.1
 cov: ∀v,(covR s.ahead v∨(s.x.1≤v∧v≤s.x.2)∨covR s.behind v)↔(covR pre v∨(x.1≤v∧v≤x.2))
def runsF (l:Nat) (ids:List Int) :List (Int×Int):=ids.foldl (fun o x=>withL o (loN l x,hiN l x)) []
def chainT (l:Nat) (b:Int) :Int→List Int→Prop
 |a, []=>a=b+1
 |a,t :: L=>isNode l t=true∧loN l t=a∧hiN l t≤b∧chainT l b (hiN l t+1) L
def ends2 (l:Nat) (t:Int) :Int×Int:=(loN l t,hiN l t)
def heldC (l:Nat) (ids:List Int) (x:Int) :Int:=cntR (loN l x) (hiN l x) (runsF l ids)
def allT (T:List Int) (x:Int) :Bool:=T.any fun t=>abv t x
def someT (T:List Int) (x:Int) :Bool:=T.any fun t=>abv t x || abv x t
def onT (T:List Int) (r:List Nd) :Int×Int:=(wIds (allT T) r,wIds (someT T) r)
def refOn (l:Nat) (ids:List Int) (off:Bool) (r:List Nd) :Int×Int:=
 (wIds (fun x=>decide ((if off=true then hiN l x - loN l x+1 - heldC l ids x else heldC l ids x) =hiN l x - loN l x+1)) r,wIds (fun x=>decide (0< (if off=true then hiN l x - loN l x+1 - heldC l ids x else heldC l ids x))) r)
def around (y:Int) (lo hi:Int) :Bool:=decide (lo≤y) && decide (y<hi)
def rankQ (l:Int) (q:List Nd) (y:Int) :Int:=lowOf l q y
def sideV (n m:Int) (pl ph ql qh:Int) :Int:=if qh*n<pl*m then 1 else if ph*m<ql*n then -1 else 0
def sideOf (l:Int) (a b:List Nd) (x:Int) :Int:=sideV (sumR a) (sumR b) (lowOf l a x) (highOf l a x) (lowOf l b x) (highOf l b x)
def apStep (f:Int→Int) (a:Int×Int) (x:Int) :Int×Int:=if f x≠0∧(a.2=0∨x<a.1) then (x,f x) else a
def apFold (f:Int→Int) (l:List Int) :Int×Int:=l.foldl (apStep f) (0,0)
def apIs (f:Int→Int) (l:List Int) (r:Int×Int) :Prop:=((∀x∈l,f x=0)∧r= (0,0))∨(r.1∈l∧r.2=f r.1∧r.2≠0∧∀x∈l,f x≠0→r.1≤x)
def downV (n d x:Int) :Int:=(x.toNat*d.toNat / n.toNat:Nat)
def upP (n d x:Int) :Int:=(upV x.toNat d.toNat n.toNat:Nat)
def gapStep (l d:Int) (a b:List Nd) (o:Int×Int) (x:Int) :Int×Int:=
 (max (max o.1 (downV (sumR a) d (lowOf l a x) - upP (sumR b) d (highOf l b x))) (downV (sumR b) d (lowOf l b x) - upP (sumR a) d (highOf l a x)),
  max (max o.2 (upP (sumR a) d (highOf l a x) - downV (sumR b) d (lowOf l b x))) (upP (sumR b) d (highOf l b x) - downV (sumR a) d (lowOf l a x)))
def gapFold (l d:Int) (a b:List Nd) (e:List Int) :Int×Int:=e.foldl (gapStep l d a b) (0,0)
def ownN (r:List Nd) (id:Int) :Int:=wIds (fun x=>abv id x) r
def bagB (l:Nat) (q:List Nd) (lo hi:Int) :Int:=weighR l (inLow lo hi) q
def moreN (l:Nat) (r q:List Nd) (id:Int) :Int:=ownN r id - bagB l q (loN l id) (hiN l id)
def culF (l:Nat) (r q:List Nd) (id:Int) :Int:=max (moreN l r q id) 0
def inRun (l:Nat) (a b x z:Int) :Bool:=abv x z && (decide (a≤loN l z) && decide (hiN l z≤b))
def inRunV (l:Nat) (a b x z:Int) :Bool:=(decide (a≤loN l z) && decide (loN l x≤loN l z)) && (decide (hiN l z≤b) && decide (hiN l z≤hiN l x))
def ancF:Nat→Int→List Int
 |0,_=> []
 |n+1,x=>if x<1 then [] else x :: ancF n (x / 2)
def ancL (x:Int) :List Int:=ancF 49 x
def allAnc (r:List Nd) :List Int:=r.flatMap fun x=>ancL x.1
def offIs (f:Int→Int) (L:List Int) (r:Int×Int) :Prop:=r.1∈L∧r.2=f r.1∧∀x∈L,f x≤r.2∧(f x=r.2→r.1≤x)
def offStep (f:Int→Int) (a:Int×Int) (x:Int) :Int×Int:=if a.2<f x then (x,f x) else a
def offFold (f:Int→Int) (L:List Int) :Int×Int:=L.foldl (offStep f) (0,0)
def offStepR (f:Int→Int) (a:Int×Int) (x:Int) :Int×Int:=if a.2<f x∨(f x=a.2∧x<a.1) then (x,f x) else a
def offFoldR (f:Int→Int) (L:List Int) :Int×Int:=L.foldl (offStepR f) (0,f 0)
def mxT (l:Nat) (b t:Int) :Prop:=t % 2=1∨b<hiN l (t / 2)
theorem leaf_node {l:Nat} (hl:1≤l∧l≤48) {x:Int} (h0:0≤x) (h1:x<2^l) :isNode l (2^l+x) =true∧loN l (2^l+x) =x∧hiN l (2^l+x) =x:=by
 obtain⟨n,rfl⟩:=Int.eq_ofNat_of_zero_le h0
 have hn:n<2^l:=by
  have: ((2^l:Nat) :Int) =2^l:=by simp
  omega
 have e: (2:Int) ^l+ (n:Int) = ((2^l+n:Nat) :Int):=by push_cast;rfl
 rw [e];have hN:=node_of_shape (b:=0) hl (by omega) hn;obtain⟨d,b,t,g1,g2,g3,g4,g5,g6⟩:=node_shape hN;have i1:=log2_shape hn;have g2':=Int.ofNat.inj g2;rw [←g2',i1] at g4;subst g4;obtain rfl:b=0:=by omega
 obtain rfl:t=n:=by omega
 rw [g5,g6];exact⟨hN,by simp,by simp⟩
def layR (l:Nat) (L:List (Int×Int)) :List Int:=L.flatMap fun r=>ofTiles l r.1 r.2
def aheadI (a b:Int) :Bool:=if a.toNat.log2≠b.toNat.log2 then decide (b.toNat.log2<a.toNat.log2) else decide (a<b)
def swapL (L:List Int) (i j:Nat) :List Int:=(L.set i (L.getD j 0)).set j (L.getD i 0)
theorem swapL_len (L:List Int) (i j:Nat) : (swapL L i j).length=L.length:=by simp [swapL]
theorem swapL_perm {L:List Int} {i j:Nat} (hi:i<L.length) (hj:j<L.length) : (swapL L i j).Perm L:=by
 rw [List.perm_iff_count];intro a;unfold swapL;have e1:L.getD j 0=L[j]:=by simp [hj]
 have e2:L.getD i 0=L[i]:=by simp [hi]
 rw [e1,e2];by_cases hij:i=j
 ·subst hij;simp
 ·rw [List.count_set (by simpa using hj),List.count_set hi]
  have e3: (L.set i L[j])[j]'(by simpa using hj) =L[j]:=by rw [List.getElem_set_ne hij]
  rw [e3];have c1:L[i] =a→0<List.count a L:=fun h=>List.count_pos_iff.2 (h ▸ List.getElem_mem hi);have c2:L[j] =a→0<List.count a L:=fun h=>List.count_pos_iff.2 (h ▸ List.getElem_mem hj);by_cases h1:L[i] =a <;> by_cases h2:L[j] =a <;> simp [h1,h2] <;> (have:=c1;have:=c2;simp_all)
def upH:Nat→List Int→Nat→List Int
 |0,L,_=>L
 |n+1,L,i=>if 0<i∧aheadI (L.getD i 0) (L.getD ((i - 1) / 2) 0) =true then upH n (swapL L i ((i - 1) / 2)) ((i - 1) / 2) else L
theorem upH_perm: ∀(n:Nat) (L:List Int) (i:Nat),i<L.length→(upH n L i).Perm L:=by
 intro n
 induction n with
 |zero=>intro L i _;exact .refl _
 |succ n ih=>
  intro L i hi;simp only [upH]
  split
  ·exact(ih _ _ (by rw [swapL_len];omega)).trans (swapL_perm hi (by omega))
  ·exact .refl _
def stepH (L:List Int) (a k:Nat) :Nat:=if k<L.length∧aheadI (L.getD k 0) (L.getD a 0) =true then k else a
theorem stepH_or (L:List Int) (a k:Nat) :stepH L a k=a∨(stepH L a k=k∧k<L.length):=by
 unfold stepH
 split
 ·rename_i h;exact .inr ⟨rfl,h.1⟩
 ·exact .inl rfl
def firstH (L:List Int) (i:Nat) :Nat:=stepH L (stepH L i (2*i+1)) (2*i+2)
theorem firstH_le (L:List Int) (i:Nat) :i≤firstH L i:=by
 unfold firstH;rcases stepH_or L i (2*i+1) with h|h <;> rcases stepH_or L (stepH L i (2*i+1)) (2*i+2) with g|g <;> omega
theorem firstH_lt {L:List Int} {i:Nat} (h:i<L.length) :firstH L i<L.length:=by
 unfold firstH;rcases stepH_or L i (2*i+1) with h|h <;> rcases stepH_or L (stepH L i (2*i+1)) (2*i+2) with g|g <;> omega
def downH:Nat→List Int→Nat→List Int
 |0,L,_=>L
 |n+1,L,i=>if firstH L i=i then L else downH n (swapL L i (firstH L i)) (firstH L i)
theorem downH_perm: ∀(n:Nat) (L:List Int) (i:Nat),i<L.length→(downH n L i).Perm L:=by
 intro n
 induction n with
 |zero=>intro L i _;exact .refl _
 |succ n ih=>
  intro L i hi;simp only [downH]
  split
  ·exact .refl _
  ·have:=firstH_lt hi
   exact(ih _ _ (by rw [swapL_len];exact this)).trans (swapL_perm hi this)
def putH (L:List Int) (id:Int) :List Int:=upH L.length (L ++ [id]) L.length
theorem putH_perm (L:List Int) (id:Int) : (putH L id).Perm (id :: L):=
 (upH_perm _ _ _ (by simp)).trans (List.perm_append_comm (l₁:=L) (l₂:= [id]))
def popH:List Int→List Int
 | []=> []
 |x :: L=>downH L.length ((x :: L).set 0 ((x :: L).getD L.length 0) |>.take L.length) 0
theorem popH_perm (x:Int) (L:List Int) : (popH (x :: L)).Perm L:=by
 unfold popH
 cases L with
 |nil=>simp [downH]
 |cons y L=>
  refine(downH_perm _ _ _ (by simp)).trans ?_
  have e: ((x :: y :: L).set 0 ((x :: y :: L).getD (y :: L).length 0)).take (y :: L).length= ((y :: L).getLast (by simp)) :: (y :: L).dropLast:=by
   rw [List.set_cons_zero,List.length_cons,List.take_succ_cons,List.dropLast_eq_take,List.getLast_eq_getElem]
   congr 1
   simp
  rw [e];have h:=List.dropLast_concat_getLast (l:=y :: L) (by simp)
  conv=>rhs;rw [←h]
  exact(List.perm_append_comm (l₁:= [(y :: L).getLast (by simp)]) (l₂:=(y :: L).dropLast)).symm.symm
def leA (a b:Int) :Prop:=aheadI b a=false
theorem ahead_iff (a b:Int) :aheadI a b=true↔b.toNat.log2<a.toNat.log2∨(a.toNat.log2=b.toNat.log2∧a<b):=by
 unfold aheadI
 split
 ·rename_i h;simp only [decide_eq_true_eq];omega
 ·rename_i h;simp only [decide_eq_true_eq];omega
theorem leA_iff (a b:Int) :leA a b↔b.toNat.log2<a.toNat.log2∨(a.toNat.log2=b.toNat.log2∧a≤b):=by
 unfold leA;rw [←Bool.not_eq_true,ahead_iff];omega
theorem leA_refl (a:Int) :leA a a:=(leA_iff a a).2 (by omega)
theorem leA_trans {a b c:Int} (h:leA a b) (k:leA b c) :leA a c:=by
 rw [leA_iff] at*;omega
theorem leA_of {a b:Int} (h:aheadI a b=true) :leA a b:=by
 rw [ahead_iff] at h;rw [leA_iff];omega
theorem leA_anti {a b:Int} (h:leA a b) (k:leA b a) :a=b:=by
 rw [leA_iff] at*;omega
def HeapO (L:List Int) :Prop:=∀j:Nat,0<j→j<L.length→leA (L.getD ((j - 1) / 2) 0) (L.getD j 0)
theorem swapL_get {L:List Int} {i j:Nat} (hi:i<L.length) (hj:j<L.length) (k:Nat) : (swapL L i j).getD k 0=if k=j then L.getD i 0 else if k=i then L.getD j 0 else L.getD k 0:=by
 unfold swapL;simp only [List.getD_eq_getElem?_getD,List.getElem?_set,List.length_set];by_cases h1:k=j
 ·subst h1;simp [hj]
 ·rw [if_neg h1,if_neg (fun e=>h1 e.symm)]
  by_cases h2:k=i
  ·subst h2;simp [hi]
  ·rw [if_neg h2,if_neg (fun e=>h2 e.symm)]
structure UpO (L:List Int) (i:Nat) :Prop where
 ok: ∀j:Nat,0<j→j<L.length→j≠i→leA (L.getD ((j - 1) / 2) 0) (L.getD j 0)
 kid:0<i→∀j:Nat,0<j→j<L.length→(j - 1) / 2=i→leA (L.getD ((i - 1) / 2) 0) (L.getD j 0)
theorem upH_heap: ∀(n:Nat) (L:List Int) (i:Nat),i<L.length→i≤n→UpO L i→HeapO (upH n L i):=by
 intro n
 induction n with
 |zero=>
  intro L i hi hn h j h0 hj;simp only [upH] at hj⊢;exact h.ok j h0 hj (by omega)
 |succ n ih=>
  intro L i hi hn h;simp only [upH]
  split
  ·rename_i hs
   obtain⟨hi0,ha⟩:=hs;obtain⟨p,hp⟩ : ∃p,p= (i - 1) / 2:=⟨_,rfl⟩;rw [←hp] at ha⊢;have hpi:p<i:=by omega
   have hpl:p<L.length:=by omega
   have hle:=leA_of ha;refine ih _ _ (by rw [swapL_len];exact hpl) (by omega) ⟨?_,?_⟩
   ·intro j h0 hj hne
    rw [swapL_len] at hj;rw [swapL_get hi hpl,swapL_get hi hpl];by_cases hji:j=i
    ·subst hji
     rw [←hp,if_pos rfl,if_neg (by omega),if_pos rfl];exact hle
    ·rw [if_neg hne,if_neg hji]
     by_cases hqp: (j - 1) / 2=p
     ·rw [if_pos hqp]
      have:=h.ok j h0 hj hji;rw [hqp] at this;exact leA_trans hle this
     ·rw [if_neg hqp]
      by_cases hqi: (j - 1) / 2=i
      ·rw [if_pos hqi]
       have:=h.kid hi0 j h0 hj hqi;rw [←hp] at this;exact this
      ·rw [if_neg hqi]
       exact h.ok j h0 hj hji
   ·intro hp0 j h0 hj hjp
    rw [swapL_len] at hj;rw [swapL_get hi hpl,swapL_get hi hpl];rw [if_neg (by omega: ¬(p - 1) / 2=p),if_neg (by omega: ¬(p - 1) / 2=i),if_neg (by omega: ¬j=p)];have k1:=h.ok p hp0 hpl (by omega);by_cases hji:j=i
    ·rw [if_pos hji]
     exact k1
    ·rw [if_neg hji]
     have k2:=h.ok j h0 hj hji;rw [hjp] at k2;exact leA_trans k1 k2
  ·rename_i hs
   intro j h0 hj;by_cases hji:j=i
   ·subst hji
    have:aheadI (L.getD j 0) (L.getD ((j - 1) / 2) 0) =false:=by
     rw [←Bool.not_eq_true];exact fun ha=>hs ⟨h0,ha⟩
    exact this
   ·exact h.ok j h0 hj hji
theorem getD_append {L:List Int} {x:Int} {j:Nat} (h:j<L.length) : (L ++ [x]).getD j 0=L.getD j 0:=by
 simp only [List.getD_eq_getElem?_getD];rw [List.getElem?_append_left h]
theorem putH_heap {L:List Int} (h:HeapO L) (id:Int) :HeapO (putH L id):=by
 refine upH_heap _ _ _ (by simp) (Nat.le_refl _) ⟨?_,?_⟩
 ·intro j h0 hj hne
  simp only [List.length_append,List.length_cons,List.length_nil] at hj;rw [getD_append (by omega),getD_append (by omega)];exact h j h0 (by omega)
 ·intro _ j h0 hj hjp
  simp only [List.length_append,List.length_cons,List.length_nil] at hj;omega
structure DownO (L:List Int) (i:Nat) :Prop where
 ok: ∀j:Nat,0<j→j<L.length→(j - 1) / 2≠i→leA (L.getD ((j - 1) / 2) 0) (L.getD j 0)
 kid:0<i→∀j:Nat,0<j→j<L.length→(j - 1) / 2=i→leA (L.getD ((i - 1) / 2) 0) (L.getD j 0)
theorem stepH_le (L:List Int) (a k:Nat) :leA (L.getD (stepH L a k) 0) (L.getD a 0)∧(k<L.length→leA (L.getD (stepH L a k) 0) (L.getD k 0)):=by
 unfold stepH
 split
 ·rename_i h
  exact⟨leA_of h.2,fun _=>leA_refl _⟩
 ·rename_i h
  refine⟨leA_refl _,fun hk=> ?_⟩
  have:aheadI (L.getD k 0) (L.getD a 0) =false:=by
   rw [←Bool.not_eq_true];exact fun ha=>h ⟨hk,ha⟩
  exact this
theorem firstH_min (L:List Int) (i:Nat) :leA (L.getD (firstH L i) 0) (L.getD i 0)∧∀j:Nat,0<j→j<L.length→(j - 1) / 2=i→leA (L.getD (firstH L i) 0) (L.getD j 0):=by
 unfold firstH;obtain⟨a1,a2⟩:=stepH_le L i (2*i+1);obtain⟨b1,b2⟩:=stepH_le L (stepH L i (2*i+1)) (2*i+2);refine⟨leA_trans b1 a1,fun j h0 hj hp=> ?_⟩;rcases (by omega:j=2*i+1∨j=2*i+2) with e|e
 ·rw [e] at hj⊢
  exact leA_trans b1 (a2 hj)
 ·rw [e] at hj⊢
  exact b2 hj
theorem firstH_or (L:List Int) (i:Nat) :firstH L i=i∨firstH L i=2*i+1∨firstH L i=2*i+2:=by
 unfold firstH;rcases stepH_or L i (2*i+1) with h|h <;> rcases stepH_or L (stepH L i (2*i+1)) (2*i+2) with g|g <;> omega
theorem downH_heap: ∀(n:Nat) (L:List Int) (i:Nat),i<L.length→L.length≤n+i→DownO L i→HeapO (downH n L i):=by
 intro n
 induction n with
 |zero=>intro L i hi hn h;omega
 |succ n ih=>
  intro L i hi hn h;simp only [downH];obtain⟨m1,m2⟩:=firstH_min L i;have hf:=firstH_lt hi
  split
  ·rename_i he
   intro j h0 hj;by_cases hp: (j - 1) / 2=i
   ·rw [he] at m2
    rw [hp];exact m2 j h0 hj hp
   ·exact h.ok j h0 hj hp
  ·rename_i hne
   have hor:=firstH_or L i;generalize firstH L i=f at*;have hfi: (f - 1) / 2=i:=by omega
   refine ih _ _ (by rw [swapL_len];exact hf) (by rw [swapL_len];omega) ⟨?_,?_⟩
   ·intro j h0 hj hp
    rw [swapL_len] at hj;rw [swapL_get hi hf,swapL_get hi hf];rw [if_neg hp];by_cases hjf:j=f
    ·rw [if_pos hjf,hjf,hfi,if_pos rfl]
     exact m1
    ·rw [if_neg hjf]
     by_cases hqi: (j - 1) / 2=i
     ·rw [if_pos hqi,if_neg (by omega)]
      exact m2 j h0 hj hqi
     ·rw [if_neg hqi]
      by_cases hji:j=i
      ·rw [if_pos hji,hji]
       exact h.kid (by omega) f (by omega) hf hfi
      ·rw [if_neg hji]
       exact h.ok j h0 hj hqi
   ·intro _ j h0 hj hjp
    rw [swapL_len] at hj;rw [swapL_get hi hf,swapL_get hi hf,hfi];rw [if_neg (by omega: ¬i=f),if_pos rfl,if_neg (by omega: ¬j=f),if_neg (by omega: ¬j=i)];have:=h.ok j h0 hj (by omega);rw [hjp] at this;exact this
theorem popH_heap {x:Int} {L:List Int} (h:HeapO (x :: L)) :HeapO (popH (x :: L)):=by
 unfold popH;by_cases h0:L.length=0
 ·have:L= []:=List.length_eq_zero_iff.1 h0
  subst this;intro j h1 h2;simp [downH] at h2
 ·have e: ∀j:Nat,0<j→j<L.length→(((x :: L).set 0 ((x :: L).getD L.length 0)).take L.length).getD j 0= (x :: L).getD j 0:=by
   intro j h1 h2;simp only [List.getD_eq_getElem?_getD,List.getElem?_take,List.getElem?_set];rw [if_pos h2,if_neg (by omega)]
  have hl: (((x :: L).set 0 ((x :: L).getD L.length 0)).take L.length).length=L.length:=by
   rw [List.length_take,List.length_set,List.length_cons];omega
  refine downH_heap _ _ _ (by rw [hl];omega) (by rw [hl];omega) ⟨?_,fun h=>by omega⟩;intro j h1 h2 h3;rw [hl] at h2;rw [e j h1 h2,e _ (by omega) (by omega)];exact h j h1 (by rw [List.length_cons];omega)
theorem heap_first {L:List Int} (h:HeapO L) : ∀j:Nat,j<L.length→leA (L.getD 0 0) (L.getD j 0):=by
 intro j
 induction j using Nat.strongRecOn with
 |ind j ih=>
  intro hj;by_cases h0:j=0
  ·subst h0;exact leA_refl _
  ·exact leA_trans (ih ((j - 1) / 2) (by omega) (by omega)) (h j (by omega) hj)
theorem heap_head {x:Int} {L:List Int} (h:HeapO (x :: L)) : ∀y∈x :: L,leA x y:=by
 intro y hy;obtain⟨j,hj,rfl⟩:=List.mem_iff_getElem.1 hy;have:=heap_first h j hj;simp only [List.getD_eq_getElem?_getD] at this;rw [List.getElem?_eq_getElem hj] at this
 simpa using this
theorem heap_nil:HeapO []:=fun j _ hj=>by simp at hj
def pairR (r:List Nd) (p:Int) :Int:=getR r (2*p) +getR r (2*p+1)
def foldR (r:List Nd) (p:Int) :List Nd:=addR (delR (delR r (2*p)) (2*p+1)) p (pairR r p)
def readyR (l:Nat) (r:List Nd) (p most:Int) :Bool:=(kidsOf l p).2.2 && decide (0<pairR r p∧pairR r p+getR r p≤most)
theorem ready_iff {l:Nat} {r:List Nd} {p most:Int} :readyR l r p most=true↔(kidsOf l p).2.2=true∧0<pairR r p∧pairR r p+getR r p≤most:=by
 simp [readyR]
theorem kids_iff {l:Nat} {p:Int} : (kidsOf l p).2.2=true↔isNode l p=true∧p<2^l:=by
 unfold kidsOf;simp only [Int.toNat_natCast];by_cases h:isNode l p=true∧p<2^l
 ·rw [if_pos h];simp [h]
 ·rw [if_neg h];simp;intro h1;exact Int.not_lt.1 fun h2=>h ⟨h1,h2⟩
theorem kids_node {l:Nat} {p:Int} (h:isNode l p=true) (h2:p<2^l) :p.toNat.log2<l:=by
 have h1:1≤p:=by simp only [isNode,decide_eq_true_eq] at h;omega
 obtain⟨n,rfl⟩:=Int.eq_ofNat_of_zero_le (show 0≤p by omega);rw [Int.toNat_natCast];refine(Nat.log2_lt (by omega)).2 ?_;have: ((2^l:Nat) :Int) =2^l:=by simp
 omega
theorem getR_fold {r:List Nd} (hr:Roll r) {p:Int} (hp:1≤p) (id:Int) :getR (foldR r p) id=if id=p then getR r p+getR r (2*p) +getR r (2*p+1) else if id=2*p∨id=2*p+1 then 0 else getR r id:=by
 unfold foldR;rw [getR_add ((hr.del _).del _),getR_del (hr.del _),getR_del (hr.del _),getR_del hr,getR_del hr];by_cases h1:id=p
 ·rw [if_pos h1,if_pos h1,if_neg (by omega),if_neg (by omega)];unfold pairR;omega
 ·rw [if_neg h1,if_neg h1]
  by_cases h2:id=2*p+1
  ·rw [if_pos h2,if_pos (.inr h2)]
  ·rw [if_neg h2]
   by_cases h3:id=2*p
   ·rw [if_pos h3,if_pos (.inl h3)]
   ·rw [if_neg h3,if_neg (by omega)]
theorem foldR_roll {r:List Nd} (hr:Roll r) {p:Int} (hp:1≤p) (h:0<pairR r p) :Roll (foldR r p):=((hr.del _).del _).add hp (by omega)
theorem foldR_sum {r:List Nd} (hr:Roll r) {p:Int} :sumR (foldR r p) =sumR r:=by
 unfold foldR;rw [sumR_add,sumR_del (hr.del _),sumR_del hr,getR_del hr,if_neg (by omega)];unfold pairR;omega
theorem delR_len {r:List Nd} (id:Int) : (delR r id).length≤r.length∧(getR r id≠0→(delR r id).length+1=r.length):=by
 induction r with
 |nil=>simp [delR,getR]
 |cons x r ih=>
  simp only [delR,getR]
  split
  ·simp
  ·simp only [List.length_cons]
   exact⟨by omega,fun h=>by have:=ih.2 h;omega⟩
theorem foldR_len {r:List Nd} (hr:Roll r) {p:Int} (hp:1≤p) (h:0<pairR r p) : (foldR r p).length≤r.length:=by
 have h1:=delR_len (r:=r) (2*p);have h2:=delR_len (r:=delR r (2*p)) (2*p+1);have h3:getR (delR r (2*p)) (2*p+1) =getR r (2*p+1):=by rw [getR_del hr,if_neg (by omega)]
 have h4:=len_add ((hr.del (2*p)).del (2*p+1)) p (pairR r p);unfold foldR;rw [h4];have:getR r (2*p)≠0∨getR r (2*p+1)≠0:=by unfold pairR at h;omega
 rcases this with g|g
 ·have:=h1.2 g;split <;> omega
 ·have:=h2.2 (by rw [h3];exact g);split <;> omega
theorem foldR_fits {l:Nat} {r:List Nd} (hf:Fits l r) {p most:Int} (h:readyR l r p most=true) :Fits l (foldR r p):=by
 obtain⟨h1,h2,h3⟩:=ready_iff.1 h;obtain⟨n1,n2⟩:=kids_iff.1 h1;have hp:=(isNode_lt n1).1;refine⟨foldR_roll hf.roll hp h2,fun x hx=> ?_,by rw [foldR_sum hf.roll];exact hf.sum⟩;rcases addR_mem hx with e|hx
 ·have:=pow_pos' l;omega
 ·exact hf.lt x (delR_sub (delR_sub hx))
theorem foldR_flow {l:Nat} {r q:List Nd} (h:Flow l r q) (hr:Roll r) {p most:Int} (hy:readyR l r p most=true) :Flow l (foldR r p) q:=by
 obtain⟨h1,h2,h3⟩:=ready_iff.1 hy;obtain⟨n1,n2⟩:=kids_iff.1 h1;have hp:=(isNode_lt n1).1;obtain⟨k1,k2,k3,k4,k5,k6,k7⟩:=node_kids n1 (kids_node n1 n2);have w1:=lo_hi k1;have w2:=lo_hi k2;unfold loN hiN at*;refine h.fold n1 (a:=2*p) (b:=2*p+1) (by omega) (by omega) (by omega) ⟨by omega,by omega⟩ ⟨by omega,by omega⟩ fun id=>getR_fold hr hp id
theorem light_of {l:Nat} {r:List Nd} {k:Int} (h: ∀x∈r,(kidsOf l x.1).2.2=true→x.2≤sumR r / k) :lightOf l r k=true:=by
 unfold lightOf;rw [Bool.not_eq_true',←Bool.not_eq_true,List.any_eq_true];rintro⟨x,hx,hh⟩;simp only [heavy,Bool.and_eq_true,decide_eq_true_eq] at hh;have:=h x hx hh.1;omega
theorem light_all {l:Nat} {r:List Nd} {k:Int} (h:lightOf l r k=true) : ∀x∈r,(kidsOf l x.1).2.2=true→x.2≤sumR r / k:=by
 intro x hx hk
 apply Classical.byContradiction
 intro hc;have:r.any (heavy l (sumR r / k)) =true:=List.any_eq_true.2 ⟨x,hx,by simp only [heavy,hk,Bool.true_and,decide_eq_true_eq];omega⟩;unfold lightOf at h;rw [this] at h
 cases h
theorem foldR_light {l:Nat} {r:List Nd} (hr:Roll r) {k p:Int} (hl:lightOf l r k=true) (hy:readyR l r p (sumR r / k) =true) :lightOf l (foldR r p) k=true:=by
 obtain⟨h1,h2,h3⟩:=ready_iff.1 hy;obtain⟨n1,n2⟩:=kids_iff.1 h1;have hp:=(isNode_lt n1).1;have hR:=foldR_roll hr hp h2;refine light_of fun x hx hk=> ?_;rw [foldR_sum hr];have e:=getR_mem hR hx;rw [getR_fold hr hp] at e;have hpos:=(hR.2 x hx).2
 split at e
 ·unfold pairR at h3;omega
 ·split at e
  ·omega
  ·have hm:=getR_pos hr (id:=x.1) (by omega)
   have:=light_all hl _ hm hk;simp only at this;omega
theorem add_light {l:Nat} {r:List Nd} (hr:Roll r) {k x c:Int} (hk1:1≤k) (hl:lightOf l r k=true) (hc:1≤c) (hleaf: (kidsOf l x).2.2=false) :lightOf l (addR r x c) k=true:=by
 have h0:=sumR_nonneg hr;refine light_of fun y hy hk=> ?_;rw [sumR_add];have hx1:y.1≠x:=by rintro rfl;rw [hleaf] at hk;cases hk
 have hm:y∈r:=by
  rcases addR_mem hy with e|h
  ·exact absurd e hx1
  ·exact h
 have h1:=light_all hl y hm hk;have h2:sumR r / k≤(sumR r+c) / k:=Int.ediv_le_ediv (by omega) (by omega);omega
inductive Folded (l:Nat) (most:Int) :List Nd→List Nd→Prop
 |refl (r) :Folded l most r r
 |step {r s} (p) :Folded l most r s→readyR l s p most=true→Folded l most r (foldR s p)
theorem Folded.fits {l:Nat} {most:Int} {r s:List Nd} (h:Folded l most r s) (hf:Fits l r) :Fits l s:=by
 induction h with
 |refl=>exact hf
 |step p _ hy ih=>exact foldR_fits ih hy
theorem Folded.sum {l:Nat} {most:Int} {r s:List Nd} (h:Folded l most r s) (hf:Fits l r) :sumR s=sumR r:=by
 induction h with
 |refl=>rfl
 |step p h hy ih=>rw [foldR_sum (h.fits hf).roll,ih]
theorem Folded.len {l:Nat} {most:Int} {r s:List Nd} (h:Folded l most r s) (hf:Fits l r) :s.length≤r.length:=by
 induction h with
 |refl=>exact Nat.le_refl _
 |step p h hy ih=>
  obtain⟨h1,h2,h3⟩:=ready_iff.1 hy;exact Nat.le_trans (foldR_len (h.fits hf).roll (isNode_lt (kids_iff.1 h1).1).1 h2) ih
theorem Folded.flow {l:Nat} {most:Int} {r s q:List Nd} (h:Folded l most r s) (hf:Fits l r) (hF:Flow l r q) :Flow l s q:=by
 induction h with
 |refl=>exact hF
 |step p h hy ih=>exact foldR_flow ih (h.fits hf).roll hy
theorem Folded.light {l:Nat} {k:Int} {r s:List Nd} (h:Folded l (sumR r / k) r s) (hf:Fits l r) (hl:lightOf l r k=true) :lightOf l s k=true:=by
 generalize hm:sumR r / k=most at h
 induction h with
 |refl=>exact hl
 |step p h hy ih=>
  refine foldR_light (h.fits hf).roll ih ?_;rw [h.sum hf,hm];exact hy
theorem Folded.trans {l:Nat} {most:Int} {r s t:List Nd} (h:Folded l most r s) (k:Folded l most s t) :Folded l most r t:=by
 induction k with
 |refl=>exact h
 |step p _ hy ih=>exact .step p ih hy
def deepR (r:List Nd) :Nat:=(r.map fun x=>x.1.toNat.log2).sum
theorem deep_del {r:List Nd} (id:Int) (h:getR r id≠0) :deepR (delR r id) +id.toNat.log2=deepR r:=by
 induction r with
 |nil=>simp [getR] at h
 |cons x r ih=>
  simp only [getR] at h;simp only [delR]
  split
  ·rename_i he;subst he;simp [deepR];omega
  ·rename_i hne
   rw [if_neg hne] at h;have:=ih h;simp only [deepR,List.map_cons,List.sum_cons] at this⊢;omega
theorem del_none {r:List Nd} (hr:Roll r) {id:Int} (h:getR r id=0) :delR r id=r:=by
 induction r with
 |nil=>rfl
 |cons x r ih=>
  have hx:=hr.2 x (by simp);simp only [getR] at h;simp only [delR]
  split
  ·rename_i he;rw [if_pos he] at h;omega
  ·rename_i hne;rw [if_neg hne] at h;rw [ih hr.tail h]
theorem deep_add (r:List Nd) (id c:Int) :deepR (addR r id c)≤deepR r+id.toNat.log2:=by
 induction r with
 |nil=>simp [addR,deepR]
 |cons x r ih=>
  simp only [addR]
  split
  ·rename_i he;subst he;simp [deepR]
  ·split
   ·simp [deepR];omega
   ·simp only [deepR,List.map_cons,List.sum_cons] at ih⊢;omega
theorem deep_fold {l:Nat} {r:List Nd} (hr:Roll r) {p most:Int} (hy:readyR l r p most=true) :deepR (foldR r p) +1≤deepR r:=by
 obtain⟨h1,h2,h3⟩:=ready_iff.1 hy;obtain⟨n1,n2⟩:=kids_iff.1 h1;obtain⟨k1,k2,k3,k4,k5,k6,k7⟩:=node_kids n1 (kids_node n1 n2);have a1:=deep_add (delR (delR r (2*p)) (2*p+1)) p (pairR r p);have e1:getR (delR r (2*p)) (2*p+1) =getR r (2*p+1):=by rw [getR_del hr,if_neg (by omega)]
 unfold foldR;unfold pairR at h2;by_cases g1:getR r (2*p) =0
 ·rw [del_none hr g1] at a1 e1⊢
  have:=deep_del (r:=r) (2*p+1) (by omega);omega
 ·have d1:=deep_del (2*p) g1
  by_cases g2:getR r (2*p+1) =0
  ·rw [del_none (hr.del _) (by rw [e1];exact g2)] at a1⊢
   omega
  ·have d2:=deep_del (r:=delR r (2*p)) (2*p+1) (by rw [e1];exact g2)
   omega
def FirstIs (l:Nat) (most:Int) (r:List Nd) (p:Int) :Prop:=readyR l r p most=true∧∀q,readyR l r q most=true→leA p q
theorem FirstIs.unique {l:Nat} {most:Int} {r:List Nd} {p q:Int} (h:FirstIs l most r p) (k:FirstIs l most r q) :p=q:=leA_anti (h.2 q k.1) (k.2 p h.1)
inductive RunTo (l:Nat) (most:Int) :List Nd→List Int→List Nd→Prop
 |done {r:List Nd} (h: ∀p,readyR l r p most=false) :RunTo l most r [] r
 |step {r s:List Nd} {p:Int} {ps:List Int} (h:FirstIs l most r p) (k:RunTo l most (foldR r p) ps s) :RunTo l most r (p :: ps) s
theorem RunTo.unique {l:Nat} {most:Int} {r s t:List Nd} {ps qs:List Int} (h:RunTo l most r ps s) :RunTo l most r qs t→ps=qs∧s=t:=by
 induction h generalizing qs t with
 |done h=>
  intro k
  cases k with
  |done _=>exact⟨rfl,rfl⟩
  |step k _=>have:=k.1;rw [h] at this;cases this
 |step h _ ih=>
  intro k
  cases k with
  |done k=>have:=h.1;rw [k] at this;cases this
  |step k k2=>
   obtain rfl:=h.unique k;obtain⟨rfl,rfl⟩:=ih k2;exact⟨rfl,rfl⟩
theorem RunTo.folded {l:Nat} {most:Int} {r s:List Nd} {ps:List Int} (h:RunTo l most r ps s) :Folded l most r s:=by
 induction h with
 |done _=>exact Folded.refl _
 |step h _ ih=>exact(Folded.step _ (Folded.refl _) h.1).trans ih
theorem RunTo.tight {l:Nat} {most:Int} {r s:List Nd} {ps:List Int} (h:RunTo l most r ps s) : ∀p,readyR l s p most=false:=by
 induction h with
 |done h=>exact h
 |step _ _ ih=>exact ih
def putW (L:List Int) (id:Int) :List Int:=if id<1∨id∈L then L else putH L id
theorem putW_mem (L:List Int) (id:Int) (y:Int) :y∈putW L id↔y∈L∨(1≤id∧y=id):=by
 unfold putW
 split
 ·rename_i h
  rcases h with h|h
  ·constructor
   ·exact .inl
   ·rintro(h2| ⟨h2,_⟩)
    ·exact h2
    ·omega
  ·constructor
   ·exact .inl
   ·rintro(h2| ⟨_,rfl⟩)
    ·exact h2
    ·exact h
 ·rename_i h
  rw [(putH_perm L id).mem_iff,List.mem_cons]
  constructor
  ·rintro(rfl|h2)
   ·exact .inr ⟨by omega,rfl⟩
   ·exact .inl h2
  ·rintro(h2| ⟨_,rfl⟩)
   ·exact .inr h2
   ·exact .inl rfl
theorem putW_len (L:List Int) (id:Int) : (putW L id).length≤L.length+1:=by
 unfold putW
 split
 ·omega
 ·rw [(putH_perm L id).length_eq];simp
structure WaitL (L:List Int) :Prop where
 heap:HeapO L
 once:L.Nodup
 pos: ∀x∈L,1≤x
theorem WaitL.nil:WaitL []:=⟨heap_nil,List.nodup_nil,by simp⟩
theorem WaitL.put {L:List Int} (h:WaitL L) (id:Int) :WaitL (putW L id):=by
 unfold putW
 split
 ·exact h
 ·rename_i hn
  refine⟨putH_heap h.heap id,?_,?_⟩
  ·rw [(putH_perm L id).nodup_iff,List.nodup_cons]
   exact⟨fun hm=>hn (.inr hm),h.once⟩
  ·intro x hx
   rcases List.mem_cons.1 ((putH_perm L id).mem_iff.1 hx) with rfl|hx
   ·omega
   ·exact h.pos x hx
theorem WaitL.pop {x:Int} {L:List Int} (h:WaitL (x :: L)) :WaitL (popH (x :: L)):=
 ⟨popH_heap h.heap,(popH_perm x L).nodup_iff.2 (List.nodup_cons.1 h.once).2,fun y hy=>h.pos y (List.mem_cons_of_mem _ ((popH_perm x L).mem_iff.1 hy))⟩
def Waits (l:Nat) (most:Int) (r:List Nd) (L:List Int) :Prop:=∀p,readyR l r p most=true→p∈L
theorem Waits.skip {l:Nat} {most:Int} {r:List Nd} {x:Int} {L:List Int} (h:Waits l most r (x :: L)) (hx:readyR l r x most=false) :Waits l most r (popH (x :: L)):=by
 intro p hp;rw [(popH_perm x L).mem_iff];rcases List.mem_cons.1 (h p hp) with rfl|h2
 ·rw [hx] at hp;cases hp
 ·exact h2
theorem Waits.first {l:Nat} {most:Int} {r:List Nd} {x:Int} {L:List Int} (h:Waits l most r (x :: L)) (hw:WaitL (x :: L)) (hx:readyR l r x most=true) :FirstIs l most r x:=
 ⟨hx,fun q hq=>heap_head hw.heap q (h q hq)⟩
theorem Waits.fold {l:Nat} {most:Int} {r:List Nd} {x:Int} {L:List Int} (hr:Roll r) (h:Waits l most r (x :: L)) (hx:readyR l r x most=true) :
 Waits l most (foldR r x) (putW (putW (putW (popH (x :: L)) (2*x)) (2*x+1)) (x / 2)):=by
 have hk:=(ready_iff.1 hx).1;have hx1:1≤x:=(isNode_lt (kids_iff.1 hk).1).1;intro p hp;rw [putW_mem,putW_mem,putW_mem,(popH_perm x L).mem_iff];obtain⟨h1,h2,h3⟩:=ready_iff.1 hp;have hp1:1≤p:=(isNode_lt (kids_iff.1 h1).1).1;by_cases e1:p=2*x
 ·exact .inl (.inl (.inr ⟨by omega,e1⟩))
 by_cases e2:p=2*x+1
 ·exact .inl (.inr ⟨by omega,e2⟩)
 by_cases e3:p=x / 2
 ·exact .inr ⟨by omega,e3⟩
 by_cases e4:p=x
 ·subst e4
  simp only [pairR,getR_fold hr hx1] at h2;rw [if_neg (by omega),if_pos (.inl trivial),if_neg (by omega),if_pos (.inr trivial)] at h2;omega
 refine .inl (.inl (.inl ?_))
 have g: ∀id,id≠x→id≠2*x→id≠2*x+1→getR (foldR r x) id=getR r id:=fun id a b c=>by
  rw [getR_fold hr hx1,if_neg a,if_neg (by omega)]
 have q1:=g (2*p) (by omega) (by omega) (by omega);have q2:=g (2*p+1) (by omega) (by omega) (by omega);have q3:=g p e4 e1 e2
 have:readyR l r p most=true:=by
  rw [ready_iff];refine⟨h1,?_,?_⟩
  ·simp only [pairR,q1,q2] at h2⊢
   exact h2
  ·simp only [pairR,q1,q2,q3] at h3⊢
   exact h3
 rcases List.mem_cons.1 (h p this) with h|h
 ·exact absurd h e4
 ·exact h
theorem Waits.done {l:Nat} {most:Int} {r:List Nd} (h:Waits l most r []) :RunTo l most r [] r:=.done fun p=>by
 rw [←Bool.not_eq_true];exact fun hp=>by simpa using h p hp
theorem Waits.start {l:Nat} {most:Int} {r:List Nd} {L:List Int} (hL: ∀x∈r,1≤x.1 / 2→x.1 / 2∈L) (hr:Roll r) :Waits l most r L:=by
 intro p hp;obtain⟨h1,h2,_⟩:=ready_iff.1 hp;have hp1:1≤p:=(isNode_lt (kids_iff.1 h1).1).1
 have:getR r (2*p)≠0∨getR r (2*p+1)≠0:=by
  unfold pairR at h2;omega
 rcases this with h|h
 ·have:=hL _ (getR_pos hr h) (by simp only;omega)
  simp only at this
  rwa [show 2*p / 2=p by omega] at this
 ·have:=hL _ (getR_pos hr h) (by simp only;omega)
  simp only at this
  rwa [show (2*p+1) / 2=p by omega] at this
structure BagL (l:Nat) (m:List Nd) :Prop where
 up:m.Pairwise fun a b=>a.1<b.1
 val: ∀x∈m,0≤x.1∧x.1<2^l∧1≤x.2
 sum:sumR m≤72057594037927935
theorem BagL.nil (l:Nat) :BagL l []:=⟨.nil,by simp,by simp [sumR]⟩
theorem sumR_pos {m:List Nd} (h: ∀x∈m,1≤x.2) :0≤sumR m∧(m.length:Int)≤sumR m:=by
 induction m with
 |nil=>simp [sumR]
 |cons x m ih=>
  have:=ih fun y hy=>h y (by simp [hy]);have:=h x (by simp);simp only [sumR,List.length_cons];omega
theorem addR_vals {m:List Nd} {x c:Int} {P:Nd→Prop} (h: ∀y∈m,P y) (hn:P (x,c)) (ho: ∀y∈m,y.1=x→P (x,y.2+c)) : ∀y∈addR m x c,P y:=by
 induction m with
 |nil=>intro y hy;simp [addR] at hy;rw [hy];exact hn
 |cons z m ih=>
  intro y hy;simp only [addR] at hy
  split at hy
  ·rename_i he
   rcases List.mem_cons.1 hy with rfl|hy
   ·exact ho z (by simp) he
   ·exact h y (by simp [hy])
  ·split at hy
   ·rcases List.mem_cons.1 hy with rfl|hy
    ·exact hn
    ·exact h y hy
   ·rcases List.mem_cons.1 hy with rfl|hy
    ·exact h y (by simp)
    ·exact ih (fun u hu=>h u (by simp [hu])) (fun u hu=>ho u (by simp [hu])) y hy
theorem addR_up {m:List Nd} (h:m.Pairwise fun a b=>a.1<b.1) (x c:Int) : (addR m x c).Pairwise fun a b=>a.1<b.1:=by
 induction m with
 |nil=>simp [addR]
 |cons z m ih=>
  obtain⟨h1,h2⟩:=List.pairwise_cons.1 h;simp only [addR]
  split
  ·rename_i he
   exact List.pairwise_cons.2 ⟨fun y hy=>by have:=h1 y hy;simp only;omega,h2⟩
  ·split
   ·rename_i hlt
    refine List.pairwise_cons.2 ⟨fun y hy=> ?_,h⟩;rcases List.mem_cons.1 hy with rfl|hy
    ·exact hlt
    ·have:=h1 y hy;simp only;omega
   ·rename_i hne hge
    refine List.pairwise_cons.2 ⟨fun y hy=> ?_,ih h2⟩;rcases addR_mem hy with hy|hy
    ·omega
    ·exact h1 y hy
theorem BagL.add {l:Nat} {m:List Nd} (h:BagL l m) {x c:Int} (h0:0≤x) (h1:x<2^l) (hc:1≤c) (hs:sumR m+c≤72057594037927935) :BagL l (addR m x c):=
 ⟨addR_up h.up x c,addR_vals h.val ⟨h0,h1,hc⟩ fun y hy he=>⟨h0,h1,by have:=(h.val y hy).2.2;simp only;omega⟩,by rw [sumR_add];exact hs⟩
def betwB:List Nd→Int→Int→Int
 | [],_,_=>0
 |x :: m,a,b=>(if a≤x.1∧x.1≤b then x.2 else 0) +betwB m a b
structure CutAt (m:List Nd) (p:Int→Prop) (i:Nat) :Prop where
 le:i≤m.length
 ahead: ∀z∈m.take i,¬p z.1
 behind: ∀z∈m.drop i,p z.1
def leaves (l:Nat) (m:List Nd) :List Nd:=m.map fun x=>(2^l+x.1,x.2)
theorem leaves_roll {l:Nat} {m:List Nd} (h:BagL l m) :Roll (leaves l m):=by
 have:=pow_pos' l;refine⟨?_,fun x hx=> ?_⟩
 ·unfold leaves
  rw [List.pairwise_map];exact h.up.imp fun {a b} hab=>by simp only;omega
 ·obtain⟨y,hy,rfl⟩:=List.mem_map.1 hx
  have:=h.val y hy;simp only;omega
theorem leaves_sum (l:Nat) (m:List Nd) :sumR (leaves l m) =sumR m:=by
 induction m with
 |nil=>rfl
 |cons x m ih=>simp only [leaves,List.map_cons,sumR] at ih⊢;rw [ih]
theorem leaves_add (l:Nat) (m:List Nd) (x c:Int) :leaves l (addR m x c) =addR (leaves l m) (2^l+x) c:=by
 induction m with
 |nil=>rfl
 |cons z m ih=>
  simp only [addR,leaves,List.map_cons] at ih⊢;by_cases h1:z.1=x
  ·rw [if_pos h1,if_pos (show (2:Int) ^l+z.1=2^l+x by omega)];simp
  ·rw [if_neg h1,if_neg (show ¬(2:Int) ^l+z.1=2^l+x by omega)]
   by_cases h2:x<z.1
   ·rw [if_pos h2,if_pos (show (2:Int) ^l+x<2^l+z.1 by omega)];simp
   ·rw [if_neg h2,if_neg (show ¬(2:Int) ^l+x<2^l+z.1 by omega)];simp [ih]
def culIs (f:Int→Int) (L:List Int) (r:Int×Int) :Prop:=(r= (0,0)∧∀x∈L,f x≤0)∨(r.1∈L∧r.2=f r.1∧0<f r.1∧∀x∈L,0<f x→r.1≤x)
def isVal (l:Nat) (x:Int) :Bool:=decide (0≤x) && decide (x<2^l)
def leafV (l:Nat) (x:Int) :Value:=.tuple #[.int .i64 (if isVal l x=true then 2^l+x else 0),.bool (isVal l x)]
theorem leafV_yes {l:Nat} {x:Int} (h:isVal l x=true) :leafV l x=.tuple #[.int .i64 (2^l+x),.bool true]:=by unfold leafV;rw [h];rfl
theorem leafV_no {l:Nat} {x:Int} (h:isVal l x=false) :leafV l x=.tuple #[.int .i64 0,.bool false]:=by unfold leafV;rw [h];rfl
theorem or_leaf {l:Nat} (h:l≤48) {x:Int} (h0:0≤x) (h1:x<2^l) :bits .or .i64 (2^l) x=2^l+x:=by
 have p1:=pow_48 h;have p2:=pow_pos' l;exact bits_join .i64 63 (by decide) (fun n h0 h1=>by rw [IntKind.wrap_i64];omega) l (2^l) x (by omega) (Int.emod_self) (by omega) h0 h1 (by omega)
theorem twig_Leaf (w:World) (l:Nat) (x:Int) (h1:1≤l) (h2:l≤48) :Calls Tryz.prog 127 #[.int .i64 l,.int .i64 x] w fun e w'=>e=.returned (leafV l x)∧Below w.heap.size w w':=by
 have p1:=pow_48 h2;have p2:=pow_pos' l;have HU:=LH (show decide (1≤(l:Int)∧(l:Int)≤48) =true by simp;omega);have l1: (1:Int)≤(l:Int):=by omega
 have l2: (l:Int)≤48:=by omega
 by_cases hx0:x<0
 ·rw [leafV_no (by unfold isVal;simp;omega)]
  go_enter Tryz.func127,Tryz.ntmps127
  go_wp2_with fail;refine(universe_ _ _).mono ?_;rintro e w1 ⟨rfl,hb1⟩;have B1:Below w.heap.size w w1:=Below.then_ bE hb1;have s1:=B1.size;rw [HU.out];go_wp2_with fail
  go_ret2
  exact⟨rfl,B1⟩
 ·have k0:decide (x<0) =false:=by simpa using hx0
  by_cases hx1:x<2^l
  ·rw [leafV_yes (by unfold isVal;simp;omega)]
   have HO:=LH (or_leaf h2 (show 0≤x by omega) hx1);have k1:decide ((2:Int) ^l≤x) =false:=by simp;omega
   go_enter Tryz.func127,Tryz.ntmps127
   go_wp2_with fail;refine(universe_ _ _).mono ?_;rintro e w1 ⟨rfl,hb1⟩;have B1:Below w.heap.size w w1:=Below.then_ bE hb1;have s1:=B1.size;rw [HU.out];go_wp2_with fail
   go_ret2
   exact⟨by simp [HO.out],B1⟩
  ·rw [leafV_no (by unfold isVal;simp;omega)]
   have k1:decide ((2:Int) ^l≤x) =true:=by simp;omega
   go_enter Tryz.func127,Tryz.ntmps127
   go_wp2_with fail;refine(universe_ _ _).mono ?_;rintro e w1 ⟨rfl,hb1⟩;have B1:Below w.heap.size w w1:=Below.then_ bE hb1;have s1:=B1.size;rw [HU.out];go_wp2_with fail
   go_ret2
   exact⟨rfl,B1⟩
theorem ref2_Leaf (w:World) (l:Nat) (x:Int) (h1:1≤l) (h2:l≤48) :Calls Tryz.prog 137 #[.int .i64 l,.int .i64 x] w fun e w'=>e=.returned (leafV l x)∧Below w.heap.size w w':=by
 have p1:=pow_48 h2;have p2:=pow_pos' l;have HU:=LH (show decide (1≤(l:Int)∧(l:Int)≤48) =true by simp;omega);have HP:=LH (ref2_Power · l (by omega));by_cases hx0:x<0
 ·rw [leafV_no (by unfold isVal;simp;omega)]
  go_enter Tryz.func137,Tryz.ntmps137
  go_wp2_with fail;refine(ref2_Is _ _).mono ?_;rintro e w1 ⟨rfl,hb1⟩;have B1:Below w.heap.size w w1:=Below.then_ bE hb1;have s1:=B1.size;rw [HU.out];go_wp2_with fail
  go_ret2
  exact⟨rfl,B1⟩
 ·have k0:decide (x<0) =false:=by simpa using hx0
  by_cases hx1:x<2^l
  ·rw [leafV_yes (by unfold isVal;simp;omega)]
   have k1:decide ((2:Int) ^l≤x) =false:=by simp;omega
   go_enter Tryz.func137,Tryz.ntmps137
   go_wp2_with fail;refine(ref2_Is _ _).mono ?_;rintro e w1 ⟨rfl,hb1⟩;have B1:Below w.heap.size w w1:=Below.then_ bE hb1;have s1:=B1.size;rw [HU.out];go_wp2_with fail;refine(HP.out _).mono ?_;rintro e w2 ⟨rfl,hb2⟩;have B2:Below w.heap.size w w2:=Below.then_ bE hb2;have s2:=B2.size;go_wp2_with fail;refine(HP.out _).mono ?_;rintro e w3 ⟨rfl,hb3⟩;have B3:Below w.heap.size w w3:=Below.then_ bE hb3;have s3:=B3.size;go_wp2_with fail
   go_ret2
   exact⟨rfl,B3⟩
  ·rw [leafV_no (by unfold isVal;simp;omega)]
   have k1:decide ((2:Int) ^l≤x) =true:=by simp;omega
   go_enter Tryz.func137,Tryz.ntmps137
   go_wp2_with fail;refine(ref2_Is _ _).mono ?_;rintro e w1 ⟨rfl,hb1⟩;have B1:Below w.heap.size w w1:=Below.then_ bE hb1;have s1:=B1.size;rw [HU.out];go_wp2_with fail;refine(HP.out _).mono ?_;rintro e w2 ⟨rfl,hb2⟩;have B2:Below w.heap.size w w2:=Below.then_ bE hb2;have s2:=B2.size;go_wp2_with fail
   go_ret2
   exact⟨rfl,B2⟩
def addB (l:Nat) (m:List Nd) (x c:Int) :List Nd×Int:=
 if isVal l x=false then (m,3) else if c<1 then (m,4) else if 72057594037927935<sumR m+c then (m,5) else (addR m x c,0)
theorem addR_len (m:List Nd) (x c:Int) : (addR m x c).length≤m.length+1:=by
 induction m with
 |nil=>simp [addR]
 |cons z m ih=>simp only [addR];split <;> (try split) <;> simp <;> omega
def insErr (l:Nat) (r:List Nd) (x c:Int) :Int:=if isVal l x=false then 3 else if c<1 then 4 else if 72057594037927935<sumR r+c then 5 else 0
def PreTo (l:Nat) (k:Int) (r:List Nd) (id:Int) (s:List Nd) :Prop:=
 (getR r id=0∧8*k≤r.length∧∃ps,RunTo l (sumR r / k) r ps s)∨(¬(getR r id=0∧8*k≤r.length)∧s=r)
def InsTo (l:Nat) (k:Int) (r:List Nd) (x c:Int) (r':List Nd) :Prop:=
 (insErr l r x c≠0∧r'=r)∨(insErr l r x c=0∧∃s,PreTo l k r (2^l+x) s∧r'=addR s (2^l+x) c)
abbrev Op3:=Int×Int×Int
def DoTo (l:Nat) (k:Int) (r:List Nd) (o:Op3) (r':List Nd) (n:Int) :Prop:=
 (o.1=1∧∃ps,RunTo l (sumR r / k) r ps r'∧n=ps.length)∨(o.1=2∧r'= []∧n=0)∨(o.1≠1∧o.1≠2∧InsTo l k r o.2.1 o.2.2 r'∧n=insErr l r o.2.1 o.2.2)
theorem ins_ok {l:Nat} {r:List Nd} {x c:Int} (h:insErr l r x c=0) :isVal l x=true∧1≤c∧sumR r+c≤72057594037927935:=by
 unfold insErr at h
 split at h
 ·omega
 ·rename_i h1
  split at h
  ·omega
  ·split at h
   ·omega
   ·exact⟨by simpa using h1,by omega,by omega⟩
theorem isVal_iff {l:Nat} {x:Int} :isVal l x=true↔0≤x∧x<2^l:=by simp [isVal]
theorem PreTo.same {l:Nat} {k:Int} {r s:List Nd} {id:Int} (h:PreTo l k r id s) (hf:Fits l r) :Fits l s∧sumR s=sumR r∧s.length≤r.length:=by
 rcases h with ⟨_,_,ps,h⟩ | ⟨_,rfl⟩
 ·exact⟨h.folded.fits hf,h.folded.sum hf,h.folded.len hf⟩
 ·exact⟨hf,rfl,Nat.le_refl _⟩
structure Held (l:Nat) (k:Int) (r m:List Nd) :Prop where
 fits:Fits l r
 flow:Flow l r (leaves l m)
 bag:BagL l m
 light:lightOf l r k=true
theorem Held.nil (l:Nat) (k:Int) :Held l k [] []:=⟨Fits.nil l,Flow.nil l,.nil l,rfl⟩
section
variable {l:Nat} {k:Int} {r m:List Nd}
theorem Held.sum (h:Held l k r m) :sumR r=sumR m:=by
 rw [h.flow.sum h.fits.roll (leaves_roll h.bag),leaves_sum]
theorem Held.run (h:Held l k r m) {ps:List Int} {s:List Nd} (hR:RunTo l (sumR r / k) r ps s) :Held l k s m:=
 ⟨hR.folded.fits h.fits,hR.folded.flow h.fits h.flow,h.bag,hR.folded.light h.fits h.light⟩
theorem Held.pre (h:Held l k r m) {id:Int} {s:List Nd} (hp:PreTo l k r id s) :Held l k s m:=by
 rcases hp with ⟨_,_,ps,hp⟩ | ⟨_,rfl⟩
 ·exact h.run hp
 ·exact h
theorem leaf_inner {l:Nat} {x:Int} (h0:0≤x) : (kidsOf l (2^l+x)).2.2=false:=by
 rw [←Bool.not_eq_true,kids_iff];omega
theorem Held.add (h:Held l k r m) (hl:1≤l∧l≤48) (hk:1≤k) {x c:Int} (h0:0≤x) (h1:x<2^l) (hc:1≤c) (hs:sumR r+c≤72057594037927935) :Held l k (addR r (2^l+x) c) (addR m x c):=by
 have hp:=pow_pos' l;refine⟨h.fits.add (by omega) (by omega) hc hs,?_,h.bag.add h0 h1 hc (by rw [←h.sum];exact hs),add_light h.fits.roll hk h.light hc (leaf_inner h0)⟩;rw [leaves_add];exact h.flow.add h.fits.roll (leaves_roll h.bag) (leaf_node hl h0 h1).1 hc
def bagDo (l:Nat) (m:List Nd) (o:Op3) (n:Int) :List Nd:=if o.1=2 then [] else if o.1≠1∧n=0 then (addB l m o.2.1 o.2.2).1 else m
theorem Held.do_ (h:Held l k r m) (hl:1≤l∧l≤48) (hk:1≤k) {o:Op3} {r':List Nd} {n:Int} (hd:DoTo l k r o r' n) :Held l k r' (bagDo l m o n):=by
 unfold bagDo;rcases hd with ⟨h1,ps,hR,_⟩ | ⟨h1,rfl,_⟩ | ⟨h1,h2,hI,hn⟩
 ·rw [if_neg (by omega),if_neg (by omega)];exact h.run hR
 ·rw [if_pos h1];exact .nil l k
 ·rw [if_neg h2]
  rcases hI with ⟨h3,rfl⟩ | ⟨h3,s,hp,rfl⟩
  ·rw [if_neg (by rw [hn];exact fun h=>h3 h.2)];exact h
  ·rw [if_pos ⟨h1,by rw [hn];exact h3⟩]
   obtain⟨v1,v2,v3⟩:=ins_ok h3;obtain⟨w1,w2⟩:=isVal_iff.1 v1;have hm:sumR m+o.2.2≤72057594037927935:=by rw [←h.sum];exact v3
   have e: (addB l m o.2.1 o.2.2).1=addR m o.2.1 o.2.2:=by
    unfold Go.Proofs.YtandlhihcnadmaaGreat.addB;rw [if_neg (by simp [v1]),if_neg (by omega),if_neg (by omega)]
   rw [e];exact(h.pre hp).add hl hk w1 w2 v2 (by rw [(hp.same h.fits).2.1];exact v3)
end
end Go.Proofs.YtandlhihcnadmaaGreat
