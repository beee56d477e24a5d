/-
  Texts of this proof, one behind the other: Base, Arith, Mem, Turn, Roll, Make, Dense, Dense2, ProbeLaw, Probe, Probe2, Sorted, Probe3.
-/
import Derived.Test.YtmdidmclfbfmiaaGreatDoorRows
import Derived.WalkKit
import Derived.WalkLawsBesides
import Derived.ProofKit
import Derived.OpenShut
import Derived.Below
import Derived.Lib.Hide
import Derived.BigQuiet
import Derived.Deep.DeepMust
import Derived.Outline
import Derived.Test.YtmdidmclfbfmiaaGreatDoorShelf
import Derived.Lib.ItoaNum
import Derived.Maps.AppendAt
import Derived.Deep.AppendLies
import Derived.Laws.OwnMore
import Derived.Deep.SlicePairs
import Derived.Deep.Fields
import Derived.ChangeSame
import Derived.OwnWalk
import Derived.Deep.RegionHeld3
import Derived.Deep.DrawnRows
import Derived.BigRegion
import Derived.WalkSpells
import Derived.Deep.RegionLaw
set_option linter.unusedVariables false
set_option linter.unusedSimpArgs false
set_option maxRecDepth 100000
set_option maxHeartbeats 16000000
namespace Go.Proofs.YtmdidmclfbfmiaaGreatDoor
open Go.ChangeShapes Go.WideShapes Go.ChangeAt Go.RowKit
theorem ret_bool {a b:Bool} (h:a=b) :Ending.returned (.bool a) =.returned (.bool b):=by rw [h]
theorem ret_int {k:IntKind} {a b:Int} (h:a=b) :Ending.returned (.int k a) =.returned (.int k b):=by rw [h]
theorem Below.then_ {w W w1:World} (h:Below w.heap.size w W) (hb:Below W.heap.size W w1) :Below w.heap.size w w1:=h.trans (hb.mono h.size)
theorem Below.allocW {w w':World} (h:Below w.heap.size w w') (o:Obj) :Below w.heap.size w (w'.alloc o):=h.alloc h.size o
structure Ext where
 new:Array Obj
 drawn:Nat
instance:Inhabited Ext:=⟨⟨#[],0⟩⟩
def ext (W:World) (x:Ext) :World:={W with heap:=W.heap ++ x.new,drawn:=x.drawn}
theorem Below.ext_of {W w':World} (h:Below W.heap.size W w') : ∃x,w'=ext W x:=by
 refine⟨⟨w'.heap.extract W.heap.size w'.heap.size,w'.drawn⟩,?_⟩
 have hh:w'.heap=W.heap ++ w'.heap.extract W.heap.size w'.heap.size:=by
  have hs:=h.size
  apply Array.ext_getElem?
  intro i;rw [Array.getElem?_append]
  split
  ·rename_i hi;exact h.block i hi
  ·rename_i hi
   rw [Array.getElem?_extract];have e:W.heap.size+ (i - W.heap.size) =i:=by omega
   simp only [e,Nat.min_self]
   split
   ·rfl
   ·rw [Array.getElem?_eq_none (by omega)]
 cases w' with
 |mk heap tape drawn os output=>
  have h1:=h.os;have h2:=h.tape;have h3:=h.output;simp only at h1 h2 h3 hh;simp only [ext];rw [←hh,h1,h2,h3]
theorem ext_below (W:World) (x:Ext) :Below W.heap.size W (ext W x):=by
 refine⟨rfl,rfl,rfl,by simp [ext],fun k hk=> ?_⟩;simp [ext,Array.getElem?_append,hk]
@[go_sem] theorem ext_cell (W:World) (x:Ext) (b o:Nat) (s:Option Nat) (h:b<W.heap.size) : (ext W x).cell? ⟨b,o,s⟩ =W.cell? ⟨b,o,s⟩:=
 (ext_below W x).cell (p:=⟨b,o,s⟩) h
theorem ext_ext (W:World) (x y:Ext) :ext (ext W x) y=ext W ⟨x.new ++ y.new,y.drawn⟩:=by
 simp [ext]
theorem rX {P:Program} {id:Nat} {Q:Exit→Act→World→Prop} {a:Act} {w:World} {l:List Oper} (hm:P.follows .mixedOrders=true) (hB:Region.lexB .any l.toArray=true)
 (h:wpQuiet P l.toArray (fun w'=>∃x,w'=ext w x) (fun a'=>∀w',(∃x,w'=ext w x)→Q .normal a' w') l a) : (Code.region id l.toArray true).wp P Q a w:=
 wp_region_quiet (C:=fun w'=>∃x,w'=ext w x) hm hB ⟨⟨#[],w.drawn+1⟩,by simp [ext]⟩ (by simpa using h)
theorem quiet_ext {P:Program} {f:FuncId} {args:Array Value} {w:World} {x:Ext} {v:Value}
 (h:Calls P f args (ext w x) fun e w'=>e=.returned v∧Below (ext w x).heap.size (ext w x) w') :Calls P f args (ext w x) fun e w''=>e=.returned v∧∃y,w''=ext w y:=
 h.mono fun _ _ ⟨he,hb⟩=>⟨he,by obtain⟨y,hy⟩:=Below.ext_of hb;rw [hy,ext_ext];exact⟨_,rfl⟩⟩
theorem bX {W w':World} (h: ∃x,w'=ext W x) :Below W.heap.size W w':=by
 obtain⟨x,rfl⟩:=h;exact ext_below W x
theorem Below.extW {w w':World} (h:Below w.heap.size w w') (x:Ext) :Below w.heap.size w (ext w' x):=h.trans ((ext_below w' x).mono h.size)
theorem bE {w w2:World} {n:Nat} (h:Below n w w2:=by repeat (first|with_reducible exact Below.refl _ _|with_reducible assumption| ((with_reducible refine Below.setCell ?_ ?_ _);rotate_left; · (first|omega|exact Nat.le_refl _| (simp <;> omega))) | (with_reducible refine Below.allocW ?_ _) | (with_reducible refine Below.drew ?_) | (with_reducible refine Below.extW ?_ _))) :Below n w w2:=h
theorem bR:type_of% @Go.bodyPost_ret:=@Go.bodyPost_ret
theorem LH {p:Prop} (h:p) :Hid p:=Lib.hid h
theorem czB {w w2:World} {n:Nat} (h:Below n w w2) (b:Nat) (k:b<n:=by first|omega| (simp <;> omega)) (o:Nat) :w2.cell? ⟨b,o,none⟩ =w.cell? ⟨b,o,none⟩:=h.cell (p:=⟨b,o,none⟩) k
theorem fzB {w w2:World} {n:Nat} (h:Below n w w2) (b:Nat) (k:b<n:=by first|omega| (simp <;> omega)) (o:Nat) :w2.frozen? ⟨b,o,none⟩ =w.frozen? ⟨b,o,none⟩:=h.frozen (p:=⟨b,o,none⟩) k
def isNode (l id:Int) :Bool:=decide ((1≤l∧l≤48)∧1≤id∧id<2*2^l.toNat)
theorem pow_pos' (n:Nat) : (0:Int) <2^n:=by
 have:=Nat.two_pow_pos n;have h: ((2^n:Nat) :Int) =2^n:=by simp
 omega
theorem pow_le' {n m:Nat} (h:n≤m) : (2:Int) ^n≤2^m:=by
 have:=Nat.pow_le_pow_right (n:=2) (by decide) h;have h1: ((2^n:Nat) :Int) =2^n:=by simp
 have h2: ((2^m:Nat) :Int) =2^m:=by simp
 omega
theorem pow_48 {n:Nat} (h:n≤48) : (2:Int) ^n≤281474976710656:=by
 have:=pow_le' h
 simpa using this
theorem universe_ (w:World) (l:Int) :Calls Tryz.prog 209 #[.int .i64 l] w fun e w'=>e=.returned (.bool (decide (1≤l∧l≤48)))∧Below w.heap.size w w':=by
 by_cases h1:1≤l
 ·go_enter Tryz.func209,Tryz.ntmps209
  go_wp2_with fail;go_ret;exact⟨ret_bool (by simp [h1]),bE⟩
 ·go_enter Tryz.func209,Tryz.ntmps209
  go_wp2_with fail;go_ret;exact⟨ret_bool (by simp;omega),bE⟩
theorem twig_Right (w:World) (l id:Int) :Calls Tryz.prog 230 #[.int .i64 l,.int .i64 id] w fun e w'=>e=.returned (.bool (isNode l id))∧Below w.heap.size w w':=by
 by_cases h1:1≤l∧l≤48
 ·by_cases h2:1≤id
  ·obtain⟨n,rfl⟩:=Int.eq_ofNat_of_zero_le (show 0≤l by omega)
   have hp:=pow_48 (n:=n) (by omega);have hq:=pow_pos' n;have e0:isNode n id=decide (id<2*2^n):=by simp [isNode,h1,h2]
   have E0:=LH e0;have e1:decide (1≤(n:Int)∧(n:Int)≤48) =true:=by simpa using h1
   have E1:=LH e1;clear e0 e1
   go_enter Tryz.func230,Tryz.ntmps230
   go_wp2_with fail;refine(universe_ _ _).mono ?_;rintro e w1 ⟨rfl,hb1⟩;have B1:Below w.heap.size w w1:=Below.then_ bE hb1;have s1:=B1.size;rw [E1.out];go_wp2_with fail;go_ret;exact⟨ret_bool E0.out.symm,bE⟩
  ·have e0:isNode l id=false:=by simp [isNode,h2]
   have E0:=LH e0;have e1:decide (1≤l∧l≤48) =true:=by simpa using h1
   have E1:=LH e1;clear e0 e1
   go_enter Tryz.func230,Tryz.ntmps230
   go_wp2_with fail;refine(universe_ _ _).mono ?_;rintro e w1 ⟨rfl,hb1⟩;have B1:Below w.heap.size w w1:=Below.then_ bE hb1;have s1:=B1.size;rw [E1.out];go_wp2_with fail;go_ret;exact⟨ret_bool E0.out.symm,bE⟩
 ·have e0:isNode l id=false:=by simp [isNode,h1]
  have E0:=LH e0;have e1:decide (1≤l∧l≤48) =false:=by simpa using h1
  have E1:=LH e1;clear e0 e1
  go_enter Tryz.func230,Tryz.ntmps230
  go_wp2_with fail;refine(universe_ _ _).mono ?_;rintro e w1 ⟨rfl,hb1⟩;have B1:Below w.heap.size w w1:=Below.then_ bE hb1;have s1:=B1.size;rw [E1.out];go_wp2_with fail;go_ret;exact⟨ret_bool E0.out.symm,bE⟩
theorem bitLen_log (n:Nat) (h0:n≠0) (h:n<2^64) :Lib.bitLen n=n.log2+1:=by
 have:=Lib.bitLenAux_bounds 64 n h h0;have h1:2^ (Lib.bitLen n - 1)≤n:=this.2.1;have h2:n<2^Lib.bitLen n:=this.2.2;have h3:1≤Lib.bitLen n:=this.1;have h4:=Nat.log2_self_le h0;have h5:n<2^ (n.log2+1):=Nat.lt_log2_self;have h6:n.log2<Lib.bitLen n:=(Nat.pow_lt_pow_iff_right (by decide:1<2)).1 (Nat.lt_of_le_of_lt h4 h2);have h7:Lib.bitLen n - 1<n.log2+1:=(Nat.pow_lt_pow_iff_right (by decide:1<2)).1 (Nat.lt_of_le_of_lt h1 h5);omega
theorem reckon_Log (w:World) (n:Int) (hn:n≤9223372036854775807) :Calls Tryz.prog 283 #[.int .i64 n] w fun e w'=>
 e=.returned (if 1≤n then .tuple #[.int .i64 n.toNat.log2,.bool true] else .tuple #[.int .i64 0,.bool false])∧Below w.heap.size w w':=by
 by_cases h1:1≤n
 ·rw [if_pos h1]
  have hl: (Lib.bitLen n.toNat:Int) =n.toNat.log2+1:=by
   have:=bitLen_log n.toNat (by omega) (by omega);omega
  have hb:n.toNat.log2<64:=(Nat.log2_lt (by omega)).2 (by omega);have HL:=LH hl;clear hl;have h2:0≤n:=by omega
  go_enter Tryz.func283,Tryz.ntmps283
  go_wp2_with fail;refine(Tryz.bits_Len64 _ _ (by omega) (by omega)).mono ?_;rintro e w1 ⟨rfl,rfl⟩;rw [HL.out];go_wp2_with fail
  go_ret2
  exact⟨by simp,bE⟩
 ·rw [if_neg h1]
  go_enter Tryz.func283,Tryz.ntmps283
  go_wp2_with fail
  go_ret2
  exact⟨rfl,bE⟩
theorem twig_Depth (w:World) (n:Int) (hn:n≤9223372036854775807) :Calls Tryz.prog 231 #[.int .i64 n] w fun e w'=>
 e=.returned (if 1≤n then .tuple #[.int .i64 n.toNat.log2,.bool true] else .tuple #[.int .i64 0,.bool false])∧Below w.heap.size w w':=by
 by_cases h1:1≤n
 ·rw [if_pos h1]
  go_enter Tryz.func231,Tryz.ntmps231
  go_wp2_with fail;refine(reckon_Log _ n hn).mono ?_;rintro e w1 ⟨rfl,hb1⟩;have B1:Below w.heap.size w w1:=Below.then_ bE hb1;have s1:=B1.size;rw [if_pos h1];go_wp2_with fail
  go_ret2
  exact⟨rfl,bE⟩
 ·rw [if_neg h1]
  go_enter Tryz.func231,Tryz.ntmps231
  go_wp2_with fail;refine(reckon_Log _ n hn).mono ?_;rintro e w1 ⟨rfl,hb1⟩;have B1:Below w.heap.size w w1:=Below.then_ bE hb1;have s1:=B1.size;rw [if_neg (by omega)];go_wp2_with fail
  go_ret2
  exact⟨rfl,bE⟩
theorem node_facts {n x:Nat} (hn:n≤48) (h1:1≤x) (h2: (x:Int) <2*2^n) : ∃d b t:Nat,x.log2=d∧n - d=b∧d+b=n∧x=2^d+t∧t<2^d∧(t+1) *2^b≤2^n:=by
 have hx:x<2^ (n+1):=by
  have: ((2^ (n+1) :Nat) :Int) =2*2^n:=by rw [Nat.pow_succ];simp;omega
  omega
 have hd:x.log2<n+1:=(Nat.log2_lt (by omega)).2 hx;have h3:=Nat.log2_self_le (show x≠0 by omega);have h4:x<2^ (x.log2+1):=Nat.lt_log2_self;rw [Nat.pow_succ] at h4;refine⟨x.log2,n - x.log2,x - 2^x.log2,rfl,rfl,by omega,by omega,by omega,?_⟩;have h5: (x - 2^x.log2+1)≤2^x.log2:=by omega
 calc (x - 2^x.log2+1) *2^ (n - x.log2)≤2^x.log2*2^ (n - x.log2):=Nat.mul_le_mul_right _ h5
  _=2^n:=by rw [←Nat.pow_add];congr 1;omega
def endsOf (l id:Int) :Int×Int×Bool:=
 if isNode l id=true then ((id - 2^id.toNat.log2) *2^ (l.toNat - id.toNat.log2),(id - 2^id.toNat.log2) *2^ (l.toNat - id.toNat.log2) +2^ (l.toNat - id.toNat.log2) - 1,true) else (0,0,false)
def endsV (r:Int×Int×Bool) :Value:=.tuple #[.int .i64 r.1,.int .i64 r.2.1,.bool r.2.2]
theorem isNode_nat {l id:Int} (h:isNode l id=true) : ∃n x:Nat,l=n∧id=x∧1≤n∧n≤48∧1≤x∧(x:Int) <2*2^n:=by
 simp only [isNode,decide_eq_true_eq] at h;obtain⟨⟨h1,h2⟩,h3,h4⟩:=h;obtain⟨n,rfl⟩:=Int.eq_ofNat_of_zero_le (show 0≤l by omega);obtain⟨x,rfl⟩:=Int.eq_ofNat_of_zero_le (show 0≤id by omega);exact⟨n,x,rfl,rfl,by omega,by omega,by omega,by simpa using h4⟩
theorem twig_Ends (w:World) (l id:Int) (hid:id≤9223372036854775807) :Calls Tryz.prog 188 #[.int .i64 l,.int .i64 id] w fun e w'=>e=.returned (endsV (endsOf l id))∧Below w.heap.size w w':=by
 cases hN:isNode l id
 ·have e1:endsOf l id= (0,0,false):=by simp [endsOf,hN]
  rw [e1];have E1:=LH hN;clear e1 hN
  go_enter Tryz.func188,Tryz.ntmps188
  go_wp2_with fail;refine(twig_Right _ l id).mono ?_;rintro e w1 ⟨rfl,hb1⟩;have B1:Below w.heap.size w w1:=Below.then_ bE hb1;have s1:=B1.size;rw [E1.out];go_wp2_with fail
  go_ret3
  exact⟨rfl,bE⟩
 ·obtain⟨n,x,rfl,rfl,hn1,hn2,hx1,hx2⟩:=isNode_nat hN
  obtain⟨d,b,t,hd,hb,hdb,hxt,htd,hprod⟩:=node_facts hn2 hx1 hx2
  have e1:endsOf n x= ((t:Int) *2^b,(t:Int) *2^b+2^b - 1,true):=by
   simp only [endsOf,hN,if_true,Int.toNat_natCast,hd,hb];have: (x:Int) - 2^d=t:=by rw [hxt];push_cast;omega
   rw [this]
  rw [e1];have E1:=LH hN;have E2:=LH hd;have q1: (n:Int) - (d:Int) = (b:Int):=by omega
  have q2: (x:Int) - 2^d= (t:Int):=by rw [hxt];push_cast;omega
  have q3:=pow_pos' b;have q4:=pow_48 (n:=b) (by omega);have q5:=pow_48 (n:=n) hn2;have q6:=pow_48 (n:=d) (by omega);have q7:=pow_pos' d
  have q8: (t:Int) *2^b+2^b≤2^n:=by
   have h: (((t+1) *2^b:Nat) :Int)≤((2^n:Nat) :Int):=by exact_mod_cast hprod
   push_cast at h
   rw [Int.add_mul,Int.one_mul] at h;exact h
  have q9:0≤(t:Int) *2^b:=Int.mul_nonneg (by omega) (by omega);have q10: (x:Int)≤562949953421312:=by omega
  have Q:=LH (And.intro hxt (And.intro htd hprod));clear e1 hN hd hb hxt htd hprod hx2
  go_enter Tryz.func188,Tryz.ntmps188
  go_wp2_with fail;refine(twig_Right _ n x).mono ?_;rintro e w1 ⟨rfl,hb1⟩;have B1:Below w.heap.size w w1:=Below.then_ bE hb1;have s1:=B1.size;rw [E1.out];go_wp2_with fail;refine(twig_Depth _ x (by omega)).mono ?_;rintro e w2 ⟨rfl,hb2⟩;have B2:Below w.heap.size w w2:=Below.then_ bE hb2;have s2:=B2.size;rw [if_pos (by omega)];simp only [Int.toNat_natCast,E2.out];go_wp2_with fail;refine rX (by kernel_rfl) (by kernel_rfl) ?_
  repeat (go_big_quiet_step (fail))
  refine wpQuiet_nil ?_;intro w3 hb3;replace hb3:=bX hb3;have B3:Below w.heap.size w w3:=Below.then_ bE hb3;have s3:=B3.size;go_wp2_with fail
  go_ret3
  exact⟨rfl,bE⟩
def kidsOf (l id:Int) :Int×Int×Bool:=if isNode l id=true∧id<2^l.toNat then (2*id,2*id+1,true) else (0,0,false)
theorem twig_Kids (w:World) (l id:Int) :Calls Tryz.prog 311 #[.int .i64 l,.int .i64 id] w fun e w'=>e=.returned (endsV (kidsOf l id))∧Below w.heap.size w w':=by
 cases hN:isNode l id
 ·have e1:kidsOf l id= (0,0,false):=by simp [kidsOf,hN]
  rw [e1];have E1:=LH hN;clear e1 hN
  go_enter Tryz.func311,Tryz.ntmps311
  go_wp2_with fail;refine(twig_Right _ l id).mono ?_;rintro e w1 ⟨rfl,hb1⟩;have B1:Below w.heap.size w w1:=Below.then_ bE hb1;have s1:=B1.size;rw [E1.out];go_wp2_with fail
  go_ret3
  exact⟨rfl,bE⟩
 ·obtain⟨n,x,rfl,rfl,hn1,hn2,hx1,hx2⟩:=isNode_nat hN
  have q5:=pow_48 (n:=n) hn2;have q6:=pow_pos' n;have E1:=LH hN;have q7: (x:Int)≤562949953421312:=by omega
  by_cases hk: (x:Int) <2^n
  ·have e1:kidsOf n x= (2* (x:Int),2* (x:Int) +1,true):=by simp [kidsOf,hN,hk]
   rw [e1];clear e1 hN hx2
   go_enter Tryz.func311,Tryz.ntmps311
   go_wp2_with fail;refine(twig_Right _ n x).mono ?_;rintro e w1 ⟨rfl,hb1⟩;have B1:Below w.heap.size w w1:=Below.then_ bE hb1;have s1:=B1.size;rw [E1.out];go_wp2_with fail
   go_ret3
   exact⟨rfl,bE⟩
  ·have e1:kidsOf n x= (0,0,false):=by
    simp only [kidsOf];rw [if_neg];intro h;exact hk (by simpa using h.2)
   rw [e1];clear e1 hN hx2
   go_enter Tryz.func311,Tryz.ntmps311
   go_wp2_with fail;refine(twig_Right _ n x).mono ?_;rintro e w1 ⟨rfl,hb1⟩;have B1:Below w.heap.size w w1:=Below.then_ bE hb1;have s1:=B1.size;rw [E1.out];go_wp2_with fail
   go_ret3
   exact⟨rfl,bE⟩
theorem reckon_counts (w:World) (a b:Int) :Calls Tryz.prog 307 #[.int .i64 a,.int .i64 b] w fun e w'=>e=.returned (.bool (decide (0≤a∧0≤b)))∧Below w.heap.size w w':=by
 by_cases h1:0≤a
 ·go_enter Tryz.func307,Tryz.ntmps307
  go_wp2_with fail;go_ret;exact⟨ret_bool (by simp [h1]),bE⟩
 ·go_enter Tryz.func307,Tryz.ntmps307
  go_wp2_with fail;go_ret;exact⟨ret_bool (by simp;omega),bE⟩
def addOf (a b:Int) :Int×Bool:=if 0≤a∧0≤b∧a+b≤9223372036854775807 then (a+b,true) else (0,false)
def okV (r:Int×Bool) :Value:=.tuple #[.int .i64 r.1,.bool r.2]
theorem reckon_Add (w:World) (a b:Int) (ha:a≤9223372036854775807) (hb:b≤9223372036854775807) :Calls Tryz.prog 264 #[.int .i64 a,.int .i64 b] w fun e w'=>e=.returned (okV (addOf a b))∧Below w.heap.size w w':=by
 by_cases h1:0≤a∧0≤b
 ·have E1:=LH (show decide (0≤a∧0≤b) =true by simpa using h1)
  obtain⟨h1,h2⟩:=h1;by_cases h3:9223372036854775807 - b<a
  ·have e1:addOf a b= (0,false):=by simp only [addOf];rw [if_neg (by omega)]
   rw [e1];clear e1
   go_enter Tryz.func264,Tryz.ntmps264
   go_wp2_with fail;refine(reckon_counts _ a b).mono ?_;rintro e w1 ⟨rfl,hb1⟩;have B1:Below w.heap.size w w1:=Below.then_ bE hb1;have s1:=B1.size;rw [E1.out];go_wp2_with fail
   go_ret2
   exact⟨rfl,bE⟩
  ·have e1:addOf a b= (a+b,true):=by simp only [addOf];rw [if_pos (by omega)]
   rw [e1];clear e1
   go_enter Tryz.func264,Tryz.ntmps264
   go_wp2_with fail;refine(reckon_counts _ a b).mono ?_;rintro e w1 ⟨rfl,hb1⟩;have B1:Below w.heap.size w w1:=Below.then_ bE hb1;have s1:=B1.size;rw [E1.out];go_wp2_with fail
   go_ret2
   exact⟨rfl,bE⟩
 ·have E1:=LH (show decide (0≤a∧0≤b) =false by simpa using h1)
  have e1:addOf a b= (0,false):=by simp only [addOf];rw [if_neg (by omega)]
  rw [e1];clear e1 h1
  go_enter Tryz.func264,Tryz.ntmps264
  go_wp2_with fail;refine(reckon_counts _ a b).mono ?_;rintro e w1 ⟨rfl,hb1⟩;have B1:Below w.heap.size w w1:=Below.then_ bE hb1;have s1:=B1.size;rw [E1.out];go_wp2_with fail
  go_ret2
  exact⟨rfl,bE⟩
def divOf (a b:Int) :Int×Bool:=if a<0∨b<1 then (0,false) else (a / b,true)
theorem reckon_Div (w:World) (a b:Int) (ha:a≤9223372036854775807) (hb:b≤9223372036854775807) :Calls Tryz.prog 319 #[.int .i64 a,.int .i64 b] w fun e w'=>e=.returned (okV (divOf a b))∧Below w.heap.size w w':=by
 by_cases h1:a<0
 ·have e1:divOf a b= (0,false):=by simp only [divOf];rw [if_pos (by omega)]
  rw [e1];clear e1
  go_enter Tryz.func319,Tryz.ntmps319
  go_wp2_with fail
  go_ret2
  exact⟨rfl,bE⟩
 ·by_cases h2:b<1
  ·have e1:divOf a b= (0,false):=by simp only [divOf];rw [if_pos (by omega)]
   rw [e1];clear e1
   go_enter Tryz.func319,Tryz.ntmps319
   go_wp2_with fail
   go_ret2
   exact⟨rfl,bE⟩
  ·have e1:divOf a b= (a / b,true):=by simp only [divOf];rw [if_neg (by omega)]
   rw [e1];clear e1;have q1:0≤a / b:=Int.ediv_nonneg (by omega) (by omega);have q2:a / b≤a:=Int.ediv_le_self _ (by omega)
   go_enter Tryz.func319,Tryz.ntmps319
   go_wp2_with fail;unfold okV
   go_ret2
   exact⟨rfl,bE⟩
structure Enc (α:Type) (size:Nat) where
 enc:α→List Value
 len: ∀x,(enc x).length=size
 one: ∀x,∀u∈enc x,u.oneCell'=true
def Sl {α:Type} {size:Nat} (w:World) (B:Nat) (E:Enc α size) (A:Option Addr) (l:List α) :Prop:=
 l= []∨∃b off,A=some ⟨b,off,none⟩∧b<B∧∀i x,l[i]? =some x→∀j u,(E.enc x)[j]? =some u→w.cell? ⟨b,off+i*size+j,none⟩ =some u
theorem add_plain (g o k:Nat) : (⟨g,o,none⟩ :Addr).add k= ⟨g,o+k,none⟩:=by
 unfold Addr.add
 split
 ·rename_i h;subst h;rfl
 ·rfl
theorem Sl.nil {α:Type} {size:Nat} {w:World} {B:Nat} {E:Enc α size} {A:Option Addr} :Sl w B E A []:=.inl rfl
theorem Sl.keep {α:Type} {size:Nat} {w w':World} {B B':Nat} {E:Enc α size} {A:Option Addr} {l:List α} (h:Sl w B E A l) (hB:B≤B')
 (hk: ∀p:Addr,p.block<B→w'.cell? p=w.cell? p) :Sl w' B' E A l:=by
 rcases h with h| ⟨b,off,hA,hb,hc⟩
 ·exact .inl h
 ·exact .inr ⟨b,off,hA,Nat.lt_of_lt_of_le hb hB,fun i x hi j u hj=>(hk ⟨b,_,none⟩ hb).trans (hc i x hi j u hj)⟩
theorem Sl.drew {α:Type} {size:Nat} {w:World} {B:Nat} {E:Enc α size} {A:Option Addr} {l:List α} (h:Sl w B E A l) :Sl w.drew B E A l:=h
theorem Sl.below {α:Type} {size:Nat} {w w':World} {B:Nat} {E:Enc α size} {A:Option Addr} {l:List α} (h:Sl w B E A l) (hb:Below B w w') :Sl w' B E A l:=
 h.keep (Nat.le_refl _) fun _ hp=>hb.cell hp
theorem Sl.at_ {α:Type} {size:Nat} {w:World} {B:Nat} {E:Enc α size} {A:Option Addr} {l:List α} (h:Sl w B E A l) {k:Nat} (hk:k<l.length) :
 ∃b off,A=some ⟨b,off,none⟩∧b<B∧∀j u,(E.enc l[k])[j]? =some u→w.cell? ⟨b,off+k*size+j,none⟩ =some u:=by
 rcases h with h| ⟨b,off,hA,hb,hc⟩
 ·subst h;simp at hk
 ·exact⟨b,off,hA,hb,fun j u hj=>hc k _ (List.getElem?_eq_getElem hk) j u hj⟩
def Own {α:Type} {size:Nat} (w:World) (base:Nat) (e:TypeId) (E:Enc α size) (v:Value) (l:List α) :Prop:=
 (v=.slice none 0 0∧l= [])∨
 ∃g off cap cur,v=.slice (some ⟨g,off,none⟩) l.length cap∧base≤g∧w.heap[g]? =some (.cells cur e (0,0))∧l.length≤cap∧cap≤maxLen∧off+cap*size≤cur.size∧
  ∀j u,(l.flatMap E.enc)[j]? =some u→cur[off+j]? =some u
theorem flat_len {α:Type} {size:Nat} (E:Enc α size) (l:List α) : (l.flatMap E.enc).length=l.length*size:=by
 induction l with
 |nil=>simp
 |cons x l ih=>simp [ih,E.len,Nat.add_mul,Nat.add_comm]
theorem flat_get {α:Type} {size:Nat} (E:Enc α size) (l:List α) (i j:Nat) (x:α) (u:Value) (hi:l[i]? =some x) (hj: (E.enc x)[j]? =some u) :
 (l.flatMap E.enc)[i*size+j]? =some u:=by
 induction l generalizing i with
 |nil=>simp at hi
 |cons y l ih=>
  have hl:=E.len y
  cases i with
  |zero=>
   simp at hi;subst hi
   have hlt:j< (E.enc y).length:=(List.getElem?_eq_some_iff.1 hj).1;rw [List.flatMap_cons,Nat.zero_mul,Nat.zero_add,List.getElem?_append_left hlt];exact hj
  |succ i=>
   simp at hi
   have:=ih i hi;rw [List.flatMap_cons,List.getElem?_append_right (by rw [hl,Nat.add_mul];omega),hl];rw [←this]
   congr 1
   rw [Nat.add_mul];omega
theorem flat_inv {α:Type} {size:Nat} (E:Enc α size) (l:List α) (j:Nat) (u:Value) (h: (l.flatMap E.enc)[j]? =some u) : ∃k x q,l[k]? =some x∧(E.enc x)[q]? =some u∧j=k*size+q:=by
 induction l generalizing j with
 |nil=>simp at h
 |cons y l ih=>
  have hl:=E.len y;rw [List.flatMap_cons] at h;by_cases hlt:j< (E.enc y).length
  ·rw [List.getElem?_append_left hlt] at h
   exact⟨0,y,j,rfl,h,by omega⟩
  ·rw [List.getElem?_append_right (by omega),hl] at h
   obtain⟨k,x,q,hk,hq,hj⟩:=ih _ h;exact⟨k+1,x,q,by simpa using hk,hq,by rw [Nat.add_mul];omega⟩
theorem grownBy_of_below {a w:World} (h:Below a.heap.size a w) (row:Option Nat) :a.grownBy w row:=⟨h.os,h.tape,h.output,h.size,fun i hi _=>h.block i hi⟩
section
variable {α β:Type} {size s1 s2:Nat} {w w':World} {base e e1 e2:Nat} {E:Enc α size} {v:Value} {l:List α}
theorem lB {g:Nat} {o:Obj} (h:w.heap[g]? =some o) :g<w.heap.size:=by
 rcases Nat.lt_or_ge g w.heap.size with hlt|hge
 ·exact hlt
 ·rw [Array.getElem?_eq_none hge] at h;cases h
theorem Own.nil (w:World) (base:Nat) (e:TypeId) (E:Enc α size) :Own w base e E (.slice none 0 0) []:=.inl ⟨rfl,rfl⟩
theorem Own.of_block (h:Own w base e E v l) (hb: ∀g,v.ownBlock=some g→w'.heap[g]? =w.heap[g]?) :Own w' base e E v l:=by
 rcases h with h| ⟨g,off,cap,cur,rfl,hg,hh,r⟩
 ·exact .inl h
 ·exact .inr ⟨g,off,cap,cur,rfl,hg,(hb g rfl).trans hh,r⟩
theorem Own.lt (h:Own w base e E v l) : ∀k,v.ownBlock=some k→base≤k∧k<w.heap.size:=by
 intro k hk;rcases h with ⟨rfl,_⟩ | ⟨g,off,cap,cur,rfl,hg,hh,r⟩
 ·cases hk
 ·have:g=k:=by simpa [Value.ownBlock] using hk
  subst this;exact⟨hg,lB hh⟩
theorem Own.alloc (h:Own w base e E v l) (o:Obj) :Own (w.alloc o) base e E v l:=h.of_block fun g hg=>Below.heap_alloc w o g (h.lt g hg).2
theorem Own.drew (h:Own w base e E v l) :Own w.drew base e E v l:=h
theorem Own.kept {row:Option Nat} (h:Own w base e E v l) (hg:w.grownBy w' row) (hne:v.ownBlock=none∨v.ownBlock≠row) :Own w' base e E v l:=
 h.of_block fun g hv=>hg.block g (h.lt g hv).2 (by
  rcases hne with hne|hne
  ·rw [hv] at hne;cases hne
  ·rw [←hv];exact hne)
theorem Own.below (h:Own w base e E v l) (hb:Below w.heap.size w w') :Own w' base e E v l:=h.of_block fun g hv=>hb.block g (h.lt g hv).2
theorem Own.setCell (h:Own w base e E v l) {p:Addr} (hp:v.ownBlock≠some p.block) (u:Value) :Own (w.setCell p u) base e E v l:=
 h.of_block fun g hv=>Below.heap_setCell _ _ _ _ (fun he=>hp (by rw [hv,he]))
theorem Own.base_le (h:Own w base e E v l) {b:Nat} (hb:b≤base) :Own w b e E v l:=by
 rcases h with h| ⟨g,off,cap,cur,hv,hg,r⟩
 ·exact .inl h
 ·exact .inr ⟨g,off,cap,cur,hv,Nat.le_trans hb hg,r⟩
theorem Own.form (h:Own w base e E v l) :
 ∃A cap,v=.slice A l.length cap∧l.length≤cap∧cap≤maxLen∧Sl w w.heap.size E A l∧(A=none∨∃g off,A=some ⟨g,off,none⟩∧base≤g):=by
 rcases h with ⟨rfl,rfl⟩ | ⟨g,off,cap,cur,rfl,hg,hh,h1,h2,h3,h4⟩
 ·exact⟨none,0,rfl,by simp,by simp,.nil,.inl rfl⟩
 ·refine⟨some ⟨g,off,none⟩,cap,rfl,h1,h2,.inr ⟨g,off,rfl,lB hh,fun i x hi j u hj=> ?_⟩,.inr ⟨g,off,rfl,hg⟩⟩
  rw [cell_of_row _ _ _ _ _ _ hh,Nat.add_assoc];exact h4 _ u (flat_get E l i j x u hi hj)
theorem Own.not_at (h:Own w base e E v l) (b:Nat) (hb:w.heap.size≤b) :v.ownBlock≠some b:=fun he=>by
 have:=(h.lt b he).2;omega
theorem own_ne {E1:Enc α s1} {E2:Enc β s2} {v1 v2:Value} {l1:List α} {l2:List β} {b1 b2:Nat} (h1:Own w b1 e1 E1 v1 l1) (h2:Own w b2 e2 E2 v2 l2) (hne:e1≠e2) :
 v1.ownBlock=none∨v1.ownBlock≠v2.ownBlock:=by
 rcases h1 with ⟨rfl,_⟩ | ⟨g1,o1,c1,u1,rfl,_,hh1,_⟩
 ·exact .inl rfl
 ·right
  rcases h2 with ⟨rfl,_⟩ | ⟨g2,o2,c2,u2,rfl,_,hh2,_⟩
  ·simp [Value.ownBlock]
  ·intro he
   have:g1=g2:=by simpa [Value.ownBlock] using he
   subst this;rw [hh1] at hh2
   injection hh2 with hh2
   injection hh2 with _ ht
   exact hne ht
theorem Own.ne_block (h:Own w base e E v l) {g t:Nat} {cs:Array Value} {fr:Nat×Nat} (hb:w.heap[g]? =some (.cells cs t fr)) (hne:e≠t) :v.ownBlock≠some g:=by
 rcases h with ⟨rfl,_⟩ | ⟨g1,o1,c1,u1,rfl,_,hh1,_⟩
 ·simp [Value.ownBlock]
 ·intro he
  have:g1=g:=by simpa [Value.ownBlock] using he
  subst this;rw [hh1] at hb
  injection hb with hb
  injection hb with _ ht
  exact hne ht
theorem Own.lit (W:World) (E:Enc α size) (l:List α) (e:TypeId) (hb:base≤W.heap.size) (hm:l.length≤maxLen) :
 Own (W.alloc (.cells (l.flatMap E.enc).toArray e)) base e E (.slice (some ⟨W.heap.size,0,none⟩) l.length l.length) l:=
 .inr ⟨W.heap.size,0,l.length,_,rfl,hb,heap_alloc_new W _,Nat.le_refl _,hm,by rw [List.size_toArray,flat_len];omega,fun j u hj=>by simpa using hj⟩
theorem Own.cut {A:Option Addr} {n cap:Nat} (h:Own w base e E (.slice A n cap) l) {lo hi mx:Nat} (h1:lo≤hi) (h2:hi≤l.length) (h3:hi≤mx) (h4:mx≤cap) :
 Own w base e E (.slice (if mx=lo then A else A.map (·.add (lo*size))) (hi - lo) (mx - lo)) ((l.take hi).drop lo):=by
 rcases h with ⟨hv,rfl⟩ | ⟨g,off,cap',cur,hv,hg,hh,k1,k2,k3,k4⟩
 ·cases hv
  have e1:hi=0:=by simpa using h2
  have e2:mx=0:=by omega
  have e3:lo=0:=by omega
  subst e1 e2 e3;exact .inl ⟨by simp,by simp⟩
 ·cases hv
  have hlen: ((l.take hi).drop lo).length=hi - lo:=by simp;omega
  have hcell: ∀j u,(((l.take hi).drop lo).flatMap E.enc)[j]? =some u→cur[off+lo*size+j]? =some u:=by
   intro j u hj
   have e1:l.flatMap E.enc= (l.take lo).flatMap E.enc ++ (((l.take hi).drop lo).flatMap E.enc ++ (l.drop hi).flatMap E.enc):=by
    rw [←List.flatMap_append,←List.flatMap_append]
    congr 1
    have e2:l.take lo= (l.take hi).take lo:=by rw [List.take_take];congr 1;omega
    rw [←List.append_assoc,e2,List.take_append_drop,List.take_append_drop]
   have:=k4 (lo*size+j) u (by
    rw [e1,List.getElem?_append_right (by rw [flat_len,List.length_take];rw [Nat.min_eq_left (by omega)];omega),flat_len,List.length_take,Nat.min_eq_left (by omega)];rw [show lo*size+j - lo*size=j by omega,List.getElem?_append_left (List.getElem?_eq_some_iff.1 hj).1];exact hj)
   rwa [←Nat.add_assoc] at this
  by_cases hml:mx=lo
  ·have:hi=lo:=by omega
   subst hml this;rw [if_pos rfl];refine .inr ⟨g,off,0,cur,by rw [hlen];simp,hg,hh,by rw [hlen];simp,by simp,?_,fun j u hj=> ?_⟩
   ·have:=Nat.le_trans (Nat.le_add_right off (cap*size)) k3
    simpa using this
   ·have: (l.take hi).drop hi= []:=List.eq_nil_of_length_eq_zero (by rw [hlen];simp)
    rw [this] at hj;simp at hj
  ·rw [if_neg hml]
   refine .inr ⟨g,off+lo*size,mx - lo,cur,by rw [hlen];simp [add_plain],hg,hh,by rw [hlen];omega,by omega,?_,hcell⟩;have:lo*size+ (mx - lo) *size≤cap*size:=by rw [←Nat.add_mul];exact Nat.mul_le_mul_right _ (by omega)
   omega
end
theorem grown_cell {w w':World} {row:Option Nat} (hg:w.grownBy w' row) (b:Nat) (hb:b<w.heap.size) (hne:row≠some b) (o:Nat) :w'.cell? ⟨b,o,none⟩ =w.cell? ⟨b,o,none⟩:=
 hg.cell_far ⟨b,o,none⟩ hb (Ne.symm hne)
theorem grown_frozen {w w':World} {row:Option Nat} (hg:w.grownBy w' row) (b:Nat) (hb:b<w.heap.size) (hne:row≠some b) (o:Nat) :w'.frozen? ⟨b,o,none⟩ =w.frozen? ⟨b,o,none⟩:=
 hg.frozen_far ⟨b,o,none⟩ hb (Ne.symm hne)
structure SliceTy (P:Program) (t e:TypeId) (size bytes:Nat) (z:Value) :Prop where
 ht:P.underlying t=some (.slice e)
 hinfo: (P.info? e).map (fun i=>(i.zero,i.size,i.bytes)) =some (some z,size,bytes)
 hzs:z.cells.size=size
 hsz:0<size
theorem flat_one {α:Type} {size:Nat} (E:Enc α size) (l:List α) : ∀u∈l.flatMap E.enc,u.oneCell'=true:=by
 intro u hu;obtain⟨x,_,hx⟩:=List.mem_flatMap.1 hu;exact E.one x u hx
section
variable {P:Program} {t e:TypeId} {size bytes:Nat} {z:Value} {α:Type} {E:Enc α size}
theorem app_run (T:SliceTy P t e size bytes z) (ty:TypeId) (W:World) (base:Nat) (v:Value) (l:List α) (hown:Own W base e E v l) (A:Option Addr) (c:Nat) (l2:List α) (B:Nat) (hsrc:Sl W B E A l2)
 (hn: (l.length+l2.length) *bytes≤140737488355328) (hm:l.length+l2.length≤maxLen) (hbase:base≤W.heap.size) :
 ∃v' w',(Builtin.append_ #[t,t] ty #[v,.slice A l2.length c]).run P W=.ok v' w'∧Own w' base e E v' (l ++ l2)∧W.grownBy w' v.ownBlock∧
  (v'.ownBlock=v.ownBlock∨v'.ownBlock=some W.heap.size)∧(l2≠ []→v'≠.slice none 0 0):=by
 obtain⟨i,hi,e1⟩:=Option.map_eq_some_iff.1 T.hinfo;simp only [Prod.mk.injEq] at e1;obtain⟨hz,hsize,hby⟩:=e1;subst hsize hby;have ht:=T.ht;have h63:l.length+l2.length≤9223372036854775807:=by simp only [maxLen] at hm;omega
 rcases hl2:l2 with _| ⟨y,l3⟩
 ·-- nothing is appended
  subst hl2
  have h0: (Builtin.append_ #[t,t] ty #[v,.slice A ([] :List α).length c]).run P W=.ok v W:=by
   have hfirst: ∀k,(Builtin.firstCells k 0 (.slice A 0 c)).run P W=.ok #[] W:=by
    intro k
    cases A with
    |none=>simp [Builtin.firstCells]
    |some a=>simp [Builtin.firstCells,loadCells,loadCellsFrom]
   rcases hown with ⟨rfl,_⟩ | ⟨g,off,cap,cur,rfl,_,_,hlc,_⟩
   ·simp [Builtin.append_,run_underlying ht,sizeOf,typeInfo,hi,Builtin.lenOf,hfirst]
   ·simp [Builtin.append_,run_underlying ht,sizeOf,typeInfo,hi,Builtin.lenOf,hfirst,hlc,storeCells]
  refine⟨v,W,h0,by simpa using hown,⟨rfl,rfl,rfl,Nat.le_refl _,fun _ _ _=>rfl⟩,.inl rfl,fun h=>absurd rfl h⟩
 ·rw [←hl2]
  have hne:0<l2.length:=by rw [hl2];simp
  obtain⟨b,o,rfl,hb,hc⟩ : ∃b off,A=some ⟨b,off,none⟩∧b<B∧∀k x,l2[k]? =some x→∀j u,(E.enc x)[j]? =some u→W.cell? ⟨b,off+k*i.size+j,none⟩ =some u:=by
   rcases hsrc with h|h
   ·rw [h] at hne;simp at hne
   ·exact h
  have hl: (l2.flatMap E.enc).length=l2.length*i.size:=flat_len E l2
  have hnews: ∀j u,(l2.flatMap E.enc)[j]? =some u→W.cell? ((⟨b,o,none⟩ :Addr).add j) =some u:=by
   intro j u hj;obtain⟨k,x,q,hk,hq,hjk⟩:=flat_inv E l2 j u hj;have:=hc k x hk q u hq;rw [add_plain,hjk,←Nat.add_assoc];exact this
  have grown: ∀(old:Nat),old<l.length+l2.length→
   Own (W.drew.alloc (.cells ((l.flatMap E.enc).toArray ++ (l2.flatMap E.enc).toArray ++ Builtin.zeroCells z.cells (grownCap W (l.length+l2.length) old e - (l.length+l2.length))) e)) base e E
    (.slice (some ⟨W.heap.size,0,none⟩) (l.length+l2.length) (grownCap W (l.length+l2.length) old e)) (l ++ l2):=by
   intro old ho;have hge:=grownCap_ge W (l.length+l2.length) old e;refine .inr ⟨W.heap.size,0,_,_,by rw [List.length_append],hbase,heap_alloc_new W.drew _,by rw [List.length_append];exact hge,grownCap_le_maxLen W _ old e hm,?_,fun j u hj=> ?_⟩
   ·simp only [Array.size_append,List.size_toArray,size_zeroCells,T.hzs,flat_len,←Nat.add_mul]
    refine Nat.le_of_eq ?_;rw [Nat.zero_add]
    congr 1
    omega
   ·have hlt:=(List.getElem?_eq_some_iff.1 hj).1
    rw [List.flatMap_append] at hj hlt;rw [Nat.zero_add,Array.getElem?_append_left (by simpa using hlt)]
    simpa using hj
  have gfr: ∀(cs:Array Value) (row:Option Nat),W.grownBy (W.drew.alloc (.cells cs e)) row:=fun cs row=>⟨rfl,rfl,rfl,by simp,fun k hk _=>heap_alloc_old W.drew _ hk⟩;rcases hown with ⟨rfl,rfl⟩ | ⟨g,off,cap,cur,rfl,hbg,hg,hnc,hcm,hcs,hcur⟩
  ·have hr:=run_append_nil (P:=P) W t ty e i z ht hi hz ⟨b,o,none⟩ l2.length c _ hl hnews hne (by omega) (by have hb:=hn;simp only [List.length_nil,Nat.zero_add] at hb;omega)
   have hgr:=grown 0 (by simpa using hne);simp only [List.length_nil,Nat.zero_add,List.nil_append,List.flatMap_nil] at hgr⊢;refine⟨_,_,hr,?_,gfr _ _,.inr rfl,fun _=>by simp⟩
   simpa using hgr
  ·by_cases hroom:l.length+l2.length≤cap
   ·have hfit:off+l.length*i.size+ (l2.flatMap E.enc).length≤cur.size:=by
     have:=Nat.mul_le_mul_right i.size hroom;rw [Nat.add_mul] at this;rw [hl];omega
    have hf:=run_firstCells_some (P:=P) W i.size l2.length ⟨b,o,none⟩ l2.length c _ hl hnews;have hst:=run_storeCells_at P g (off+l.length*i.size) e (l2.flatMap E.enc) 0 cur W hg (by simpa using hfit) (flat_one E l2);simp only [Nat.add_zero] at hst
    have hr: (Builtin.append_ #[t,t] ty #[.slice (some ⟨g,off,none⟩) l.length cap,.slice (some ⟨b,o,none⟩) l2.length c]).run P W=
     .ok (.slice (some ⟨g,off,none⟩) (l.length+l2.length) cap) (W.setRow g (cur.toList.take (off+l.length*i.size) ++ l2.flatMap E.enc ++ cur.toList.drop (off+l.length*i.size+ (l2.flatMap E.enc).length)).toArray):=by
     simp [Builtin.append_,run_underlying ht,sizeOf,typeInfo,hi,Builtin.lenOf,hroom,hf,add_plain,hst]
    refine⟨_,_,hr,.inr ⟨g,off,cap,_,by rw [List.length_append],hbg,setRow_heap W g cur _ e _ hg,by rw [List.length_append];exact hroom,hcm,?_,fun j u hj=> ?_⟩,
     ⟨rfl,rfl,rfl,by simp,fun k _ hk=>setRow_other W g k _ (fun e=>hk (by simp [Value.ownBlock,e]))⟩,.inl rfl,fun _=>by simp⟩
    ·simp only [List.size_toArray,List.length_append,List.length_take,List.length_drop,Array.length_toList]
     omega
    ·rw [List.flatMap_append] at hj
     have hlen1: (l.flatMap E.enc).length=l.length*i.size:=flat_len E l;rw [List.getElem?_toArray];by_cases hj1:j< (l.flatMap E.enc).length
     ·rw [List.getElem?_append_left hj1] at hj
      have h4:=hcur j u hj;rw [List.append_assoc,List.getElem?_append_left (by simp only [List.length_take,Array.length_toList];omega),List.getElem?_take_of_lt (by omega),Array.getElem?_toList];exact h4
     ·rw [List.getElem?_append_right (by omega)] at hj
      have hj2:=(List.getElem?_eq_some_iff.1 hj).1;rw [List.append_assoc,List.getElem?_append_right (by simp only [List.length_take,Array.length_toList];omega),List.getElem?_append_left (by simp only [List.length_take,Array.length_toList];omega)];rw [←hj]
      congr 1
      simp only [List.length_take,Array.length_toList];omega
   ·have holds: ∀j u,(l.flatMap E.enc)[j]? =some u→W.cell? ((⟨g,off,none⟩ :Addr).add j) =some u:=by
     intro j u hj;rw [add_plain,cell_of_row _ _ _ _ _ _ hg];exact hcur j u hj
    have hr:=run_append_grow (P:=P) W t ty e i z ht hi hz ⟨g,off,none⟩ l.length cap _ (flat_len E l) holds ⟨b,o,none⟩ l2.length c _ hl hnews (by omega) (by omega) (growslice_fits (by omega) hn);exact⟨_,_,hr,grown cap (by omega),gfr _ _,.inr rfl,fun _=>by simp⟩
theorem wpList_app {w:World} {ops:Array Oper} {rest:List Oper} {o:Oper} {a:Act} {Q:Exit→Act→World→Prop} (T:SliceTy P t e size bytes z) (hgd:o.guard=none) (s x:Operand)
 (ho:o.op=.call {callee:=.builtin .append,args:= #[s,x],argTypes:= #[t,t]}) (E:Enc α size) (base:Nat) (v:Value) (l:List α) (hs:a.eval s=v) (hown:Own w base e E v l)
 (A:Option Addr) (c:Nat) (l2:List α) (B:Nat) (hx:a.eval x=.slice A l2.length c) (hsrc:Sl w B E A l2) (hn: (l.length+l2.length) *bytes≤140737488355328) (hm:l.length+l2.length≤maxLen) (hbase:base≤w.heap.size)
 (h: ∀v' w',Own w' base e E v' (l ++ l2)→w.grownBy w' v.ownBlock→(v'.ownBlock=v.ownBlock∨v'.ownBlock=some w.heap.size)→Below base w w'→(l2≠ []→v'≠.slice none 0 0)→
   wpList P ops Q rest (a.put o.dst v') w') :wpList P ops Q (o :: rest) a w:=by
 refine wpList_plain hgd fun K hK=> ?_;obtain⟨v',w',hr,h2,h3,h4,h5⟩:=app_run T o.type w base v l hown A c l2 B hsrc hn hm hbase;unfold Oper.wp execOp;simp only [ho,resolve,invoke,builtin,Sem.run_bind,Sem.run_pure,Result.andThen_ok,List.map_toArray,List.map_cons,List.map_nil,hs,hx,hr];exact hK _ _ (h v' w' h2 h3 h4 ((Below.refl base w).grown h3 hbase fun k hk=>(hown.lt k hk).1) h5)
theorem step_app {w:World} {ops:Array Oper} {o:Oper} {a:Act} {K:Act→World→Prop} {Q:Exit→Act→World→Prop} {F:Prop} (T:SliceTy P t e size bytes z) (hgd:o.guard=none) (s x:Operand)
 (ho:o.op=.call {callee:=.builtin .append,args:= #[s,x],argTypes:= #[t,t]}) (E:Enc α size) (base:Nat) (v:Value) (l:List α) (hs:a.eval s=v) (hown:Own w base e E v l)
 (A:Option Addr) (c:Nat) (l2:List α) (B:Nat) (hx:a.eval x=.slice A l2.length c) (hsrc:Sl w B E A l2) (hn: (l.length+l2.length) *bytes≤140737488355328) (hm:l.length+l2.length≤maxLen) (hbase:base≤w.heap.size)
 (h: ∀v' w',Own w' base e E v' (l ++ l2)→w.grownBy w' v.ownBlock→(v'.ownBlock=v.ownBlock∨v'.ownBlock=some w.heap.size)→Below base w w'→(l2≠ []→v'≠.slice none 0 0)→K (a.put o.dst v') w') :
 if Region.wanted o (yielded ops a.tmps) =true then Oper.wp P o a w K Q else F:=by
 have hw:Region.wanted o (yielded ops a.tmps) =true:=by simp [Region.wanted,hgd]
 rw [if_pos hw];obtain⟨v',w',hr,h2,h3,h4,h5⟩:=app_run T o.type w base v l hown A c l2 B hsrc hn hm hbase;unfold Oper.wp execOp;simp only [ho,resolve,invoke,builtin,Sem.run_bind,Sem.run_pure,Result.andThen_ok,List.map_toArray,List.map_cons,List.map_nil,hs,hx,hr];exact h v' w' h2 h3 h4 ((Below.refl base w).grown h3 hbase fun k hk=>(hown.lt k hk).1) h5
theorem sl_lit (W:World) (E:Enc α size) (l:List α) (e:TypeId) (b:Nat) (hb:W.heap.size=b) :Sl (W.alloc (.cells (l.flatMap E.enc).toArray e)) (b+1) E (some ⟨b,0,none⟩) l:=by
 subst hb
 exact .inr ⟨W.heap.size,0,rfl,by omega,fun i x hi j u hj=>by
  rw [cell_of_row _ _ _ _ _ _ (heap_alloc_new W _),Nat.zero_add]
  simpa using flat_get E l i j x u hi hj⟩
theorem wpList_push {w:World} {ops:Array Oper} {rest:List Oper} {o:Oper} {a:Act} {Q:Exit→Act→World→Prop} (T:SliceTy P t e size bytes z) (hgd:o.guard=none) (s x:Operand)
 (ho:o.op=.call {callee:=.builtin .append,args:= #[s,x],argTypes:= #[t,t]}) (E:Enc α size) (W:World) (base:Nat) (v:Value) (l:List α) (hs:a.eval s=v) (hown:Own W base e E v l)
 (x0:α) (hx:a.eval x=.slice (some ⟨W.heap.size,0,none⟩) 1 1) (hw:w=W.alloc (.cells (E.enc x0).toArray e)) (hn: (l.length+1) *bytes≤140737488355328) (hm:l.length+1≤maxLen) (hbase:base≤W.heap.size)
 (h: ∀v' w',Own w' base e E v' (l ++ [x0])→W.grownBy w' v.ownBlock→W.heap.size<w'.heap.size→(v'.ownBlock=v.ownBlock∨v'.ownBlock=some (W.heap.size+1))→Below base W w'→v'≠.slice none 0 0→
   wpList P ops Q rest (a.put o.dst v') w') :wpList P ops Q (o :: rest) a w:=by
 subst hw;have hsl:=sl_lit W E [x0] e _ rfl;simp only [List.flatMap_cons,List.flatMap_nil,List.append_nil] at hsl;refine wpList_app T hgd s x ho E base v l hs (hown.alloc _) (some ⟨W.heap.size,0,none⟩) 1 [x0] _ (by simpa using hx) hsl (by simpa using hn) (by simpa using hm) (by simp;omega) fun v' w' h2 h3 h4 h5 h6=> ?_;have hs:=h3.size;simp at hs
 refine h v' w' h2 ⟨h3.os,h3.tape,h3.output,by omega,fun i hi hne=>(h3.block i (by simp;omega) hne).trans (Below.heap_alloc W _ i hi)⟩ (by omega) ?_ ?_ (h6 (by simp))
 ·rcases h4 with h4|h4
  ·exact .inl h4
  ·right;rw [h4];simp
 ·exact((Below.refl base W).alloc hbase _).trans h5
end
structure KeepT (T:List TypeId) (w w':World) :Prop where
 os:w'.os=w.os
 tape:w'.tape=w.tape
 output:w'.output=w.output
 size:w.heap.size≤w'.heap.size
 block: ∀(b:Nat) (o:Obj),w.heap[b]? =some o→(∀cs t fr,o=Obj.cells cs t fr→t∉T)→w'.heap[b]? =some o
theorem KeepT.refl (T:List TypeId) (w:World) :KeepT T w w:=⟨rfl,rfl,rfl,Nat.le_refl _,fun _ _ h _=>h⟩
theorem KeepT.trans {T:List TypeId} {a b c:World} (h:KeepT T a b) (k:KeepT T b c) :KeepT T a c:=
 ⟨k.os.trans h.os,k.tape.trans h.tape,k.output.trans h.output,Nat.le_trans h.size k.size,fun i o hi ht=>k.block i o (h.block i o hi ht) ht⟩
theorem KeepT.of_below {T:List TypeId} {a b:World} (h:Below a.heap.size a b) :KeepT T a b:=
 ⟨h.os,h.tape,h.output,h.size,fun i _ hi _=>(h.block i (lB hi)).trans hi⟩
theorem KeepT.drew {T:List TypeId} {a b:World} (h:KeepT T a b) :KeepT T a b.drew:=⟨h.os,h.tape,h.output,h.size,h.block⟩
theorem KeepT.setCell {T:List TypeId} {a b:World} (h:KeepT T a b) {p:Addr} {cs:Array Value} {t:TypeId} {fr:Nat×Nat} (hb:b.heap[p.block]? =some (.cells cs t fr)) (ht:t∈T) (u:Value) :KeepT T a (b.setCell p u):=
 h.trans ⟨rfl,rfl,rfl,by simp [World.setCell],fun i _ hi hT=>by
  rw [Below.heap_setCell _ _ _ _ (by rintro rfl;rw [hb] at hi;cases hi;exact hT _ _ _ rfl ht)];exact hi⟩
theorem KeepT.grown {T:List TypeId} {a b c:World} {α:Type} {size:Nat} {base e:Nat} {E:Enc α size} {v:Value} {l:List α} (h:KeepT T a b) (ho:Own b base e E v l) (hg:b.grownBy c v.ownBlock) (he:e∈T) :KeepT T a c:=
 h.trans ⟨hg.os,hg.tape,hg.output,hg.size,fun i _ hi hT=>(hg.block i (lB hi) (fun heq=>by
  rcases ho with ⟨rfl,_⟩ | ⟨g1,o1,c1,u1,rfl,_,hh1,_⟩
  ·cases heq
  ·have:i=g1:=by simpa [Value.ownBlock] using heq
   subst this;rw [hh1] at hi
   cases hi
   exact hT _ _ _ rfl he)).trans hi⟩
section
variable {α:Type} {size:Nat} {w:World} {base e:Nat} {E:Enc α size} {l:List α}
theorem Own.pre {a:Addr} {n cap:Nat} (h:Own w base e E (.slice (some a) n cap) l) {k:Nat} (hk:k≤l.length) :Own w base e E (.slice (some a) k k) (l.take k):=by
 have hc:l.length≤cap:=by
  rcases h with ⟨hv,_⟩ | ⟨g,off,cap',cur,hv,_,_,h1,_⟩
  ·cases hv
  ·cases hv;exact h1
 have:=h.cut (lo:=0) (hi:=k) (mx:=k) (Nat.zero_le _) hk (Nat.le_refl _) (by omega);simp only [Nat.sub_zero,List.drop_zero,Nat.zero_mul] at this
 split at this
 ·exact this
 ·simpa [Addr.add] using this
theorem Own.upTo {a:Addr} {n cap:Nat} (h:Own w base e E (.slice (some a) n cap) l) {k:Nat} (hk:k≤l.length) :Own w base e E (.slice (some a) k cap) (l.take k):=by
 have hc:l.length≤cap:=by
  rcases h with ⟨hv,_⟩ | ⟨g,off,cap',cur,hv,_,_,h1,_⟩
  ·cases hv
  ·cases hv;exact h1
 have:=h.cut (lo:=0) (hi:=k) (mx:=cap) (Nat.zero_le _) hk (by omega) (Nat.le_refl _);simp only [Nat.sub_zero,List.drop_zero,Nat.zero_mul] at this
 split at this
 ·exact this
 ·simpa [Addr.add] using this
theorem Sl.drop {B b off:Nat} (h:Sl w B E (some ⟨b,off,none⟩) l) (k:Nat) :Sl w B E (some ⟨b,off+k*size,none⟩) (l.drop k):=by
 rcases h with rfl| ⟨b',off',hA,hb,hc⟩
 ·exact .inl (by simp)
 ·cases hA
  refine .inr ⟨b,_,rfl,hb,fun i x hi j u hj=> ?_⟩;rw [List.getElem?_drop] at hi;have:=hc _ x hi j u hj;rw [Nat.add_mul] at this;rw [←this]
  congr 2
  omega
theorem Sl.take {B:Nat} {A:Option Addr} (h:Sl w B E A l) (k:Nat) :Sl w B E A (l.take k):=by
 rcases h with rfl| ⟨b,off,hA,hb,hc⟩
 ·exact .inl (by simp)
 ·refine .inr ⟨b,off,hA,hb,fun i x hi j u hj=>hc i x ?_ j u hj⟩
  rw [List.getElem?_take] at hi
  split at hi
  ·exact hi
  ·cases hi
end
section
variable {α:Type} {size:Nat} {w:World} {base e:Nat} {E:Enc α size} {l:List α}
theorem Own.frozen {b off n cap:Nat} (h:Own w base e E (.slice (some ⟨b,off,none⟩) n cap) l) (j:Nat) :w.frozen? ⟨b,j,none⟩ =false:=by
 rcases h with ⟨hv,_⟩ | ⟨g,o,c,cur,hv,_,hh,_⟩
 ·cases hv
 ·cases hv
  simp [World.frozen?,hh]
theorem idx_ne {size k k' j j':Nat} (hj:j<size) (hj':j'<size) (h:k≠k') :k*size+j≠k'*size+j':=by
 intro he;rcases Nat.lt_or_gt_of_ne h with hlt|hlt
 ·have:=Nat.mul_le_mul_right size (Nat.succ_le_of_lt hlt)
  rw [Nat.succ_mul] at this;omega
 ·have:=Nat.mul_le_mul_right size (Nat.succ_le_of_lt hlt)
  rw [Nat.succ_mul] at this;omega
theorem Own.setElem {b off n cap:Nat} (h:Own w base e E (.slice (some ⟨b,off,none⟩) n cap) l) (k j:Nat) (hk:k<l.length) (hj:j<size) (u:Value) (x':α) (hx:E.enc x'= (E.enc l[k]).set j u) :
 Own (w.setCell ⟨b,off+k*size+j,none⟩ u) base e E (.slice (some ⟨b,off,none⟩) n cap) (l.set k x'):=by
 rcases h with ⟨hv,_⟩ | ⟨g,o,c,cur,hv,hg,hh,h1,h2,h3,h4⟩
 ·cases hv
 ·cases hv
  have hin:off+k*size+j<cur.size:=by
   have e0: (k+1) *size≤cap*size:=Nat.mul_le_mul_right _ (by omega);rw [Nat.add_mul] at e0;omega
  refine .inr ⟨b,off,cap,cur.setIfInBounds (off+k*size+j) u,by rw [List.length_set],hg,?_,by rw [List.length_set];exact h1,h2,by rw [Array.size_setIfInBounds];exact h3,fun q v hq=> ?_⟩
  ·simp [World.setCell,Array.getElem?_modify,hh]
  ·obtain⟨k',x,q',hk',hq',hqe⟩:=flat_inv E _ q v hq
   have hql:q'<size:=by
    have:=(List.getElem?_eq_some_iff.1 hq').1
    rwa [E.len] at this
   rw [List.getElem?_set] at hk';by_cases he:k=k'
   ·subst he
    rw [if_pos rfl,if_pos hk] at hk'
    cases hk'
    rw [hx,List.getElem?_set] at hq';by_cases he2:j=q'
    ·subst he2
     rw [if_pos rfl] at hq'
     split at hq'
     ·cases hq'
      rw [hqe,←Nat.add_assoc,Array.getElem?_setIfInBounds_self_of_lt hin]
     ·cases hq'
    ·rw [if_neg he2] at hq'
     rw [hqe,←Nat.add_assoc,Array.getElem?_setIfInBounds_ne (by omega)];have:=h4 (k*size+q') v (flat_get E l k q' _ v (List.getElem?_eq_getElem hk) hq')
     rwa [←Nat.add_assoc] at this
   ·rw [if_neg he] at hk'
    have hne:=idx_ne hj hql he;rw [hqe,Array.getElem?_setIfInBounds_ne (by omega)];exact h4 _ v (flat_get E l k' q' x v hk' hq')
end
theorem heap_new_at (w:World) (o:Obj) (b:Nat) (hb:b=w.heap.size) : (w.alloc o).heap[b]? =some o:=by subst hb;exact heap_alloc_new w o
theorem heap_new_lt (w:World) (o:Obj) (b:Nat) (hb:b<w.heap.size) : (w.alloc o).heap[b]? =w.heap[b]? :=Below.heap_alloc w o b hb
theorem bC {w:World} {b t:Nat} {cs:Array Value} {fr:Nat×Nat} (h:w.heap[b]? =some (.cells cs t fr)) (o:Nat) :w.cell? ⟨b,o,none⟩ =cs[o]? :=cell_of_row _ _ _ _ _ _ h
theorem bF {w:World} {b t:Nat} {cs:Array Value} (h:w.heap[b]? =some (.cells cs t (0,0))) (o:Nat) :w.frozen? ⟨b,o,none⟩ =false:=by simp [World.frozen?,h]
theorem blk_grown_not {w w':World} {b:Nat} {o:Obj} {row:Option Nat} (h:w.heap[b]? =some o) (hg:w.grownBy w' row) (hne:row≠some b) :w'.heap[b]? =some o:=(hg.block b (lB h) (Ne.symm hne)).trans h
theorem bB {w w':World} {b:Nat} {o:Obj} (h:w.heap[b]? =some o) (hb:Below w.heap.size w w') :w'.heap[b]? =some o:=(hb.block b (lB h)).trans h
def TypeAt (w:World) (b t:Nat) :Prop:=∃cs fr,w.heap[b]? =some (.cells cs t fr)
theorem TypeAt.of {w:World} {b t:Nat} {cs:Array Value} {fr:Nat×Nat} (h:w.heap[b]? =some (.cells cs t fr)) :TypeAt w b t:=⟨cs,fr,h⟩
theorem TypeAt.setCell {w:World} {b t:Nat} {p:Addr} {u:Value} (h:TypeAt w b t) :TypeAt (w.setCell p u) b t:=by
 obtain⟨cs,fr,h⟩:=h;by_cases hp:p.block=b
 ·exact⟨_,_,by simp only [World.setCell,Array.getElem?_modify];rw [if_pos hp,h];rfl⟩
 ·exact⟨cs,fr,by rw [Below.heap_setCell _ _ _ _ (Ne.symm hp)];exact h⟩
theorem TypeAt.lt {w:World} {b t:Nat} (h:TypeAt w b t) :b<w.heap.size:=by
 obtain⟨cs,fr,h⟩:=h;exact lB h
theorem TypeAt.below {w w':World} {b t:Nat} (h:TypeAt w b t) (hb:Below w.heap.size w w') :TypeAt w' b t:=by
 obtain⟨cs,fr,h⟩:=h;exact⟨cs,fr,bB h hb⟩
theorem Own.setCellB {α:Type} {size:Nat} {w:World} {base e:Nat} {E:Enc α size} {v:Value} {l:List α} {p:Addr} {u:Value} (h:Own w base e E v l) (hp:p.block<base) :Own (w.setCell p u) base e E v l:=
 h.setCell (fun he=>by have:=(h.lt _ he).1;omega) u
theorem Own.len_le {α:Type} {size:Nat} {w:World} {base e n cap:Nat} {A:Option Addr} {E:Enc α size} {l:List α} (h:Own w base e E (.slice A n cap) l) :n=l.length∧l.length≤cap∧cap≤maxLen:=by
 rcases h with ⟨hv,rfl⟩ | ⟨g,o,c,cur,hv,_,_,h1,h2,_⟩
 ·cases hv;simp
 ·cases hv;exact⟨rfl,h1,h2⟩
theorem Own.sl {α:Type} {size:Nat} {w:World} {base e n cap:Nat} {A:Option Addr} {E:Enc α size} {l:List α} (h:Own w base e E (.slice A n cap) l) :Sl w w.heap.size E A l:=by
 obtain⟨A',cap',hv,_,_,hS,_⟩:=h.form
 cases hv
 exact hS
def SlT {α:Type} {size:Nat} (w:World) (e:TypeId) (E:Enc α size) (A:Option Addr) (l:List α) :Prop:=
 l= []∨∃b off,A=some ⟨b,off,none⟩∧TypeAt w b e∧∀i x,l[i]? =some x→∀j u,(E.enc x)[j]? =some u→w.cell? ⟨b,off+i*size+j,none⟩ =some u
section
variable {α:Type} {size:Nat} {w w':World} {e t:TypeId} {E:Enc α size} {A:Option Addr} {l:List α}
theorem SlT.nil:SlT w e E A []:=.inl rfl
theorem SlT.sl (h:SlT w e E A l) :Sl w w.heap.size E A l:=by
 rcases h with h| ⟨b,off,hA,hT,hc⟩
 ·exact .inl h
 ·exact .inr ⟨b,off,hA,hT.lt,hc⟩
theorem SlT.below (h:SlT w e E A l) (hb:Below w.heap.size w w') :SlT w' e E A l:=by
 rcases h with h| ⟨b,off,hA,hT,hc⟩
 ·exact .inl h
 ·exact .inr ⟨b,off,hA,hT.below hb,fun i x hi j u hj=>(hb.cell (p:=⟨b,_,none⟩) hT.lt).trans (hc i x hi j u hj)⟩
theorem SlT.alloc (h:SlT w e E A l) (o:Obj) :SlT (w.alloc o) e E A l:=h.below ((Below.refl _ _).alloc (Nat.le_refl _) o)
theorem SlT.drew (h:SlT w e E A l) :SlT w.drew e E A l:=h
theorem SlT.setCellT {p:Addr} {u:Value} (h:SlT w e E A l) (hp:TypeAt w p.block t) (hne:e≠t) :SlT (w.setCell p u) e E A l:=by
 rcases h with h| ⟨b,off,hA,hT,hc⟩
 ·exact .inl h
 ·refine .inr ⟨b,off,hA,hT.setCell,fun i x hi j v hj=> ?_⟩
  have hpb:p.block≠b:=by
   rintro rfl;obtain⟨_,_,h1⟩:=hT;obtain⟨_,_,h2⟩:=hp;rw [h1] at h2
   cases h2
   exact hne rfl
  rw [World.cell?_of_block (w:=w) (Below.heap_setCell w p u b (Ne.symm hpb))];exact hc i x hi j v hj
theorem Own.slT {base n cap:Nat} (h:Own w base e E (.slice A n cap) l) :SlT w e E A l:=by
 rcases h with ⟨hv,rfl⟩ | ⟨g,off,cap,cur,hv,hg,hh,h1,h2,h3,h4⟩
 ·exact .inl rfl
 ·cases hv
  refine .inr ⟨g,off,rfl,.of hh,fun i x hi j u hj=> ?_⟩;rw [cell_of_row _ _ _ _ _ _ hh,Nat.add_assoc];exact h4 _ u (flat_get E l i j x u hi hj)
theorem SlT.cell_at {b off:Nat} (h:SlT w e E (some ⟨b,off,none⟩) l) {k:Nat} (hk:k<l.length) (j:Nat) (u:Value) (hj: (E.enc l[k])[j]? =some u) :w.cell? ⟨b,off+k*size+j,none⟩ =some u:=by
 rcases h with h| ⟨b',off',hA,_,hc⟩
 ·subst h;simp at hk
 ·cases hA;exact hc k _ (List.getElem?_eq_getElem hk) j u hj
theorem SlT.at_ (h:SlT w e E A l) {k:Nat} (hk:k<l.length) : ∃b off,A=some ⟨b,off,none⟩∧TypeAt w b e∧∀j u,(E.enc l[k])[j]? =some u→w.cell? ⟨b,off+k*size+j,none⟩ =some u:=by
 rcases h with h| ⟨b,off,hA,hb,hc⟩
 ·subst h;simp at hk
 ·exact⟨b,off,hA,hb,fun j u hj=>hc k _ (List.getElem?_eq_getElem hk) j u hj⟩
end
structure Turn (F:Nat→Prop) (w w':World) :Prop where
 os:w'.os=w.os
 tape:w'.tape=w.tape
 output:w'.output=w.output
 size:w.heap.size≤w'.heap.size
 block: ∀b,b<w.heap.size→¬F b→w'.heap[b]? =w.heap[b]?
def Grow (w:World) (F F':Nat→Prop) :Prop:=∀b,F' b→F b∨w.heap.size≤b
section
variable {F F' F'':Nat→Prop} {w w1 w2:World}
theorem Turn.refl (F:Nat→Prop) (w:World) :Turn F w w:=⟨rfl,rfl,rfl,Nat.le_refl _,fun _ _ _=>rfl⟩
theorem Turn.mono (h:Turn F w w1) (hF: ∀b,b<w.heap.size→F b→F' b) :Turn F' w w1:=⟨h.os,h.tape,h.output,h.size,fun b hb hn=>h.block b hb fun hf=>hn (hF b hb hf)⟩
theorem Turn.trans (h:Turn F w w1) (k:Turn F' w1 w2) (hG:Grow w F F') :Turn F w w2:=
 ⟨k.os.trans h.os,k.tape.trans h.tape,k.output.trans h.output,Nat.le_trans h.size k.size,fun b hb hn=>(k.block b (Nat.lt_of_lt_of_le hb h.size) fun hf=>by
  rcases hG b hf with hf|hf
  ·exact hn hf
  ·omega).trans (h.block b hb hn)⟩
theorem Turn.of_below (h:Below w.heap.size w w1) :Turn F w w1:=⟨h.os,h.tape,h.output,h.size,fun b hb _=>h.block b hb⟩
theorem Turn.below (h:Turn F w w1) {base:Nat} (hF: ∀b,F b→base≤b) (hb:base≤w.heap.size) :Below base w w1:=
 ⟨h.os,h.tape,h.output,h.size,fun b hlt=>h.block b (by omega) fun hf=>by have:=hF b hf;omega⟩
theorem Turn.more (h:Turn F w w1) (k:Below w1.heap.size w1 w2) :Turn F w w2:=h.trans (.of_below k) (fun _ hf=>.inl hf)
theorem Turn.setCell (h:Turn F w w1) {p:Addr} (hp:F p.block∨w.heap.size≤p.block) (u:Value) :Turn F w (w1.setCell p u):=
 ⟨h.os,h.tape,h.output,by simp [World.setCell];exact h.size,fun b hb hn=>by
  rw [Below.heap_setCell _ _ _ _ (by
   rintro rfl;rcases hp with hp|hp
   ·exact hn hp
   ·omega)]
  exact h.block b hb hn⟩
theorem Turn.alloc (h:Turn F w w1) (o:Obj) :Turn F w (w1.alloc o):=h.more ((Below.refl _ _).alloc (Nat.le_refl _) o)
theorem Turn.drew (h:Turn F w w1) :Turn F w w1.drew:=⟨h.os,h.tape,h.output,h.size,h.block⟩
theorem Turn.grown (h:Turn F w w1) {row:Option Nat} (hg:w1.grownBy w2 row) (hr: ∀b,row=some b→F b∨w.heap.size≤b) :Turn F w w2:=
 ⟨hg.os.trans h.os,hg.tape.trans h.tape,hg.output.trans h.output,Nat.le_trans h.size hg.size,fun b hb hn=>(hg.block b (Nat.lt_of_lt_of_le hb h.size) fun he=>by
  rcases hr b he.symm with hf|hf
  ·exact hn hf
  ·omega).trans (h.block b hb hn)⟩
theorem Grow.refl:Grow w F F:=fun _ h=>.inl h
theorem Grow.trans (h:Grow w F F') (k:Grow w1 F' F'') (hs:w.heap.size≤w1.heap.size) :Grow w F F'':=fun b hb=>by
 rcases k b hb with hb|hb
 ·exact h b hb
 ·exact .inr (Nat.le_trans hs hb)
theorem Turn.keep {o:Obj} {b:Nat} (h:Turn F w w1) (hb:w.heap[b]? =some o) (hn: ¬F b) :w1.heap[b]? =some o:=(h.block b (lB hb) hn).trans hb
theorem Turn.own {α:Type} {size base e:Nat} {E:Enc α size} {v:Value} {l:List α} (h:Turn F w w1) (ho:Own w base e E v l) (hn: ∀b,v.ownBlock=some b→¬F b) :Own w1 base e E v l:=
 ho.of_block fun g hv=>h.block g (ho.lt g hv).2 (hn g hv)
theorem Turn.cell {b o:Nat} (h:Turn F w w1) (hb:b<w.heap.size) (hn: ¬F b) :w1.cell? ⟨b,o,none⟩ =w.cell? ⟨b,o,none⟩:=World.cell?_of_block (h.block b hb hn)
end
abbrev Nd:=Int×Int
def Roll (r:List Nd) :Prop:=r.Pairwise (fun a b=>a.1<b.1)∧∀x∈r,1≤x.1∧1≤x.2
def getR:List Nd→Int→Int
 | [],_=>0
 |x :: r,id=>if x.1=id then x.2 else getR r id
def addR:List Nd→Int→Int→List Nd
 | [],id,c=> [(id,c)]
 |x :: r,id,c=>if x.1=id then (id,x.2+c) :: r else if id<x.1 then (id,c) :: x :: r else x :: addR r id c
def delR:List Nd→Int→List Nd
 | [],_=> []
 |x :: r,id=>if x.1=id then r else x :: delR r id
def sumR:List Nd→Int
 | []=>0
 |x :: r=>x.2+sumR r
theorem Roll.tail {x:Nd} {r:List Nd} (h:Roll (x :: r)) :Roll r:=⟨(List.pairwise_cons.1 h.1).2,fun y hy=>h.2 y (List.mem_cons_of_mem _ hy)⟩
theorem Roll.head {x:Nd} {r:List Nd} (h:Roll (x :: r)) : ∀y∈r,x.1<y.1:=(List.pairwise_cons.1 h.1).1
theorem getR_none {r:List Nd} {id:Int} (h: ∀x∈r,x.1≠id) :getR r id=0:=by
 induction r with
 |nil=>rfl
 |cons x r ih=>
  simp only [getR];rw [if_neg (h x (by simp)),ih fun y hy=>h y (by simp [hy])]
theorem getR_mem {r:List Nd} (hr:Roll r) {x:Nd} (hx:x∈r) :getR r x.1=x.2:=by
 induction r with
 |nil=>simp at hx
 |cons y r ih=>
  simp only [getR];rcases List.mem_cons.1 hx with rfl|hx
  ·rw [if_pos rfl]
  ·have:=hr.head x hx
   rw [if_neg (by omega)];exact ih hr.tail hx
theorem getR_pos {r:List Nd} (hr:Roll r) {id:Int} (h:getR r id≠0) : (id,getR r id)∈r:=by
 induction r with
 |nil=>simp [getR] at h
 |cons y r ih=>
  simp only [getR] at h⊢;by_cases hy:y.1=id
  ·rw [if_pos hy];subst hy;simp
  ·rw [if_neg hy] at h⊢
   exact List.mem_cons_of_mem _ (ih hr.tail h)
theorem getR_nonneg {r:List Nd} (hr:Roll r) (id:Int) :0≤getR r id:=by
 by_cases h:getR r id=0
 ·omega
 ·have:=(hr.2 _ (getR_pos hr h)).2
  simp only at this;omega
theorem Roll.ext {r s:List Nd} (hr:Roll r) (hs:Roll s) (h: ∀id,getR r id=getR s id) :r=s:=by
 induction r generalizing s with
 |nil=>
  cases s with
  |nil=>rfl
  |cons y s=>
   have h1:=h y.1;have h2:=(hs.2 y (by simp)).2;simp [getR] at h1
   omega
 |cons x r ih=>
  cases s with
  |nil=>
   have h1:=h x.1;have h2:=(hr.2 x (by simp)).2;simp [getR] at h1
   omega
  |cons y s=>
   have hx:=hr.2 x (by simp);have hy:=hs.2 y (by simp)
   have e1:x.1=y.1:=by
    rcases Int.lt_trichotomy x.1 y.1 with hlt|heq|hlt
    ·have h1:=h x.1
     simp only [getR,if_true] at h1;rw [if_neg (by omega),getR_none (fun z hz=>by have:=hs.head z hz;omega)] at h1;omega
    ·exact heq
    ·have h1:=h y.1
     simp only [getR,if_true] at h1;rw [if_neg (by omega),getR_none (fun z hz=>by have:=hr.head z hz;omega)] at h1;omega
   have e2:x.2=y.2:=by
    have h1:=h x.1;simp only [getR,if_true] at h1;rw [if_pos e1.symm] at h1;exact h1
   have e3:x=y:=Prod.ext e1 e2;subst e3
   congr 1
   refine ih hr.tail hs.tail fun id=> ?_;have h1:=h id;simp only [getR] at h1;by_cases hid:x.1=id
   ·rw [getR_none (fun z hz=>by have:=hr.head z hz;omega),getR_none (fun z hz=>by have:=hs.head z hz;omega)]
   ·rw [if_neg hid,if_neg hid] at h1
    exact h1
theorem addR_mem {r:List Nd} {id c:Int} {y:Nd} (h:y∈addR r id c) :y.1=id∨y∈r:=by
 induction r with
 |nil=>simp [addR] at h;subst h;exact .inl rfl
 |cons x r ih=>
  simp only [addR] at h
  split at h
  ·rcases List.mem_cons.1 h with rfl|h
   ·exact .inl rfl
   ·exact .inr (List.mem_cons_of_mem _ h)
  ·split at h
   ·rcases List.mem_cons.1 h with rfl|h
    ·exact .inl rfl
    ·exact .inr h
   ·rcases List.mem_cons.1 h with rfl|h
    ·exact .inr (by simp)
    ·exact(ih h).imp (fun h=>h) (fun h=>List.mem_cons_of_mem _ h)
theorem Roll.cons {x:Nd} {r:List Nd} (h:Roll r) (hx: ∀y∈r,x.1<y.1) (h1:1≤x.1) (h2:1≤x.2) :Roll (x :: r):=by
 refine⟨List.pairwise_cons.2 ⟨hx,h.1⟩,fun y hy=> ?_⟩;rcases List.mem_cons.1 hy with rfl|hy
 ·exact⟨h1,h2⟩
 ·exact h.2 y hy
theorem Roll.add {r:List Nd} (hr:Roll r) {id c:Int} (h1:1≤id) (h2:1≤c) :Roll (addR r id c):=by
 induction r with
 |nil=>exact Roll.cons hr (by simp) h1 h2
 |cons x r ih=>
  have hx:=hr.2 x (by simp);simp only [addR]
  split
  ·rename_i he
   exact Roll.cons hr.tail (fun y hy=>by have:=hr.head y hy;simp only;omega) h1 (by simp only;omega)
  ·split
   ·rename_i hlt
    refine Roll.cons hr (fun y hy=> ?_) h1 h2;rcases List.mem_cons.1 hy with rfl|hy
    ·exact hlt
    ·have:=hr.head y hy;simp only;omega
   ·rename_i hne hge
    refine Roll.cons (ih hr.tail) (fun y hy=> ?_) hx.1 hx.2;rcases addR_mem hy with hy|hy
    ·omega
    ·exact hr.head y hy
theorem getR_add {r:List Nd} (hr:Roll r) (id c j:Int) :getR (addR r id c) j=if j=id then getR r id+c else getR r j:=by
 induction r with
 |nil=>
  simp only [addR,getR];by_cases h:id=j
  ·rw [if_pos h,if_pos h.symm];omega
  ·rw [if_neg h,if_neg (fun e=>h e.symm)]
 |cons x r ih=>
  simp only [addR]
  split
  ·rename_i he
   simp only [getR];by_cases h:j=id
   ·subst h;simp [he]
   ·have h2: ¬x.1=j:=by omega
    rw [if_neg (fun e=>h e.symm),if_neg h,if_neg h2]
  ·rename_i hne
   split
   ·rename_i hlt
    have h0:getR (x :: r) id=0:=getR_none (fun y hy=>by
     rcases List.mem_cons.1 hy with rfl|hy
     ·omega
     ·have:=hr.head y hy;omega)
    show (if id=j then c else getR (x :: r) j) =_
    by_cases h:j=id
    ·rw [if_pos h.symm,if_pos h,h0];omega
    ·rw [if_neg (fun e=>h e.symm),if_neg h]
   ·show (if x.1=j then x.2 else getR (addR r id c) j) =if j=id then (if x.1=id then x.2 else getR r id) +c else (if x.1=j then x.2 else getR r j)
    rw [ih hr.tail];by_cases h:j=id
    ·subst h;rw [if_neg hne,if_pos rfl,if_pos rfl];simp [hne]
    ·rw [if_neg h,if_neg h]
theorem sumR_add (r:List Nd) (id c:Int) :sumR (addR r id c) =sumR r+c:=by
 induction r with
 |nil=>simp [addR,sumR]
 |cons x r ih=>
  simp only [addR]
  split
  ·simp only [sumR];omega
  ·split
   ·simp only [sumR];omega
   ·simp only [sumR,ih];omega
theorem len_add {r:List Nd} (hr:Roll r) (id c:Int) : (addR r id c).length=if getR r id=0 then r.length+1 else r.length:=by
 induction r with
 |nil=>simp [addR,getR]
 |cons x r ih=>
  have hx:=hr.2 x (by simp);simp only [addR,getR]
  split
  ·rw [if_neg (by omega)];simp
  ·split
   ·rw [if_pos (getR_none fun y hy=>by have:=hr.head y hy;omega)];simp
   ·simp only [List.length_cons,ih hr.tail]
    split <;> rfl
theorem delR_sub {r:List Nd} {id:Int} {y:Nd} (h:y∈delR r id) :y∈r:=by
 induction r with
 |nil=>simp [delR] at h
 |cons x r ih=>
  simp only [delR] at h
  split at h
  ·exact List.mem_cons_of_mem _ h
  ·rcases List.mem_cons.1 h with rfl|h
   ·simp
   ·exact List.mem_cons_of_mem _ (ih h)
theorem Roll.del {r:List Nd} (hr:Roll r) (id:Int) :Roll (delR r id):=by
 induction r with
 |nil=>exact hr
 |cons x r ih=>
  have hx:=hr.2 x (by simp);simp only [delR]
  split
  ·exact hr.tail
  ·exact Roll.cons (ih hr.tail) (fun y hy=>hr.head y (delR_sub hy)) hx.1 hx.2
theorem getR_del {r:List Nd} (hr:Roll r) (id j:Int) :getR (delR r id) j=if j=id then 0 else getR r j:=by
 induction r with
 |nil=>simp [delR,getR]
 |cons x r ih=>
  simp only [delR]
  split
  ·rename_i he
   by_cases h:j=id
   ·rw [if_pos h,getR_none fun y hy=>by have:=hr.head y hy;omega]
   ·simp only [getR];rw [if_neg h,if_neg (by omega)]
  ·rename_i hne
   simp only [getR];rw [ih hr.tail];by_cases h:j=id
   ·subst h;rw [if_neg hne,if_pos rfl];simp
   ·rw [if_neg h,if_neg h]
theorem sumR_del {r:List Nd} (hr:Roll r) (id:Int) :sumR (delR r id) =sumR r - getR r id:=by
 induction r with
 |nil=>simp [delR,sumR,getR]
 |cons x r ih=>
  simp only [delR,getR]
  split
  ·simp only [sumR];omega
  ·simp only [sumR,ih hr.tail];omega
theorem sumR_nonneg {r:List Nd} (hr:Roll r) :0≤sumR r:=by
 induction r with
 |nil=>simp [sumR]
 |cons x r ih=>
  have hx:=hr.2 x (by simp);have:=ih hr.tail;simp only [sumR];omega
theorem getR_le_sum {r:List Nd} (hr:Roll r) (id:Int) :getR r id≤sumR r:=by
 have h:=sumR_del hr id;have h2:=sumR_nonneg (hr.del id);omega
theorem len_le_sum {r:List Nd} (hr:Roll r) : (r.length:Int)≤sumR r:=by
 induction r with
 |nil=>simp [sumR]
 |cons x r ih=>
  have hx:=hr.2 x (by simp);have:=ih hr.tail;simp only [sumR,List.length_cons];omega
def encN:Enc Nd 2:=⟨fun x=> [.int .i64 x.1,.int .i64 x.2],fun _=>rfl,by intro x u hu;simp at hu;rcases hu with rfl|rfl <;> rfl⟩
theorem tyN:SliceTy Tryz.prog 129 216 2 16 (.agg #[.int .i64 0,.int .i64 0]):=⟨Tryz.underlying129,by kernel_rfl,rfl,by decide⟩
def i64 (n:Int) :Prop:= -9223372036854775808≤n∧n≤9223372036854775807
def ints (l:List Nd) :Prop:=∀x∈l,i64 x.1∧i64 x.2
def most:Int:=72057594037927935
def totalFrom (n:Int) :List Nd→Int×Bool
 | []=>(n,true)
 |x :: l=>if (addOf n x.2).2=true∧(addOf n x.2).1≤most then totalFrom (addOf n x.2).1 l else (0,false)
def totalOf (l:List Nd) :Int×Bool:=totalFrom 0 l
theorem drop_cons {α:Type} {l:List α} {k:Nat} (h:k<l.length) :l.drop k=l[k] :: l.drop (k+1):=List.drop_eq_getElem_cons h
theorem addOf_le (a b:Int) (h: (addOf a b).2=true) :0≤(addOf a b).1∧(addOf a b).1≤9223372036854775807:=by
 unfold addOf at h⊢
 split
 ·rename_i hc;exact⟨by simp only;omega,hc.2.2⟩
 ·simp
theorem roll_Total (w:World) (A:Option Addr) (cap:Nat) (l:List Nd) (hS:Sl w w.heap.size encN A l) (hI:ints l) (hm:l.length≤maxLen) :
 Calls Tryz.prog 312 #[.slice A l.length cap] w fun e w'=>e=.returned (okV (totalOf l))∧Below w.heap.size w w':=by
 have HS:=LH hS;have HI:=LH hI;unfold maxLen at hm;clear hS hI
 go_enter Tryz.func312,Tryz.ntmps312
 go_wp2_with fail
 go_loopw [4,11] (fun n i wr=>∃(k:Nat) (m:Int),k≤l.length∧i=.int .i64 k∧n=.int .i64 m∧0≤m∧m≤72057594037927935∧totalOf l=totalFrom m (l.drop k)∧Below w.heap.size w wr) (fun _ i _=>l.length - (intOf i).toNat)
 case atStart=>exact⟨0,0,by omega,rfl,rfl,by omega,by omega,rfl,Below.refl _ _⟩
 case round=>
  obtain⟨k,m,hk,rfl,rfl,hm0,hm1,hT,hB⟩:=hrel;have HT:=LH hT;clear hT;have hs:=hB.size;by_cases hlt:k<l.length
  ·obtain⟨b,off,rfl,hb,hc⟩:=(HS.out.below hB).at_ hlt
   have d0:=hc 0 (.int .i64 l[k].1) rfl;have d1:=hc 1 (.int .i64 l[k].2) rfl;simp only [Nat.add_zero] at d0;have hx:=(HI.out _ (List.getElem_mem hlt)).2;have hN:totalOf l=if (addOf m l[k].2).2=true∧(addOf m l[k].2).1≤most then totalFrom (addOf m l[k].2).1 (l.drop (k+1)) else (0,false):=by rw [HT.out,drop_cons hlt];rfl
   have HN:=LH hN;have HA:=LH (addOf_le m l[k].2);have HC:=LH (reckon_Add · m l[k].2 (by omega) hx.2);clear hc hN hx;obtain⟨x,hx⟩ : ∃x,x=l[k]:=⟨_,rfl⟩;rw [←hx] at d0 d1 HN HA HC;clear hx;generalize addOf m x.2=r at HN HA HC;obtain⟨r1,r2⟩:=r;go_wp2_with fail;refine(HC.out _).mono ?_;rintro e w1 ⟨rfl,hb1⟩;have B1:Below w.heap.size w w1:=Below.then_ bE hb1;have s1:=B1.size;have z1_0:wr.heap.size<w1.heap.size:=by have:=hb1.size;(try simp at this);omega
   have y1_0:wr.heap.size≤w1.heap.size:=Nat.le_of_lt z1_0;have c1_0:=czB hb1 (wr.heap.size);have f1_0:=fzB hb1 (wr.heap.size);unfold okV
   cases r2
   ·go_wp2_with fail
    go_ret2
    exact⟨by rw [HN.out,if_neg (by simp)];rfl,bE⟩
   ·by_cases hle:r1≤72057594037927935
    ·have h0:0≤r1:=(HA.out rfl).1
     go_wp2_with fail;go_roundw
     case rel=>exact⟨k+1,r1,by omega,by go_num,rfl,h0,hle,by rw [HN.out,if_pos ⟨by simp,hle⟩],bE⟩
     case measure=>simp [intOf];omega
    ·go_wp2_with fail
     go_ret2
     exact⟨by rw [HN.out,if_neg (fun h=>by have h2:r1≤72057594037927935:=h.2;omega)];rfl,bE⟩
  ·obtain rfl:k=l.length:=by omega
   have HE:=LH (show totalOf l= (m,true) by rw [HT.out,List.drop_length];rfl);go_wp2_with fail
   go_ret2
   exact⟨by rw [HE.out];rfl,bE⟩
def risesFrom (l last:Int) :List Nd→Bool
 | []=>true
 |x :: r=>decide (last<x.1) && isNode l x.1 && decide (1≤x.2) && risesFrom l x.1 r
def rightOf (l:Int) (r:List Nd) :Bool:=risesFrom l 0 r && (totalOf r).2 && isNode l 1
theorem roll_Right (w:World) (u:Int) (A:Option Addr) (cap:Nat) (l:List Nd) (hS:Sl w w.heap.size encN A l) (hI:ints l) (hm:l.length≤maxLen) :
 Calls Tryz.prog 279 #[.int .i64 u,.slice A l.length cap] w fun e w'=>e=.returned (.bool (rightOf u l))∧Below w.heap.size w w':=by
 have HS:=LH hS;have HI:=LH hI;have HM:=LH hm;unfold maxLen at hm;clear hS hI
 go_enter Tryz.func279,Tryz.ntmps279
 go_wp2_with fail
 go_loopw [5,12] (fun n i wr=>∃(k:Nat) (m:Int),k≤l.length∧i=.int .i64 k∧n=.int .i64 m∧risesFrom u 0 l=risesFrom u m (l.drop k)∧Below w.heap.size w wr) (fun _ i _=>l.length - (intOf i).toNat)
 case atStart=>exact⟨0,0,by omega,rfl,rfl,rfl,Below.refl _ _⟩
 case round=>
  obtain⟨k,m,hk,rfl,rfl,hT,hB⟩:=hrel;have HT:=LH hT;clear hT;have hs:=hB.size;by_cases hlt:k<l.length
  ·obtain⟨b,off,rfl,hb,hc⟩:=(HS.out.below hB).at_ hlt
   have d0:=hc 0 (.int .i64 l[k].1) rfl;have d1:=hc 1 (.int .i64 l[k].2) rfl;simp only [Nat.add_zero] at d0;have hN:risesFrom u 0 l= (decide (m<l[k].1) && isNode u l[k].1 && decide (1≤l[k].2) && risesFrom u l[k].1 (l.drop (k+1))):=by rw [HT.out,drop_cons hlt];rfl
   have HN:=LH hN;clear hc hN;obtain⟨x,hx⟩ : ∃x,x=l[k]:=⟨_,rfl⟩;rw [←hx] at d0 d1 HN;clear hx;by_cases h1:m<x.1
   ·cases h2:isNode u x.1
    ·have H2:=LH h2
     have HR:=LH (show rightOf u l=false by unfold rightOf;rw [HN.out,h2];simp);clear h2;go_wp2_with fail;refine(twig_Right _ u x.1).mono ?_;rintro e w1 ⟨rfl,hb1⟩;have B1:Below w.heap.size w w1:=Below.then_ bE hb1;have s1:=B1.size;have z1_0:wr.heap.size<w1.heap.size:=by have:=hb1.size;(try simp at this);omega
     have y1_0:wr.heap.size≤w1.heap.size:=Nat.le_of_lt z1_0;have c1_0:=czB hb1 (wr.heap.size);have f1_0:=fzB hb1 (wr.heap.size);rw [H2.out];go_wp2_with fail;go_ret;exact⟨ret_bool HR.out.symm,bE⟩
    ·have H2:=LH h2
     by_cases h3:1≤x.2
     ·have HR:=LH (show risesFrom u 0 l=risesFrom u x.1 (l.drop (k+1)) by rw [HN.out,h2];simp [h1,h3])
      clear h2;go_wp2_with fail;refine(twig_Right _ u x.1).mono ?_;rintro e w1 ⟨rfl,hb1⟩;have B1:Below w.heap.size w w1:=Below.then_ bE hb1;have s1:=B1.size;have z1_0:wr.heap.size<w1.heap.size:=by have:=hb1.size;(try simp at this);omega
      have y1_0:wr.heap.size≤w1.heap.size:=Nat.le_of_lt z1_0;have c1_0:=czB hb1 (wr.heap.size);have f1_0:=fzB hb1 (wr.heap.size);rw [H2.out];go_wp2_with fail;go_roundw
      case rel=>exact⟨k+1,x.1,by omega,by go_num,rfl,HR.out,bE⟩
      case measure=>simp [intOf];omega
     ·have HR:=LH (show rightOf u l=false by unfold rightOf;rw [HN.out];simp [h3])
      clear h2;go_wp2_with fail;refine(twig_Right _ u x.1).mono ?_;rintro e w1 ⟨rfl,hb1⟩;have B1:Below w.heap.size w w1:=Below.then_ bE hb1;have s1:=B1.size;have z1_0:wr.heap.size<w1.heap.size:=by have:=hb1.size;(try simp at this);omega
      have y1_0:wr.heap.size≤w1.heap.size:=Nat.le_of_lt z1_0;have c1_0:=czB hb1 (wr.heap.size);have f1_0:=fzB hb1 (wr.heap.size);rw [H2.out];go_wp2_with fail;go_ret;exact⟨ret_bool HR.out.symm,bE⟩
   ·have HR:=LH (show rightOf u l=false by unfold rightOf;rw [HN.out];simp [h1])
    go_wp2_with fail;go_ret;exact⟨ret_bool HR.out.symm,bE⟩
  ·obtain rfl:k=l.length:=by omega
   have HE:=LH (show rightOf u l= ((totalOf l).2 && isNode u 1) by unfold rightOf;rw [HT.out,List.drop_length];simp [risesFrom]);have HC:=LH (roll_Total · A cap l · HI.out HM.out);generalize totalOf l=r at HE HC;obtain⟨r1,r2⟩:=r;go_wp2_with fail;refine(HC.out _ (HS.out.keep hs fun p hp=>hB.cell hp)).mono ?_;rintro e w1 ⟨rfl,hb1⟩;have B1:Below w.heap.size w w1:=Below.then_ bE hb1;have s1:=B1.size;unfold okV
   cases r2
   ·go_wp2_with fail
    go_ret;exact⟨ret_bool HE.out.symm,bE⟩
   ·go_wp2_with fail
    refine(twig_Right _ u 1).mono ?_;rintro e w2 ⟨rfl,hb2⟩;have B2:Below w.heap.size w w2:=Below.then_ bE hb2;have s2:=B2.size;go_wp2_with fail;go_ret;exact⟨ret_bool HE.out.symm,bE⟩
theorem Own.of_row {α:Type} {size base e n:Nat} {w:World} {E:Enc α size} {v:Value} {l:List α} (h:w.ownsRow base e size v n (l.flatMap E.enc)) (hl:l.length=n) (hs:0<size) :Own w base e E v l:=by
 subst hl;obtain⟨h1,h2⟩:=h;rcases h2 with ⟨rfl,h0⟩ | ⟨g,cap,cur,rfl,hg,hh,hle,hm,hsz,hx⟩
 ·exact .inl ⟨rfl,List.length_eq_zero_iff.1 h0⟩
 ·refine .inr ⟨g,0,cap,cur,rfl,hg,hh,hle,hm,by omega,fun j u hj=> ?_⟩
  rw [←hx] at hj;rw [List.getElem?_take] at hj
  split at hj
  ·simpa using hj
  ·cases hj
theorem made_flat {α:Type} {size:Nat} (E:Enc α size) (x:α) (z:Array Value) (n:Nat) (hz:z.toList=E.enc x) (hs:0<size) : (madeCells z (n*size)).toList= (List.replicate n x).flatMap E.enc:=by
 have hzs:z.size=size:=by have:=E.len x;rw [←hz] at this;simpa using this
 apply List.ext_getElem?
 intro j;have hlen: ((List.replicate n x).flatMap E.enc).length=n*size:=by rw [flat_len];simp
 by_cases hj:j<n*size
 ·have hk:j / size<n:=Nat.div_lt_of_lt_mul (by rw [Nat.mul_comm];exact hj)
  have hr:j % size<size:=Nat.mod_lt _ hs;have h1: (List.replicate n x)[j / size]? =some x:=by simp [hk]
  obtain⟨u,h2⟩ : ∃u,(E.enc x)[j % size]? =some u:=⟨_,List.getElem?_eq_getElem (by rw [E.len];exact hr)⟩;have h3:=flat_get E (List.replicate n x) (j / size) (j % size) x _ h1 h2;rw [Nat.mul_comm,Nat.div_add_mod] at h3;rw [h3];simp only [madeCells,Array.toList_map,Array.toList_range,List.getElem?_map,List.getElem?_range hj,Option.map_some]
  congr 1
  rw [hzs];have h4: (z.toList)[j % size]? =some u:=by rw [hz];exact h2
  have h5:j % size<z.size:=by omega
  rw [getElem!_pos z (j % size) h5];simp [h5] at h4
  exact h4
 ·rw [List.getElem?_eq_none (by simp [size_madeCells];omega),List.getElem?_eq_none (by omega)]
section
attribute [local go_sem ↓] Go.wp_at_zero Go.wp_at_succ
def encZ:Enc Int 1:=⟨fun x=> [.int .i64 x],fun _=>rfl,by intro x u hu;simp at hu;subst hu;rfl⟩
theorem tyZ:SliceTy Tryz.prog 22 3 1 8 (.int .i64 0):=⟨Tryz.underlying22,by kernel_rfl,rfl,by decide⟩
def foot2 (g:Nat) (v:Value) :Nat→Prop:=fun b=>b=g∨v.ownBlock=some b
def DenseAt (w:World) (g l:Nat) (r:List Nd) (F:Nat→Prop) :Prop:=
 ∃(v:Value) (C:List Int),w.heap[g]? =some (.cells #[.int .i64 l,.int .i64 r.length,.int .i64 (sumR r),v] 254 (0,0))∧Own w 0 3 encZ v C∧C.length=2*2^l∧(∀i:Nat,i<C.length→C[i]? =some (getR r i))∧
  F=foot2 g v
structure Fits (l:Nat) (r:List Nd) :Prop where
 roll:Roll r
 lt: ∀x∈r,x.1<2*2^l
 sum:sumR r≤72057594037927935
theorem DenseAt.keep {w w':World} {g l:Nat} {r:List Nd} {F:Nat→Prop} (h:DenseAt w g l r F) (hk: ∀b,F b→w'.heap[b]? =w.heap[b]?) :DenseAt w' g l r F:=by
 obtain⟨v,C,hh,ho,hl,hc,rfl⟩:=h;exact⟨v,C,(hk g (.inl rfl)).trans hh,ho.of_block fun b hb=>hk b (.inr hb),hl,hc,rfl⟩
theorem DenseAt.lt {w:World} {g l:Nat} {r:List Nd} {F:Nat→Prop} (h:DenseAt w g l r F) : ∀b,F b→b<w.heap.size:=by
 obtain⟨v,C,hh,ho,hl,hc,rfl⟩:=h;rintro b (rfl|hb)
 ·exact lB hh
 ·exact(ho.lt b hb).2
theorem DenseAt.below {w w':World} {g l:Nat} {r:List Nd} {F:Nat→Prop} (h:DenseAt w g l r F) (hb:Below w.heap.size w w') :DenseAt w' g l r F:=h.keep fun b hf=>hb.block b (h.lt b hf)
theorem dense_L (w:World) (g l:Nat) (r:List Nd) (F:Nat→Prop) (h:DenseAt w g l r F) :Calls Tryz.prog 186 #[.pointer (some ⟨g,0,none⟩)] w fun e w'=>e=.returned (.int .i64 l)∧Below w.heap.size w w':=by
 obtain⟨v,C,hh,_⟩:=h;have c:=bC hh;have z:=lB hh;clear hh
 go_enter Tryz.func186,Tryz.ntmps186
 go_wp2_with fail;go_ret;exact⟨rfl,bE⟩
theorem dense_Total (w:World) (g l:Nat) (r:List Nd) (F:Nat→Prop) (h:DenseAt w g l r F) :Calls Tryz.prog 135 #[.pointer (some ⟨g,0,none⟩)] w fun e w'=>e=.returned (.int .i64 (sumR r))∧Below w.heap.size w w':=by
 obtain⟨v,C,hh,_⟩:=h;have c:=bC hh;have z:=lB hh;clear hh
 go_enter Tryz.func135,Tryz.ntmps135
 go_wp2_with fail;go_ret;exact⟨rfl,bE⟩
theorem infoZ: ((Tryz.prog).info? 3).map (fun i=>(i.zero,i.size,i.bytes)) =some (some (.int .i64 0),1,8):=by kernel_rfl
theorem dense_New_no (w:World) (l:Int) (h:l<1∨16<l) :Calls Tryz.prog 237 #[.int .i64 l] w fun e w'=>e=.returned (.tuple #[.pointer none,.int .i64 2])∧Below w.heap.size w w':=by
 by_cases h1:l<1
 ·go_enter Tryz.func237,Tryz.ntmps237
  go_wp2_with fail
  go_ret2
  exact⟨rfl,bE⟩
 ·have h2:16<l:=by omega
  go_enter Tryz.func237,Tryz.ntmps237
  go_wp2_with fail
  go_ret2
  exact⟨rfl,bE⟩
theorem dense_New (w:World) (n:Nat) (h1:1≤n) (h2:n≤16) :Calls Tryz.prog 237 #[.int .i64 n] w fun e w'=>
 ∃g F,e=.returned (.tuple #[.pointer (some ⟨g,0,none⟩),.int .i64 0])∧DenseAt w' g n [] F∧(∀b,F b→w.heap.size≤b)∧Below w.heap.size w w':=by
 obtain⟨i,hi,hz0,hz1,hz2⟩:=info_parts infoZ;have q1: (1:Int)≤(n:Int):=by omega
 have q2: (n:Int)≤16:=by omega
 have q3: (2:Int) ^n≤65536:=by have:=pow_le' h2;simpa using this
 have q4:=pow_pos' n;have q5:2^n≤65536:=by have:=Nat.pow_le_pow_right (n:=2) (by decide) h2;simpa using this
 have Q5:=LH q5;clear q5
 go_enter Tryz.func237,Tryz.ntmps237
 go_wp2_with ((at_make;refine wpList_make_full _ rfl _ _ 22 rfl w.heap.size 3 i (.int .i64 0) 1 Tryz.underlying22 hi hz0 hz1 _ _ _ _ (2*2^n) rfl rfl ?hL ?hC ?b2 ?b3 ?b4 ?hK))
 case hL=>simp
 case hC=>simp
 case b2=>rw [hz2];have:=Q5.out;omega
 case b3=>have:=Q5.out;simp only [maxLen];omega
 case b4=>exact Nat.le_refl _
 case hK=>
  intro w1 hr hg;have hmf:=made_flat encZ 0 #[.int .i64 0] (2*2^n) rfl (by decide);rw [Nat.mul_one] at hmf;rw [hmf] at hr;have ho:=Own.of_row hr (by simp) (by decide);have HO:=LH ho;have b1:Below w.heap.size w w1:=(Below.refl _ _).grown hg (Nat.le_refl _) (fun k hk=>by cases hk);have z1:=b1.size;clear hr ho hg hmf;go_wp2_with fail
  go_ret2
  have hC: ∀i:Nat,i< (List.replicate (2*2^n) (0:Int)).length→(List.replicate (2*2^n) (0:Int))[i]? =some (getR [] i):=fun i hi=>by simp at hi;simp [hi,getR]
  exact⟨w1.heap.size,_,rfl,⟨_,_,heap_new_at w1 _ _ rfl,(HO.out.base_le (Nat.zero_le _)).alloc _,by simp,hC,rfl⟩,fun b hb=>by
   rcases hb with rfl|hb
   ·exact z1
   ·cases hb;exact Nat.le_refl _,bE⟩
theorem isNode_of {l k:Nat} (h1:1≤l) (h2:l≤48) (h3:1≤k) (h4:k<2*2^l) :isNode l k=true:=by
 simp only [isNode,decide_eq_true_eq,Int.toNat_natCast];refine⟨⟨by omega,by omega⟩,by omega,?_⟩
 exact_mod_cast h4
theorem own_at0 {α:Type} {size:Nat} {w:World} {base e:Nat} {E:Enc α size} {v:Value} {l:List α} (h:Own w base e E v l) (hl:0<l.length) : ∃b off cap,v=.slice (some ⟨b,off,none⟩) l.length cap∧l.length≤cap:=by
 rcases h with ⟨_,rfl⟩ | ⟨g,off,cap,cur,hv,_,_,hc,_⟩
 ·simp at hl
 ·exact⟨g,off,cap,hv,hc⟩
theorem zH {w:World} {g i:Nat} {cs:Array Value} {t:TypeId} (h:w.heap[g]? =some (.cells cs t (0,0))) (u:Value) : (w.setCell ⟨g,i,none⟩ u).heap[g]? =some (.cells (cs.setIfInBounds i u) t (0,0)):=by
 simp [World.setCell,Array.getElem?_modify,h]
theorem dense_stored {w:World} {g l b off cap k:Nat} {r r':List Nd} {C:List Int} {a u m:Int} {v0 v1 v2:Value} (hh:w.heap[g]? =some (.cells #[v0,v1,v2,.slice (some ⟨b,off,none⟩) C.length cap] 254 (0,0)))
 (ho:Own w 0 3 encZ (.slice (some ⟨b,off,none⟩) C.length cap) C) (hl:C.length=2*2^l) (hc: ∀i:Nat,i<C.length→C[i]? =some (getR r i)) (hk:k<C.length)
 (hr: ∀j:Int,getR r' j=if j=k then a else getR r j) (hu: (r'.length:Int) =u) (hm:sumR r'=m) (hv0:v0=.int .i64 l:=by rfl) :
 DenseAt (((w.setCell ⟨g,1,none⟩ (.int .i64 u)).setCell ⟨b,off+k,none⟩ (.int .i64 a)).setCell ⟨g,2,none⟩ (.int .i64 m)) g l r' (foot2 g (.slice (some ⟨b,off,none⟩) C.length cap)):=by
 have hne:=ho.ne_block hh (by decide);have hgb:g≠b:=fun he=>hne (by rw [he];rfl);have o1:=ho.setCell (p:=⟨g,1,none⟩) hne (.int .i64 u);have o2:=o1.setElem k 0 hk (by decide) (.int .i64 a) a rfl;rw [Nat.mul_one,Nat.add_zero] at o2;subst hv0;have k1:=zH (i:=1) hh (.int .i64 u);have k2: ((w.setCell ⟨g,1,none⟩ (.int .i64 u)).setCell ⟨b,off+k,none⟩ (.int .i64 a)).heap[g]? =_:=(Below.heap_setCell _ _ _ _ hgb).trans k1;have k3:=zH (i:=2) k2 (.int .i64 m);have hne2:=o2.ne_block k2 (by decide);have o3:=o2.setCell (p:=⟨g,2,none⟩) hne2 (.int .i64 m);subst hu hm;refine⟨_,C.set k a,by rw [k3];rfl,o3,by simpa using hl,fun i hi=> ?_,rfl⟩;rw [List.length_set] at hi;rw [List.getElem?_set];by_cases hik:k=i
 ·subst hik
  rw [if_pos rfl,if_pos hi,hr,if_pos rfl]
 ·rw [if_neg hik,hc i hi,hr,if_neg (by omega)]
theorem dense_stored2 {w:World} {g l b off cap k:Nat} {r r':List Nd} {C:List Int} {a m:Int} {v0 v2:Value} (hh:w.heap[g]? =some (.cells #[v0,.int .i64 r.length,v2,.slice (some ⟨b,off,none⟩) C.length cap] 254 (0,0)))
 (ho:Own w 0 3 encZ (.slice (some ⟨b,off,none⟩) C.length cap) C) (hl:C.length=2*2^l) (hc: ∀i:Nat,i<C.length→C[i]? =some (getR r i)) (hk:k<C.length)
 (hr: ∀j:Int,getR r' j=if j=k then a else getR r j) (hu:r'.length=r.length) (hm:sumR r'=m) (hv0:v0=.int .i64 l:=by rfl) :
 DenseAt ((w.setCell ⟨b,off+k,none⟩ (.int .i64 a)).setCell ⟨g,2,none⟩ (.int .i64 m)) g l r' (foot2 g (.slice (some ⟨b,off,none⟩) C.length cap)):=by
 have hne:=ho.ne_block hh (by decide);have hgb:g≠b:=fun he=>hne (by rw [he];rfl);have o2:=ho.setElem k 0 hk (by decide) (.int .i64 a) a rfl;rw [Nat.mul_one,Nat.add_zero] at o2;subst hv0;have k2: (w.setCell ⟨b,off+k,none⟩ (.int .i64 a)).heap[g]? =_:=(Below.heap_setCell _ _ _ _ hgb).trans hh;have k3:=zH (i:=2) k2 (.int .i64 m);have hne2:=o2.ne_block k2 (by decide);have o3:=o2.setCell (p:=⟨g,2,none⟩) hne2 (.int .i64 m);subst hm;refine⟨_,C.set k a,by rw [k3,hu];rfl,o3,by simpa using hl,fun i hi=> ?_,rfl⟩;rw [List.length_set] at hi;rw [List.getElem?_set];by_cases hik:k=i
 ·subst hik
  rw [if_pos rfl,if_pos hi,hr,if_pos rfl]
 ·rw [if_neg hik,hc i hi,hr,if_neg (by omega)]
theorem dense_Add_new (w:World) (g l:Nat) (r:List Nd) (F:Nat→Prop) (h:DenseAt w g l r F) (hf:Fits l r) (h1:1≤l) (h2:l≤16) (k:Nat) (hk1:1≤k) (hk2:k<2*2^l) (c:Int) (hc:0<c) (hsum:sumR r+c≤72057594037927935) (h0:getR r k=0) :
 Calls Tryz.prog 214 #[.pointer (some ⟨g,0,none⟩),.int .i64 k,.int .i64 c] w fun e w'=>e=.returned (.int .i64 0)∧DenseAt w' g l (addR r k c) F∧Turn F w w':=by
 have HN:=LH (isNode_of h1 (by omega) hk1 hk2);have hs0:=sumR_nonneg hf.roll;have hlen:=len_le_sum hf.roll;have HA:=LH (show addOf (sumR r) c= (sumR r+c,true) by simp only [addOf];rw [if_pos (by omega)]);obtain⟨v,C,hh,ho,hl,hcc,rfl⟩:=h;obtain⟨b,off,cap,rfl,hcap⟩:=own_at0 ho (by omega);have d:=ho.slT.cell_at (k:=k) (by omega) 0 (.int .i64 C[k]) rfl;have hck:=hcc k (by omega);rw [List.getElem?_eq_getElem (by omega)] at hck
 injection hck with hck
 rw [hck,h0] at d;simp only [Nat.mul_one,Nat.add_zero] at d;have hnb:g≠b:=fun he=>ho.ne_block hh (by decide) (by rw [he];rfl);have hnb':b≠g:=fun he=>hnb he.symm;have cc:=bC hh;have cf:=bF hh;have fb:=ho.frozen (off+k);have zg:=lB hh;have zb:=(ho.lt b rfl).2;have H:=LH hh;have HO:=LH ho;have i0: (0:Int)≤(k:Int):=by omega
 have i1: (k:Int) < (C.length:Int):=by omega
 clear hh ho hck
 go_enter Tryz.func214,Tryz.ntmps214
 go_wp2_with fail;refine(twig_Right _ l k).mono ?_;rintro e w1 ⟨rfl,hb1⟩;have B1:Below w.heap.size w w1:=Below.then_ bE hb1;have s1:=B1.size;rw [HN.out];have k1:=bB H.out hb1;have o1:=HO.out.below hb1;have cc1:=bC k1;have cf1:=bF k1;have d1:=(hb1.cell (p:=⟨b,off+k,none⟩) zb).trans d;have f1:=o1.frozen (off+k);have zg1:=lB k1;have zb1:=(o1.lt b rfl).2;have K1:=LH k1;have O1:=LH o1;clear cc cf d fb k1 o1;go_wp2_with fail;refine(reckon_Add _ (sumR r) c (by omega) (by omega)).mono ?_;rintro e w2 ⟨rfl,hb2⟩;have B2:Below w.heap.size w w2:=Below.then_ bE hb2;have s2:=B2.size;rw [HA.out];unfold okV;have k2:=bB K1.out hb2;have o2:=O1.out.below hb2;have cc2:=bC k2;have cf2:=bF k2;have d2:=(hb2.cell (p:=⟨b,off+k,none⟩) zb1).trans d1;have f2:=o2.frozen (off+k);have zg2:=lB k2;have zb2:=(o2.lt b rfl).2;have K2:=LH k2;have O2:=LH o2;have T2:Turn (foot2 g (.slice (some ⟨b,off,none⟩) C.length cap)) w w2:=.of_below B2;clear cc1 cf1 d1 f1 k2 o2;go_wp2_with fail;go_ret;refine⟨rfl,?_,?_⟩
 ·exact dense_stored (r':=addR r k c) K2.out O2.out hl hcc (by omega) (fun j=>by rw [getR_add hf.roll,h0];simp) (by rw [len_add hf.roll,if_pos h0];push_cast;rfl) (sumR_add r k c)
 ·refine Turn.setCell (Turn.setCell (Turn.setCell T2 ?_ _) ?_ _) ?_ _
  ·exact .inl (.inl rfl)
  ·exact .inl (.inr rfl)
  ·exact .inl (.inl rfl)
theorem dense_Add_old (w:World) (g l:Nat) (r:List Nd) (F:Nat→Prop) (h:DenseAt w g l r F) (hf:Fits l r) (h1:1≤l) (h2:l≤16) (k:Nat) (hk1:1≤k) (hk2:k<2*2^l) (c:Int) (hc:0≤c) (hsum:sumR r+c≤72057594037927935) (h0:0<getR r k) :
 Calls Tryz.prog 214 #[.pointer (some ⟨g,0,none⟩),.int .i64 k,.int .i64 c] w fun e w'=>e=.returned (.int .i64 0)∧DenseAt w' g l (addR r k c) F∧Turn F w w':=by
 have HN:=LH (isNode_of h1 (by omega) hk1 hk2);have hs0:=sumR_nonneg hf.roll;have hlen:=len_le_sum hf.roll;have HA:=LH (show addOf (sumR r) c= (sumR r+c,true) by simp only [addOf];rw [if_pos (by omega)]);obtain⟨v,C,hh,ho,hl,hcc,rfl⟩:=h;obtain⟨b,off,cap,rfl,hcap⟩:=own_at0 ho (by omega);have d:=ho.slT.cell_at (k:=k) (by omega) 0 (.int .i64 C[k]) rfl;have hck:=hcc k (by omega);rw [List.getElem?_eq_getElem (by omega)] at hck
 injection hck with hck
 rw [hck] at d;simp only [Nat.mul_one,Nat.add_zero] at d;have hnb:g≠b:=fun he=>ho.ne_block hh (by decide) (by rw [he];rfl);have hnb':b≠g:=fun he=>hnb he.symm;have cc:=bC hh;have cf:=bF hh;have fb:=ho.frozen (off+k);have zg:=lB hh;have zb:=(ho.lt b rfl).2;have H:=LH hh;have HO:=LH ho;have hgs:=getR_le_sum hf.roll k;have i0: (0:Int)≤(k:Int):=by omega
 have i1: (k:Int) < (C.length:Int):=by omega
 clear hh ho hck
 go_enter Tryz.func214,Tryz.ntmps214
 go_wp2_with fail;refine(twig_Right _ l k).mono ?_;rintro e w1 ⟨rfl,hb1⟩;have B1:Below w.heap.size w w1:=Below.then_ bE hb1;have s1:=B1.size;rw [HN.out];have k1:=bB H.out hb1;have o1:=HO.out.below hb1;have cc1:=bC k1;have cf1:=bF k1;have d1:=(hb1.cell (p:=⟨b,off+k,none⟩) zb).trans d;have f1:=o1.frozen (off+k);have zg1:=lB k1;have zb1:=(o1.lt b rfl).2;have K1:=LH k1;have O1:=LH o1;clear cc cf d fb k1 o1;go_wp2_with fail;refine(reckon_Add _ (sumR r) c (by omega) (by omega)).mono ?_;rintro e w2 ⟨rfl,hb2⟩;have B2:Below w.heap.size w w2:=Below.then_ bE hb2;have s2:=B2.size;rw [HA.out];unfold okV;have k2:=bB K1.out hb2;have o2:=O1.out.below hb2;have cc2:=bC k2;have cf2:=bF k2;have d2:=(hb2.cell (p:=⟨b,off+k,none⟩) zb1).trans d1;have f2:=o2.frozen (off+k);have zg2:=lB k2;have zb2:=(o2.lt b rfl).2;have K2:=LH k2;have O2:=LH o2;have T2:Turn (foot2 g (.slice (some ⟨b,off,none⟩) C.length cap)) w w2:=.of_below B2;clear cc1 cf1 d1 f1 k2 o2;go_wp2_with fail;go_ret;refine⟨rfl,?_,?_⟩
 ·exact dense_stored2 (r':=addR r k c) K2.out O2.out hl hcc (by omega) (fun j=>getR_add hf.roll k c j) (by rw [len_add hf.roll,if_neg (by omega)]) (sumR_add r k c)
 ·refine Turn.setCell (Turn.setCell T2 ?_ _) ?_ _
  ·exact .inl (.inr rfl)
  ·exact .inl (.inl rfl)
end
def belowR (r:List Nd) (k:Int) :List Nd:=r.filter fun x=>decide (x.1<k)
theorem belowR_zero {r:List Nd} (hr:Roll r) :belowR r 0= []:=by
 unfold belowR;rw [List.filter_eq_nil_iff];intro x hx;have:=(hr.2 x hx).1;simp;omega
theorem belowR_all {r:List Nd} {k:Int} (h: ∀x∈r,x.1<k) :belowR r k=r:=by
 unfold belowR;rw [List.filter_eq_self];intro x hx
 simpa using h x hx
theorem belowR_succ {r:List Nd} (hr:Roll r) (k:Int) :belowR r (k+1) =belowR r k ++ if 0<getR r k then [(k,getR r k)] else []:=by
 induction r with
 |nil=>simp [belowR,getR]
 |cons x r ih=>
  have ih:=ih hr.tail;have hh:=hr.head;have hx:=hr.2 x (by simp);unfold belowR at ih⊢;by_cases h1:x.1<k
  ·rw [List.filter_cons,if_pos (by simp;omega),List.filter_cons,if_pos (by simpa using h1),ih]
   have e2:getR (x :: r) k=getR r k:=by simp only [getR];rw [if_neg (by omega)]
   rw [e2]
   rfl
  ·have e0:r.filter (fun y=>decide (y.1<k)) = []:=by
    rw [List.filter_eq_nil_iff];intro y hy;have:=hh y hy;simp;omega
   have e1:r.filter (fun y=>decide (y.1<k+1)) = []:=by
    rw [List.filter_eq_nil_iff];intro y hy;have:=hh y hy;simp;omega
   by_cases h2:x.1=k
   ·rw [List.filter_cons,if_pos (by simp;omega),List.filter_cons,if_neg (by simp;omega),e0,e1]
    have e2:getR (x :: r) k=x.2:=by simp only [getR];rw [if_pos h2]
    rw [e2,if_pos (by omega)];simp [←h2]
   ·rw [List.filter_cons,if_neg (by simp;omega),List.filter_cons,if_neg (by simp;omega),e0,e1]
    have e2:getR (x :: r) k=0:=by simp only [getR];rw [if_neg h2,getR_none (fun y hy=>by have:=hh y hy;omega)]
    rw [e2];simp
theorem belowR_le {r:List Nd} (hr:Roll r) (k:Nat) : (belowR r k).length≤k:=by
 induction k with
 |zero=>simp [belowR_zero hr]
 |succ k ih=>
  have:=belowR_succ hr (k:Int)
  push_cast
  rw [this,List.length_append]
  split
  ·simp;omega
  ·simp;omega
theorem DenseAt.typed {w:World} {g l:Nat} {r:List Nd} {F:Nat→Prop} (h:DenseAt w g l r F) : ∀b,F b→TypeAt w b 254∨TypeAt w b 3:=by
 obtain⟨v,C,hh,ho,hl,hc,rfl⟩:=h;rintro b (rfl|hb)
 ·exact .inl (.of hh)
 ·rcases ho with ⟨rfl,_⟩ | ⟨g1,o1,c1,u1,rfl,_,hh1,_⟩
  ·cases hb
  ·cases hb;exact .inr (.of hh1)
theorem dense_Snap (w:World) (g l:Nat) (r:List Nd) (F:Nat→Prop) (h:DenseAt w g l r F) (hf:Fits l r) (h2:l≤16) :Calls Tryz.prog 197 #[.pointer (some ⟨g,0,none⟩)] w fun e w'=>
 ∃v,e=.returned v∧Own w' w.heap.size 216 encN v r∧Below w.heap.size w w':=by
 obtain⟨v,C,hh,ho,hl,hcc,rfl⟩:=h;have h5:2^l≤65536:=by have:=Nat.pow_le_pow_right (n:=2) (by decide) h2;simpa using this
 have hpos:0<2^l:=Nat.two_pow_pos l;obtain⟨b,off,cap,rfl,hcap⟩:=own_at0 ho (by omega);have hS:=ho.slT;have cc:=bC hh;have zg:=lB hh;have zb:=(ho.lt b rfl).2;have hCl:C.length≤131072:=by omega
 have hlen:=len_le_sum hf.roll;have hsum:=hf.sum;have HS:=LH hS;have HC:=LH hcc;have HL:=LH hl;have HR:=LH hf;clear hh ho hS hcc hl
 go_enter Tryz.func197,Tryz.ntmps197
 go_wp2_with fail
 go_loopw [3,13] (fun v i wr=>∃k:Nat,k≤C.length∧i=.int .i64 k∧Below w.heap.size w wr∧Own wr w.heap.size 216 encN v (belowR r k)) (fun _ i _=>C.length - (intOf i).toNat)
 case atStart=>exact⟨0,Nat.zero_le _,rfl,bE,by have:=belowR_zero HR.out.roll;simp only [Int.natCast_zero];rw [this];exact Own.nil _ _ _ _⟩
 case round=>
  obtain⟨k,hk,rfl,hB,hown⟩:=hrel;have HO:=LH hown;clear hown;have hs:=hB.size;by_cases hlt:k<C.length
  ·have hck:=HC.out k hlt
   rw [List.getElem?_eq_getElem hlt] at hck
   injection hck with hck
   have hcell:=(hB.cell (p:=⟨b,off+k,none⟩) zb).trans (by have:=HS.out.cell_at hlt 0 (.int .i64 C[k]) rfl;simpa using this);have HS1:=LH (belowR_succ HR.out.roll (k:Int));rw [hck] at hcell;have hkl:=belowR_le HR.out.roll k;generalize getR r k=n at hcell HS1;by_cases hn:0<n
   ·have HS2:=LH (show belowR r ((k:Int) +1) =belowR r k ++ [((k:Int),n)] by rw [HS1.out,if_pos hn])
    clear hck;go_wp2_with ((at_builtin;refine wpList_push tyN rfl _ _ rfl encN wr w.heap.size u3 _ rfl HO.out ((k:Int),n) (by go_simp) rfl ?c1 ?c2 ?c3 ?c4))
    case c1=>omega
    case c2=>simp only [maxLen];omega
    case c3=>exact hs
    case c4=>
     intro v' w2 hown2 hgrow _ hlies hb2 _;go_wp2_with fail;go_roundw
     case rel=>exact⟨k+1,by omega,by go_num,Below.trans hB hb2,by push_cast;rw [HS2.out];exact hown2⟩
     case measure=>simp [intOf];omega
   ·have HS2:=LH (show belowR r ((k:Int) +1) =belowR r k by rw [HS1.out,if_neg hn];simp)
    clear hck;go_wp2_with fail;go_roundw
    case rel=>exact⟨k+1,by omega,by go_num,hB,by push_cast;rw [HS2.out];exact HO.out⟩
    case measure=>simp [intOf];omega
  ·obtain rfl:k=C.length:=by omega
   have he:belowR r (C.length:Nat) =r:=belowR_all fun x hx=>by have:=HR.out.lt x hx;rw [HL.out];push_cast;exact this
   rw [he] at HO;go_wp2_with fail;go_ret;exact⟨_,rfl,HO.out,hB⟩
def homeOf (b:Nat) (id:Int) :Nat:=(id.toNat*11400714819323198485 % 18446744073709551616) / 2^ (64 - b)
theorem homeOf_lt {b:Nat} (h:b≤64) (id:Int) :homeOf b id<2^b:=by
 unfold homeOf
 apply Nat.div_lt_of_lt_mul
 rw [←Nat.pow_add];have:64 - b+b=64:=by omega
 rw [this];exact Nat.mod_lt _ (by decide)
def full (x:Nd) :Bool:=decide (x.2≠0)
def step (n h d:Nat) :Nat:=(h+d) % n
def stopAt (S:List Nd) (id:Int) (i:Nat) :Prop:=∀x,S[i]? =some x→x.2=0∨x.1=id
structure LookAt (S:List Nd) (b:Nat) (id:Int) (i d:Nat) :Prop where
 at_:i=step (2^b) (homeOf b id) d
 lt:d<2^b
 stop:stopAt S id i
 way: ∀d'<d,¬stopAt S id (step (2^b) (homeOf b id) d')
structure PInv (b:Nat) (S m:List Nd) :Prop where
 len:S.length=2^b
 perm: (S.filter full).Perm m
 ids: (m.map (·.1)).Nodup
 pos: ∀x∈m,1≤x.2
 reach: ∀i x,S[i]? =some x→x.2≠0→∃d,d<2^b∧i=step (2^b) (homeOf b x.1) d∧∀d'<d,∀y,S[step (2^b) (homeOf b x.1) d']? =some y→y.2≠0
theorem step_inj {n h d d':Nat} (hd:d<n) (hd':d'<n) (h1:step n h d=step n h d') :d=d':=by
 unfold step at h1;have:=Nat.mod_lt (h+d) (show 0<n by omega);have e1:=Nat.div_add_mod (h+d) n;have e2:=Nat.div_add_mod (h+d') n;rw [h1] at e1;have h3:n* ((h+d) / n) +d'=n* ((h+d') / n) +d:=by omega
 rcases Nat.lt_trichotomy ((h+d) / n) ((h+d') / n) with hl|he|hl
 ·have:=Nat.mul_le_mul_left n (Nat.succ_le_of_lt hl)
  rw [Nat.mul_succ] at this;omega
 ·rw [he] at h3;omega
 ·have:=Nat.mul_le_mul_left n (Nat.succ_le_of_lt hl)
  rw [Nat.mul_succ] at this;omega
theorem step_lt {n h d:Nat} (hn:0<n) :step n h d<n:=Nat.mod_lt _ hn
theorem step_onto {n h i:Nat} (hi:i<n) (hh:h<n) : ∃d,d<n∧i=step n h d:=by
 unfold step;by_cases hle:h≤i
 ·exact⟨i - h,by omega,by rw [show h+ (i - h) =i by omega,Nat.mod_eq_of_lt hi]⟩
 ·exact⟨n - h+i,by omega,by rw [show h+ (n - h+i) =i+n by omega,Nat.add_mod_right,Nat.mod_eq_of_lt hi]⟩
theorem mem_getR {m:List Nd} (h: (m.map (·.1)).Nodup) {x:Nd} (hx:x∈m) :getR m x.1=x.2:=by
 induction m with
 |nil=>simp at hx
 |cons y m ih=>
  rw [List.map_cons,List.nodup_cons] at h;simp only [getR];rcases List.mem_cons.1 hx with rfl|hx
  ·rw [if_pos rfl]
  ·rw [if_neg]
   ·exact ih h.2 hx
   ·intro he
    exact h.1 (by rw [he];exact List.mem_map_of_mem hx)
theorem getR_mem' {m:List Nd} {id:Int} (h:getR m id≠0) : (id,getR m id)∈m:=by
 induction m with
 |nil=>simp [getR] at h
 |cons y m ih=>
  simp only [getR] at h⊢;by_cases hy:y.1=id
  ·rw [if_pos hy];subst hy;simp
  ·rw [if_neg hy] at h⊢
   exact List.mem_cons_of_mem _ (ih h)
section
variable {b:Nat} {S m:List Nd} {id:Int} {i d:Nat}
theorem PInv.mem (h:PInv b S m) {x:Nd} (hx:S[i]? =some x) (h0:x.2≠0) :x∈m:=
 h.perm.mem_iff.1 (List.mem_filter.2 ⟨List.mem_of_getElem? hx,by simp [full,h0]⟩)
theorem PInv.find (h:PInv b S m) {x:Nd} (hx:x∈m) : ∃i:Nat,S[i]? =some x:=by
 have:=(List.mem_filter.1 (h.perm.mem_iff.2 hx)).1;exact List.getElem?_of_mem this
theorem PInv.one (h:PInv b S m) {j:Nat} {x y:Nd} (hi:S[i]? =some x) (hj:S[j]? =some y) (hx:x.2≠0) (hy:y.2≠0) (he:x.1=y.1) :i=j:=by
 have hn: ((S.filter full).map (·.1)).Nodup:=(h.perm.map _).nodup_iff.2 h.ids
 have key: ∀(l:List Nd) (i j:Nat) (x y:Nd),((l.filter full).map (·.1)).Nodup→l[i]? =some x→l[j]? =some y→x.2≠0→y.2≠0→x.1=y.1→i=j:=by
  intro l
  induction l with
  |nil=>intro i j x y _ hi;simp at hi
  |cons z l ih=>
   intro i j x y hn hi hj hx hy he
   have hmem: ∀(k:Nat) (u:Nd),l[k]? =some u→u.2≠0→u.1∈(l.filter full).map (·.1):=fun k u hu h0=>
    List.mem_map_of_mem (List.mem_filter.2 ⟨List.mem_of_getElem? hu,by simp [full,h0]⟩)
   cases i with
   |zero=>
    cases j with
    |zero=>rfl
    |succ j=>
     simp at hi hj
     subst hi;rw [List.filter_cons,if_pos (by simp [full,hx]),List.map_cons,List.nodup_cons] at hn;exact absurd (by rw [he];exact hmem j y hj hy) hn.1
   |succ i=>
    cases j with
    |zero=>
     simp at hi hj
     subst hj;rw [List.filter_cons,if_pos (by simp [full,hy]),List.map_cons,List.nodup_cons] at hn;exact absurd (by rw [←he];exact hmem i x hi hx) hn.1
    |succ j=>
     simp at hi hj
     congr 1
     refine ih i j x y ?_ hi hj hx hy he;rw [List.filter_cons] at hn
     split at hn
     ·rw [List.map_cons,List.nodup_cons] at hn;exact hn.2
     ·exact hn
 exact key S i j x y hn hi hj hx hy he
theorem PInv.count (h:PInv b S m) : (S.filter full).length=m.length:=h.perm.length_eq
theorem PInv.free (h:PInv b S m) (hm:m.length<2^b) : ∃(i:Nat) (x:Nd),S[i]? =some x∧x.2=0:=by
 have h1: (S.filter full).length<S.length:=by rw [h.count,h.len];exact hm
 obtain⟨x,hx,hf⟩:=List.length_filter_lt_length_iff_exists.1 h1;obtain⟨i,hi⟩:=List.getElem?_of_mem hx;exact⟨i,x,hi,by simpa [full] using hf⟩
theorem PInv.ends (h:PInv b S m) (hm:m.length<2^b) (hb:b≤64) (id:Int) : ∃d,d<2^b∧stopAt S id (step (2^b) (homeOf b id) d):=by
 obtain⟨i,x,hi,hx⟩:=h.free hm;have hlt:i<2^b:=by rw [←h.len];exact(List.getElem?_eq_some_iff.1 hi).1
 obtain⟨d,hd,he⟩:=step_onto hlt (homeOf_lt hb id);exact⟨d,hd,fun y hy=>by rw [←he,hi] at hy;cases hy;exact .inl hx⟩
theorem LookAt.i_lt (hl:LookAt S b id i d) :i<2^b:=by rw [hl.at_];exact step_lt (Nat.two_pow_pos b)
theorem LookAt.slot (h:PInv b S m) (hl:LookAt S b id i d) : ∃x,S[i]? =some x:=by
 have:i<S.length:=by rw [h.len];exact hl.i_lt
 exact⟨_,List.getElem?_eq_getElem this⟩
theorem LookAt.hit (h:PInv b S m) (hl:LookAt S b id i d) (h0:getR m id≠0) :S[i]? =some (id,getR m id):=by
 obtain⟨j,hj⟩:=h.find (getR_mem' h0);obtain⟨D,hD,hjD,hway⟩:=h.reach j _ hj h0
 have hstop:stopAt S id (step (2^b) (homeOf b id) D):=fun y hy=>by
  simp only at hjD;rw [←hjD,hj] at hy
  cases hy
  exact .inr rfl
 rcases Nat.lt_trichotomy d D with hlt|he|hlt
 ·obtain⟨x,hx⟩:=hl.slot h
  have h1:x.2≠0:=hway d hlt x (by rw [←hl.at_];exact hx);have h2:x.1=id:=(hl.stop x hx).resolve_left h1;have h3:=h.one hx hj h1 h0 h2;rw [hl.at_,hjD] at h3;have:=step_inj hl.lt hD h3;omega
 ·rw [hl.at_,he,←hjD];exact hj
 ·exact absurd hstop (hl.way D hlt)
theorem LookAt.miss (h:PInv b S m) (hl:LookAt S b id i d) (h0:getR m id=0) : ∃x,S[i]? =some x∧x.2=0:=by
 obtain⟨x,hx⟩:=hl.slot h;refine⟨x,hx,?_⟩;rcases hl.stop x hx with h1|h1
 ·exact h1
 ·apply Classical.byContradiction
  intro hne;have hm:=h.mem hx hne;have:=mem_getR h.ids hm;rw [h1,h0] at this;exact hne this.symm
theorem LookAt.get (h:PInv b S m) (hl:LookAt S b id i d) : ∃x,S[i]? =some x∧x.2=getR m id∧(getR m id≠0→x.1=id):=by
 by_cases h0:getR m id=0
 ·obtain⟨x,hx,hz⟩:=hl.miss h h0
  exact⟨x,hx,by rw [h0];exact hz,fun h=>absurd h0 h⟩
 ·exact⟨_,hl.hit h h0,rfl,fun _=>rfl⟩
theorem set_split {α:Type} {l:List α} {i:Nat} {y:α} (hi:l[i]? =some y) :l=l.take i ++ y :: l.drop (i+1):=by
 obtain⟨hlt,he⟩:=List.getElem?_eq_some_iff.1 hi;rw [←he,←List.drop_eq_getElem_cons hlt,List.take_append_drop]
theorem filter_set_new {y x:Nd} (hi:S[i]? =some y) (hy:y.2=0) (hx:x.2≠0) : ((S.set i x).filter full).Perm (x :: S.filter full):=by
 have h1:=set_split hi;have hlt:=(List.getElem?_eq_some_iff.1 hi).1;have h2:S.set i x=S.take i ++ x :: S.drop (i+1):=by rw [List.set_eq_take_append_cons_drop,if_pos hlt]
 rw [h2,List.filter_append,List.filter_cons,if_pos (by simp [full,hx])]
 conv=>rhs;rw [h1]
 rw [List.filter_append,List.filter_cons,if_neg (by simp [full,hy])];exact List.perm_middle
theorem filter_set_old {y x:Nd} (hi:S[i]? =some y) (hy:y.2≠0) (hx:x.2≠0) : ∃t,(S.filter full).Perm (y :: t)∧((S.set i x).filter full).Perm (x :: t):=by
 have h1:=set_split hi;have hlt:=(List.getElem?_eq_some_iff.1 hi).1;have h2:S.set i x=S.take i ++ x :: S.drop (i+1):=by rw [List.set_eq_take_append_cons_drop,if_pos hlt]
 refine⟨(S.take i).filter full ++ (S.drop (i+1)).filter full,?_,?_⟩
 ·conv=>lhs;rw [h1]
  rw [List.filter_append,List.filter_cons,if_pos (by simp [full,hy])];exact List.perm_middle
 ·rw [h2,List.filter_append,List.filter_cons,if_pos (by simp [full,hx])]
  exact List.perm_middle
theorem get_set {x y:Nd} {j:Nat} (h: (S.set i x)[j]? =some y) : (j=i∧y=x)∨(j≠i∧S[j]? =some y):=by
 rw [List.getElem?_set] at h;by_cases hij:i=j
 ·subst hij
  rw [if_pos rfl] at h
  split at h
  ·cases h;exact .inl ⟨rfl,rfl⟩
  ·cases h
 ·rw [if_neg hij] at h
  exact .inr ⟨fun e=>hij e.symm,h⟩
theorem PInv.put (h:PInv b S m) (hl:LookAt S b id i d) (h0: ∀x∈m,x.1≠id) {c:Int} (hc:1≤c) :PInv b (S.set i (id,c)) ((id,c) :: m):=by
 have hg:getR m id=0:=getR_none h0;obtain⟨y,hy,hy0⟩:=hl.miss h hg;refine⟨by rw [List.length_set];exact h.len,?_,?_,?_,?_⟩
 ·exact(filter_set_new hy hy0 (by simp only;omega)).trans (h.perm.cons _)
 ·rw [List.map_cons,List.nodup_cons]
  refine⟨fun hm=> ?_,h.ids⟩;obtain⟨x,hx,he⟩:=List.mem_map.1 hm;exact h0 x hx he
 ·intro x hx
  rcases List.mem_cons.1 hx with rfl|hx
  ·exact hc
  ·exact h.pos x hx
 ·intro j x hj hx0
  rcases get_set hj with ⟨rfl,rfl⟩ | ⟨hne,hj⟩
  ·refine⟨d,hl.lt,hl.at_,fun d' hd' z hz=> ?_⟩
   have hw:=hl.way d' hd';rcases get_set hz with ⟨he,rfl⟩ | ⟨_,hz⟩
   ·simp only;omega
   ·intro hz0
    exact hw fun u hu=>by simp only at hz;rw [hz] at hu;cases hu;exact .inl hz0
  ·obtain⟨D,hD,he,hw⟩:=h.reach j x hj hx0
   refine⟨D,hD,he,fun d' hd' z hz=> ?_⟩;rcases get_set hz with ⟨_,rfl⟩ | ⟨_,hz⟩
   ·simp only;omega
   ·exact hw d' hd' z hz
theorem PInv.turn (h:PInv b S m) {v c:Int} {t:List Nd} (hi:S[i]? =some (id,v)) (hv:v≠0) (hc:1≤c) (hm:m.Perm ((id,v) :: t)) :PInv b (S.set i (id,c)) ((id,c) :: t):=by
 obtain⟨t',h1,h2⟩:=filter_set_old (x:=(id,c)) hi hv (by simp only;omega);have ht:t'.Perm t:=((h1.symm.trans h.perm).trans hm).cons_inv;refine⟨by rw [List.length_set];exact h.len,h2.trans (ht.cons _),?_,?_,?_⟩
 ·have:=(hm.map (·.1)).nodup_iff.1 h.ids
  simpa using this
 ·intro x hx
  rcases List.mem_cons.1 hx with rfl|hx
  ·exact hc
  ·exact h.pos x (hm.mem_iff.2 (List.mem_cons_of_mem _ hx))
 ·intro j x hj hx0
  rcases get_set hj with ⟨rfl,rfl⟩ | ⟨hne,hj⟩
  ·obtain⟨D,hD,he,hw⟩:=h.reach _ _ hi hv
   refine⟨D,hD,he,fun d' hd' z hz=> ?_⟩;rcases get_set hz with ⟨_,rfl⟩ | ⟨_,hz⟩
   ·simp only;omega
   ·exact hw d' hd' z hz
  ·obtain⟨D,hD,he,hw⟩:=h.reach j x hj hx0
   refine⟨D,hD,he,fun d' hd' z hz=> ?_⟩;rcases get_set hz with ⟨_,rfl⟩ | ⟨_,hz⟩
   ·simp only;omega
   ·exact hw d' hd' z hz
theorem PInv.perm' (h:PInv b S m) {m':List Nd} (hp:m.Perm m') :PInv b S m':=
 ⟨h.len,h.perm.trans hp,(hp.map _).nodup_iff.1 h.ids,fun x hx=>h.pos x (hp.mem_iff.2 hx),h.reach⟩
theorem PInv.empty (b:Nat) :PInv b (List.replicate (2^b) (0,0)) []:=by
 refine⟨by simp,?_,by simp,by simp,?_⟩
 ·rw [List.filter_eq_nil_iff.2]
  intro x hx;have:=List.eq_of_mem_replicate hx;subst this;simp [full]
 ·intro i x hi h0
  have:=List.eq_of_mem_replicate (List.mem_of_getElem? hi);subst this;simp at h0
end
theorem Roll.ids {r:List Nd} (h:Roll r) : (r.map (·.1)).Nodup:=by
 rw [List.nodup_iff_pairwise_ne,List.pairwise_map];exact h.1.imp fun {a b} hab=>by omega
theorem addR_perm_new {r:List Nd} (hr:Roll r) {id c:Int} (h0:getR r id=0) : (addR r id c).Perm ((id,c) :: r):=by
 induction r with
 |nil=>exact .refl _
 |cons x r ih=>
  have hx:=hr.2 x (by simp);simp only [getR] at h0;by_cases he:x.1=id
  ·rw [if_pos he] at h0;omega
  ·rw [if_neg he] at h0
   simp only [addR];rw [if_neg he]
   split
   ·exact .refl _
   ·exact((ih hr.tail h0).cons x).trans (.swap _ _ _)
theorem addR_perm_old {r:List Nd} (hr:Roll r) {id c:Int} (h0:getR r id≠0) : ∃t,r.Perm ((id,getR r id) :: t)∧(addR r id c).Perm ((id,getR r id+c) :: t):=by
 induction r with
 |nil=>simp [getR] at h0
 |cons x r ih=>
  have hx:=hr.2 x (by simp);simp only [getR] at h0⊢;by_cases he:x.1=id
  ·rw [if_pos he]
   subst he;exact⟨r,.refl _,by simp [addR]⟩
  ·rw [if_neg he] at h0⊢
   obtain⟨t,h1,h2⟩:=ih hr.tail h0
   have hlt: ¬id<x.1:=by
    intro hlt
    apply h0
    exact getR_none fun y hy=>by have:=hr.head y hy;omega
   refine⟨x :: t,(h1.cons x).trans (.swap _ _ _),?_⟩;simp only [addR];rw [if_neg he,if_neg hlt];exact(h2.cons x).trans (.swap _ _ _)
theorem delR_perm {r:List Nd} (hr:Roll r) {id:Int} (h0:getR r id≠0) :r.Perm ((id,getR r id) :: delR r id):=by
 induction r with
 |nil=>simp [getR] at h0
 |cons x r ih=>
  simp only [getR] at h0⊢;by_cases he:x.1=id
  ·rw [if_pos he]
   subst he;simp [delR]
  ·rw [if_neg he] at h0⊢
   simp only [delR];rw [if_neg he];exact((ih hr.tail h0).cons x).trans (.swap _ _ _)
theorem wraps_i64 (n:Int) (h₀:0≤n) (h₁:n<2^63) :IntKind.i64.wrap n=n:=by rw [IntKind.wrap_i64];omega
theorem and_mask (i n b:Nat) (hn:n=2^b) (hb:b≤40) (hi:i<2^62) :bits .and .i64 ((i:Int) +1) ((n:Int) - 1) = ((i+1) % n:Nat):=by
 subst hn;have:=bits_mask .i64 63 (by decide) wraps_i64 b (by omega) ((i:Int) +1) (by omega) (by omega)
 push_cast
 exact this
theorem home_eq (b:Nat) (id:Int) (h2:b≤62) (h1:1≤b) (h3:0≤id) :wrap64 (IntKind.u64.wrap (id*11400714819323198485) / 2^ (64 - b)) = (homeOf b id:Int):=by
 obtain⟨x,rfl⟩:=Int.eq_ofNat_of_zero_le h3;have e1:IntKind.u64.wrap ((x:Int) *11400714819323198485) = ((x*11400714819323198485 % 18446744073709551616:Nat) :Int):=by rw [IntKind.wrap_u64];omega
 rw [e1]
 have e2: ((x*11400714819323198485 % 18446744073709551616:Nat) :Int) / 2^ (64 - b) = (homeOf b x:Int):=by
  unfold homeOf;rw [Int.natCast_ediv,Int.natCast_pow];rfl
 rw [e2];have h4:=homeOf_lt (b:=b) (by omega) (x:Int);have h5:2^b≤2^62:=Nat.pow_le_pow_right (by decide) h2;unfold wrap64;omega
theorem probe_Home (w:World) (b:Nat) (id:Int) (h1:1≤b) (h2:b≤62) (h3:1≤id) (h4:id≤562949953421312) :Calls Tryz.prog 297 #[.int .i64 b,.int .i64 id] w fun e w'=>e=.returned (.int .i64 (homeOf b id))∧Below w.heap.size w w':=by
 have q1: (1:Int)≤(b:Int):=by omega
 have q2: (b:Int)≤62:=by omega
 go_enter Tryz.func297,Tryz.ntmps297
 go_wp2_with fail;go_ret;exact⟨ret_int (home_eq b id h2 h1 (by omega)),bE⟩
def ProbeAt (w:World) (g l:Nat) (r:List Nd) (F:Nat→Prop) :Prop:=
 ∃(v:Value) (S:List Nd) (b:Nat),w.heap[g]? =some (.cells #[.int .i64 l,.int .i64 b,.int .i64 r.length,.int .i64 (sumR r),v] 256 (0,0))∧Own w 0 216 encN v S∧PInv b S r∧3≤b∧b≤34∧2*r.length≤2^b∧F=foot2 g v
theorem probe_next (w:World) (g n b i:Nat) (cs:Array Value) (A:Option Addr) (cap:Nat) (hh:w.heap[g]? =some (.cells cs 256 (0,0))) (hv:cs[4]? =some (.slice A n cap)) (hn:n=2^b) (hb:b≤35) (hi:i<n) :
 Calls Tryz.prog 298 #[.pointer (some ⟨g,0,none⟩),.int .i64 i] w fun e w'=>e=.returned (.int .i64 ((i+1) % n:Nat))∧Below w.heap.size w w':=by
 have c:=(bC hh 4).trans hv;have hN:n≤34359738368:=by rw [hn];have:=Nat.pow_le_pow_right (n:=2) (by decide) hb;simpa using this
 have hp:0<n:=by rw [hn];exact Nat.two_pow_pos b
 have HN:=LH hn;clear hh hv hn
 go_enter Tryz.func298,Tryz.ntmps298
 go_wp2_with fail;go_ret;exact⟨ret_int (and_mask i n b HN.out (by omega) (by omega)),bE⟩
theorem step_succ {n h d:Nat} (hn:0<n) : (step n h d+1) % n=step n h (d+1):=by
 unfold step;rw [Nat.mod_add_mod]
 congr 1
theorem step_next {n h d:Nat} (hn:0<n) : ((step n h d:Nat) +1:Int) % (n:Nat) = (step n h (d+1) :Nat):=by
 have:=step_succ (h:=h) (d:=d) hn
 exact_mod_cast this
theorem val_int {a b:Int} (h:a=b) :Value.int .i64 a=.int .i64 b:=by rw [h]
def LookPost (S:List Nd) (b:Nat) (id:Int) (w:World) (e:Ending) (w':World) :Prop:=∃i d:Nat,e=.returned (.tuple #[.int .i64 i,.int .i64 (d+1:Nat)])∧LookAt S b id i d∧Below w.heap.size w w'
theorem probe_look (w:World) (g b sb off n cap:Nat) (v0 v2 v3:Value) (S m:List Nd) (id:Int) (hh:w.heap[g]? =some (.cells #[v0,.int .i64 b,v2,v3,.slice (some ⟨sb,off,none⟩) n cap] 256 (0,0)))
 (ho:Own w 0 216 encN (.slice (some ⟨sb,off,none⟩) n cap) S) (hI:PInv b S m) (hm:m.length<2^b) (h3:3≤b) (h35:b≤35) (hi1:1≤id) (hi2:id≤562949953421312) :
 Calls Tryz.prog 258 #[.pointer (some ⟨g,0,none⟩),.int .i64 id] w (LookPost S b id w):=by
 obtain rfl:n=S.length:=ho.len_le.1;obtain⟨D,hD,hstop⟩:=hI.ends hm (by omega) id;have hl:=hI.len;have hN:2^b≤34359738368:=by have:=Nat.pow_le_pow_right (n:=2) (by decide) h35;simpa using this
 have hp:0<2^b:=Nat.two_pow_pos b;have hS:=ho.slT;have cc:=bC hh;have zg:=lB hh;have zb:=(ho.lt sb rfl).2;have hC:S.length≤34359738368:=by omega
 have hDN:D<34359738368:=by omega
 have HS:=LH hS;have HH:=LH hh;have HL:=LH hl;have HD:=LH hstop;have HP:=LH (And.intro hN hp);clear hh ho hS hl hI hm hN hp hstop
 go_enter Tryz.func258,Tryz.ntmps258
 go_wp2_with fail
 go_step3
 go_wp2_with fail;refine(probe_Home _ b id (by omega) (by omega) hi1 hi2).mono ?_;rintro e w1 ⟨rfl,hb1⟩;have B1:Below w.heap.size w w1:=Below.then_ bE hb1;have s1:=B1.size;have k1:=bB HH.out hb1;have cc1:=bC k1;have K1:=LH k1;have HB:=LH (HS.out.below hb1);clear cc k1;go_wp2_with fail
 go_step3
 go_wp2_with fail
 go_loopw [6,7] (fun i n wr=>∃d:Nat,d≤D∧i=.int .i64 (step (2^b) (homeOf b id) d)∧n=.int .i64 (d+1:Nat)∧(∀d'<d,¬stopAt S id (step (2^b) (homeOf b id) d'))∧Below w.heap.size w wr) (fun _ n _=>D+1 - (intOf n).toNat)
 case atStart=>exact⟨0,Nat.zero_le _,by simp [step,Nat.mod_eq_of_lt (homeOf_lt (b:=b) (by omega) id)],rfl,by omega,B1⟩
 case round=>
  obtain⟨d,hd,rfl,rfl,hway,hB⟩:=hrel;have HW:=LH hway;clear hway;obtain⟨i,hi⟩ : ∃i,i=step (2^b) (homeOf b id) d:=⟨_,rfl⟩;have hlt:i<S.length:=by rw [HL.out,hi];exact step_lt HP.out.2
  have HI:=LH hi;rw [←hi];have k2:=bB HH.out (hB.mono (Nat.le_refl _));have cc2:=bC k2;have hs:=hB.size;have d0:=(hB.cell (p:=⟨sb,off+i*2+0,none⟩) zb).trans (HS.out.cell_at hlt 0 (.int .i64 S[i].1) rfl);have d1:=(hB.cell (p:=⟨sb,off+i*2+1,none⟩) zb).trans (HS.out.cell_at hlt 1 (.int .i64 S[i].2) rfl);simp only [Nat.add_zero] at d0;obtain⟨x,hx⟩ : ∃x,x=S[i]:=⟨_,rfl⟩;rw [←hx] at d0 d1;have HX:=LH (show S[i]? =some x by rw [hx];exact List.getElem?_eq_getElem hlt);have K2:=LH k2;clear hi hx k2 cc1;go_wp2_with fail
  ·have ht: (x.2 == 0) =true:=by assumption
   rw [Exit.noGoto_ret]
   go_ret2
   exact⟨i,d,rfl,⟨HI.out,by omega,fun y hy=>by rw [HX.out] at hy;cases hy;exact .inl (by simpa using ht),HW.out⟩,bE⟩
  ·have ht: (x.1 == id) =true:=by assumption
   rw [Exit.noGoto_ret]
   go_ret2
   exact⟨i,d,rfl,⟨HI.out,by omega,fun y hy=>by rw [HX.out] at hy;cases hy;exact .inr (by simpa using ht),HW.out⟩,bE⟩
  ·have ht1: (x.2 == 0) =false:=by assumption
   have ht2: (x.1 == id) =false:=by assumption
   have HG:=LH (show ¬stopAt S id (step (2^b) (homeOf b id) d) from fun h=>by
    rw [←HI.out] at h;rcases h x HX.out with h|h
    ·simp [h] at ht1
    ·simp [h] at ht2)
   have k3:=bB K2.out ((Below.refl wr.heap.size wr).alloc (Nat.le_refl _) (.cells #[.int .i64 x.1,.int .i64 x.2] 216))
   have hdD:d<D:=by
    rcases Nat.lt_or_eq_of_le hd with h|h
    ·exact h
    ·subst h;exact absurd HD.out HG.out
   refine(probe_next _ g S.length b i _ _ cap k3 rfl HL.out h35 hlt).mono ?_;rintro e w4 ⟨rfl,hb4⟩;have B4:Below w.heap.size w w4:=Below.then_ bE hb4;have s4:=B4.size;have z4_0:wr.heap.size<w4.heap.size:=by have:=hb4.size;(try simp at this);omega
   have y4_0:wr.heap.size≤w4.heap.size:=Nat.le_of_lt z4_0;have c4_0:=czB hb4 (wr.heap.size);have f4_0:=fzB hb4 (wr.heap.size);go_wp2_with fail;go_roundw
   case rel=>exact⟨d+1,by omega,by rw [HI.out,HL.out];exact val_int (by push_cast;exact_mod_cast step_next HP.out.2),by push_cast;rfl,fun d' hd'=>by
    rcases Nat.lt_or_eq_of_le (Nat.le_of_lt_succ hd') with h|h
    ·exact HW.out d' h
    ·subst h;exact HG.out,bE⟩
   case measure=>simp [intOf];omega
theorem probe_right (w:World) (g l:Nat) (cs:Array Value) (id:Int) (hh:w.heap[g]? =some (.cells cs 256 (0,0))) (hv:cs[0]? =some (.int .i64 l)) :
 Calls Tryz.prog 257 #[.pointer (some ⟨g,0,none⟩),.int .i64 id] w fun e w'=>e=.returned (.bool (isNode l id))∧Below w.heap.size w w':=by
 have c:=(bC hh 0).trans hv;have z:=lB hh;clear hh hv
 go_enter Tryz.func257,Tryz.ntmps257
 go_wp2_with fail;refine(twig_Right _ l id).mono ?_;rintro e w1 ⟨rfl,hb1⟩;have B1:Below w.heap.size w w1:=Below.then_ bE hb1;have s1:=B1.size;go_wp2_with fail;go_ret;exact⟨rfl,bE⟩
theorem probe_L (w:World) (g l:Nat) (r:List Nd) (F:Nat→Prop) (h:ProbeAt w g l r F) :Calls Tryz.prog 187 #[.pointer (some ⟨g,0,none⟩)] w fun e w'=>e=.returned (.int .i64 l)∧Below w.heap.size w w':=by
 obtain⟨v,S,b,hh,_⟩:=h;have c:=bC hh;have z:=lB hh;clear hh
 go_enter Tryz.func187,Tryz.ntmps187
 go_wp2_with fail;go_ret;exact⟨rfl,bE⟩
theorem probe_Total (w:World) (g l:Nat) (r:List Nd) (F:Nat→Prop) (h:ProbeAt w g l r F) :Calls Tryz.prog 137 #[.pointer (some ⟨g,0,none⟩)] w fun e w'=>e=.returned (.int .i64 (sumR r))∧Below w.heap.size w w':=by
 obtain⟨v,S,b,hh,_⟩:=h;have c:=bC hh;have z:=lB hh;clear hh
 go_enter Tryz.func137,Tryz.ntmps137
 go_wp2_with fail;go_ret;exact⟨rfl,bE⟩
theorem infoN: ((Tryz.prog).info? 216).map (fun i=>(i.zero,i.size,i.bytes)) =some (some (.agg #[.int .i64 0,.int .i64 0]),2,16):=by kernel_rfl
theorem probe_New_no (w:World) (l:Int) (h:l<1∨48<l) :Calls Tryz.prog 238 #[.int .i64 l] w fun e w'=>e=.returned (.tuple #[.pointer none,.int .i64 2])∧Below w.heap.size w w':=by
 by_cases h1:l<1
 ·go_enter Tryz.func238,Tryz.ntmps238
  go_wp2_with fail
  go_ret2
  exact⟨rfl,bE⟩
 ·have h2:48<l:=by omega
  go_enter Tryz.func238,Tryz.ntmps238
  go_wp2_with fail
  go_ret2
  exact⟨rfl,bE⟩
theorem probe_New (w:World) (n:Nat) (h1:1≤n) (h2:n≤48) :Calls Tryz.prog 238 #[.int .i64 n] w fun e w'=>
 ∃g F,e=.returned (.tuple #[.pointer (some ⟨g,0,none⟩),.int .i64 0])∧ProbeAt w' g n [] F∧(∀b,F b→w.heap.size≤b)∧Below w.heap.size w w':=by
 obtain⟨i,hi,hz0,hz1,hz2⟩:=info_parts infoN;have q1: (1:Int)≤(n:Int):=by omega
 have q2: (n:Int)≤48:=by omega
 go_enter Tryz.func238,Tryz.ntmps238
 go_wp2_with ((at_make;refine wpList_make_full _ rfl _ _ 129 rfl w.heap.size 216 i (.agg #[.int .i64 0,.int .i64 0]) 2 Tryz.underlying129 hi hz0 hz1 _ _ _ _ 8 rfl rfl ?hL ?hC ?b2 ?b3 ?b4 ?hK))
 case hL=>simp
 case hC=>simp
 case b2=>rw [hz2];decide
 case b3=>simp only [maxLen];omega
 case b4=>exact Nat.le_refl _
 case hK=>
  intro w1 hr hg;have hmf:=made_flat encN (0,0) #[.int .i64 0,.int .i64 0] 8 rfl (by decide);simp only [Nat.reduceMul] at hmf;rw [hmf] at hr;have ho:=Own.of_row hr (by simp) (by decide);have HO:=LH ho;have b1:Below w.heap.size w w1:=(Below.refl _ _).grown hg (Nat.le_refl _) (fun k hk=>by cases hk);have z1:=b1.size;clear hr ho hg hmf;go_wp2_with fail
  go_ret2
  exact⟨w1.heap.size,_,rfl,⟨_,_,3,heap_new_at w1 _ _ rfl,(HO.out.base_le (Nat.zero_le _)).alloc _,PInv.empty 3,by omega,by omega,by simp,rfl⟩,fun b hb=>by
   rcases hb with rfl|hb
   ·exact z1
   ·cases hb;exact Nat.le_refl _,bE⟩
theorem take_filter_succ {S:List Nd} {k:Nat} (hk:k<S.length) (x:Nd) (hx:S[k]? =some x) : (S.take (k+1)).filter full= (S.take k).filter full ++ if x.2=0 then [] else [x]:=by
 rw [List.getElem?_eq_getElem hk] at hx
 injection hx with hx
 rw [List.take_succ_eq_append_getElem hk,List.filter_append,hx]
 congr 1
 rw [List.filter_cons];by_cases h:x.2=0
 ·simp [full,h]
 ·simp [full,h]
theorem PInv.put_next {b b':Nat} {S S' m:List Nd} {k i d:Nat} {x:Nd} (h:PInv b S m) (h':PInv b' S' ((S.take k).filter full)) (hk:k<S.length) (hx:S[k]? =some x) (h0:x.2≠0) (hl:LookAt S' b' x.1 i d) :
 PInv b' (S'.set i x) ((S.take (k+1)).filter full):=by
 have h1: ∀y∈(S.take k).filter full,y.1≠x.1:=by
  intro y hy he;obtain⟨hy,hf⟩:=List.mem_filter.1 hy;obtain⟨j,hj⟩:=List.getElem?_of_mem hy;rw [List.getElem?_take] at hj
  split at hj
  ·rename_i hlt
   have:=h.one hj hx (by simpa [full] using hf) h0 he;omega
  ·cases hj
 have h2:1≤x.2:=h.pos x (h.mem hx h0);have h3:=h'.put hl h1 h2;rw [take_filter_succ hk x hx,if_neg h0];exact h3.perm' (List.perm_append_comm (l₁:= [x]))
theorem PInv.nonneg {b:Nat} {S m:List Nd} (h:PInv b S m) {i:Nat} {x:Nd} (hx:S[i]? =some x) :0≤x.2:=by
 by_cases h0:x.2=0
 ·omega
 ·have:=h.pos x (h.mem hx h0);omega
theorem set_set {S:List Nd} {i:Nat} (x y:Nd) : (S.set i y).set i x=S.set i x:=by simp
theorem own_slot {w:World} {base b off n cap:Nat} {S:List Nd} (h:Own w base 216 encN (.slice (some ⟨b,off,none⟩) n cap) S) (i:Nat) (hi:i<S.length) (x:Nd) :
 Own ((w.setCell ⟨b,off+i*2,none⟩ (.int .i64 x.1)).setCell ⟨b,off+i*2+1,none⟩ (.int .i64 x.2)) base 216 encN (.slice (some ⟨b,off,none⟩) n cap) (S.set i x):=by
 have h1:=h.setElem i 0 hi (by decide) (.int .i64 x.1) (x.1,S[i].2) rfl;have h2:=h1.setElem i 1 (by simpa using hi) (by decide) (.int .i64 x.2) x (by simp [encN]);rw [set_set] at h2;exact h2
def WidenPost (g b:Nat) (v0 v2 v3:Value) (m:List Nd) (w:World) (e:Ending) (w':World) :Prop:=
 ∃(sb off cap:Nat) (S':List Nd),e=.returned (.tuple #[])∧w'.heap[g]? =some (.cells #[v0,.int .i64 (b+1:Nat),v2,v3,.slice (some ⟨sb,off,none⟩) S'.length cap] 256 (0,0))∧w.heap.size≤sb∧
  Own w' 0 216 encN (.slice (some ⟨sb,off,none⟩) S'.length cap) S'∧PInv (b+1) S' m∧Turn (fun x=>x=g) w w'
theorem probe_widen (w:World) (g b sb off cap:Nat) (v0 v2 v3:Value) (S m:List Nd) (hh:w.heap[g]? =some (.cells #[v0,.int .i64 b,v2,v3,.slice (some ⟨sb,off,none⟩) S.length cap] 256 (0,0)))
 (ho:Own w 0 216 encN (.slice (some ⟨sb,off,none⟩) S.length cap) S) (hI:PInv b S m) (h3:3≤b) (h34:b≤34) (hid: ∀x∈m,1≤x.1∧x.1≤562949953421312) :
 Calls Tryz.prog 265 #[.pointer (some ⟨g,0,none⟩)] w (WidenPost g b v0 v2 v3 m w):=by
 obtain⟨i0,hi,hz0,hz1,hz2⟩:=info_parts infoN;have q1: (3:Int)≤(b:Int):=by omega
 have q2: (b:Int)≤34:=by omega
 have q3: (2:Int) ^ (b+1)≤34359738368:=by have:=pow_le' (show b+1≤35 by omega);simpa using this
 have q4:=pow_pos' (b+1);have q5:2^ (b+1)≤34359738368:=by have:=Nat.pow_le_pow_right (n:=2) (by decide) (show b+1≤35 by omega);simpa using this
 have Q5:=LH q5;have hSl:S.length≤34359738368:=by have:=hI.len;rw [Nat.pow_succ] at q5;omega
 have cc:=bC hh;have cf:=bF hh;have zg:=lB hh;have H:=LH hh;have HO:=LH ho;have HI:=LH hI;have HD:=LH hid;clear hh ho hI q5 hid
 go_enter Tryz.func265,Tryz.ntmps265
 go_wp2_with ((at_make;refine wpList_make_full _ rfl _ _ 129 rfl w.heap.size 216 i0 (.agg #[.int .i64 0,.int .i64 0]) 2 Tryz.underlying129 hi hz0 hz1 _ _ _ _ (2^ (b+1)) rfl rfl ?hL ?hC ?b2 ?b3 ?b4 ?hK))
 case hL=>simp
 case hC=>simp
 case b2=>rw [hz2];have:=Q5.out;omega
 case b3=>have:=Q5.out;simp only [maxLen];omega
 case b4=>simp
 case hK=>
  intro w1 hr hg;have hmf:=made_flat encN (0,0) #[.int .i64 0,.int .i64 0] (2^ (b+1)) rfl (by decide);rw [hmf] at hr;have ho1:=Own.of_row hr (by simp) (by decide);have k1:=zH (i:=1) H.out (.int .i64 (b+1:Nat));have hgs:=hg.size;simp only [World.setCell,Array.size_modify] at hgs;have k2:=(hg.block g (by simpa using zg) (by simp)).trans k1;have hnb:g≠sb:=fun he=>HO.out.ne_block H.out (by decide) (by rw [he];rfl);have hT:Turn (fun x=>x=g) w w1:=((Turn.refl (fun x=>x=g) w).setCell (p:=⟨g,1,none⟩) (.inl rfl) (.int .i64 ((b:Int) +1))).grown hg (fun _ h=>by cases h);have cc1:=bC k2;have cf1:=bF k2;have zg1:=lB k2;have HR:=LH (ho1.base_le (b:=w.heap.size) (by simp));have K2:=LH k2;clear hr hg hmf ho1 k1 k2 cc cf;go_wp2_with fail
  go_loopw [29] (fun i wr=>∃(k:Nat) (S':List Nd),k≤S.length∧i=.int .i64 k∧wr.heap[g]? =some (.cells #[v0,.int .i64 (b+1:Nat),v2,v3,.slice (some ⟨w.heap.size,0,none⟩) (2^ (b+1)) (2^ (b+1))] 256 (0,0))∧
   Own wr w.heap.size 216 encN (.slice (some ⟨w.heap.size,0,none⟩) (2^ (b+1)) (2^ (b+1))) S'∧PInv (b+1) S' ((S.take k).filter full)∧Turn (fun x=>x=g) w wr) (fun i _=>S.length - (intOf i).toNat)
  case atStart=>exact⟨0,_,Nat.zero_le _,rfl,zH K2.out _,HR.out.setCell (by simp [Value.ownBlock];omega) _,PInv.empty (b+1),hT.setCell (.inl rfl) _⟩
  case round=>
   obtain⟨k,S',hk,rfl,hg4,hown,hP,hTr⟩:=hrel;have hs:=hTr.size;have zg2:=lB hg4;have cc2:=bC hg4;have cf2:=bF hg4;have KG:=LH hg4;have KO:=LH hown;have KP:=LH hP;have KS:=LH (hTr.own HO.out (fun q hq=>by cases hq;exact fun h=>hnb h.symm));clear cc1 cf1 hg4 hown hP;by_cases hlt:k<S.length
   ·have d0:=KS.out.slT.cell_at hlt 0 (.int .i64 S[k].1) rfl
    have d1:=KS.out.slT.cell_at hlt 1 (.int .i64 S[k].2) rfl;have zs:=(KS.out.lt sb rfl).2;simp only [Nat.add_zero] at d0;obtain⟨x,hx⟩ : ∃x,x=S[k]:=⟨_,rfl⟩;rw [←hx] at d0 d1;have HX:=LH (show S[k]? =some x by rw [hx];exact List.getElem?_eq_getElem hlt);clear hx;by_cases hx0:0<x.2
    ·have hmem:=HI.out.mem HX.out (by omega)
     have hxi:=HD.out x hmem
     have hfr: ((S.take k).filter full).length<2^ (b+1):=by
      have h1:=List.length_filter_le full (S.take k);have h2: (S.take k).length≤S.length:=List.length_take_le' _ _;have h3:=HI.out.len;have h4:=Nat.two_pow_pos b;rw [Nat.pow_succ];omega
     have HF:=LH hfr;have HA:=LH ((Below.refl wr.heap.size wr).alloc (Nat.le_refl _) (.cells #[.int .i64 x.1,.int .i64 x.2] 216));clear hmem hfr;go_wp2_with fail;refine(probe_look _ g (b+1) w.heap.size 0 _ _ v0 v2 v3 S' ((S.take k).filter full) x.1 (bB KG.out HA.out) ((KO.out.base_le (Nat.zero_le _)).alloc _) KP.out HF.out (by omega) (by omega) hxi.1 hxi.2).mono ?_;rintro e w2 ⟨i,d,rfl,hL,hb2⟩;have B2:=hb2;have A2:=HA.out.trans (hb2.mono (by simp));have k2:=bB KG.out A2;have o2:=KO.out.below A2;have hil:i<S'.length:=by rw [KP.out.len];exact hL.i_lt
     have cb:=bC (bB (heap_new_at wr (.cells #[.int .i64 x.1,.int .i64 x.2] 216) _ rfl) hb2);have c2:=bC k2;have f2:=bF k2;have d2:=o2.slT.cell_at hil 0 (.int .i64 S'[i].1) rfl;have d3:=o2.slT.cell_at hil 1 (.int .i64 S'[i].2) rfl;simp only [Nat.add_zero,Nat.zero_add] at d2 d3;have fb:=o2.frozen;have KG2:=LH k2;have KO2:=LH o2;have KL:=LH hL;have T2:=LH (hTr.more A2);have hiN: (i:Int) <2^ (b+1):=by have:=hL.i_lt;exact_mod_cast this
     have hiN2:i<2^ (b+1):=hL.i_lt;have zo2:=(o2.lt _ rfl).2;have zg3:=lB k2;clear hL hb2 B2 k2 o2 cc2 cf2 A2;go_wp2_with fail
     go_region
     have o4:=own_slot KO2.out i hil x;simp only [Nat.zero_add] at o4;have P4:=LH (HI.out.put_next KP.out hlt HX.out (by omega) KL.out);have O4:=LH o4;have hgw:g≠w.heap.size:=by omega
     have k4:=(Below.heap_setCell _ ⟨w.heap.size,i*2+1,none⟩ (.int .i64 x.2) g hgw).trans ((Below.heap_setCell w2 ⟨w.heap.size,i*2,none⟩ (.int .i64 x.1) g hgw).trans KG2.out);have K4:=LH k4;clear o4 k4;go_wp2_with fail;go_roundw
     case rel=>exact⟨k+1,_,by omega,by go_num,K4.out,O4.out,P4.out,((T2.out.setCell (.inr (Nat.le_refl _)) _).setCell (.inr (Nat.le_refl _)) _).drew⟩
     case measure=>simp [intOf];omega
    ·go_wp2_with fail
     go_roundw
     case rel=>exact⟨k+1,S',by omega,by go_num,(bB KG.out ((Below.refl wr.heap.size wr).alloc (Nat.le_refl _) _)),KO.out.alloc _,by
      rw [take_filter_succ hlt x HX.out,if_pos (by have:=HI.out.nonneg HX.out;omega),List.append_nil];exact KP.out,hTr.alloc _⟩
     case measure=>simp [intOf];omega
   ·obtain rfl:k=S.length:=by omega
    rw [List.take_length] at KP;go_wp2_with fail
    go_end0
    have hl:S'.length=2^ (b+1):=KP.out.len;exact⟨w.heap.size,0,2^ (b+1),S',rfl,by rw [hl];exact KG.out,Nat.le_refl _,by rw [hl];exact KO.out.base_le (Nat.zero_le _),KP.out.perm' HI.out.perm,hTr⟩
theorem perm_turn {b i:Nat} {S r:List Nd} {id c:Int} (hr:Roll r) (h:PInv b S r) (hi:S[i]? =some (id,getR r id)) (h0:getR r id≠0) (hc:1≤getR r id+c) :PInv b (S.set i (id,getR r id+c)) (addR r id c):=by
 obtain⟨t,h1,h2⟩:=addR_perm_old (c:=c) hr h0;exact(h.turn hi h0 hc h1).perm' h2.symm
theorem perm_put {b i d:Nat} {S r:List Nd} {id c:Int} (hr:Roll r) (h:PInv b S r) (hl:LookAt S b id i d) (h0:getR r id=0) (hc:1≤c) :PInv b (S.set i (id,c)) (addR r id c):=by
 refine(h.put hl (fun x hx he=> ?_) hc).perm' (addR_perm_new hr h0).symm;have:=mem_getR h.ids hx;rw [he,h0] at this;have:=h.pos x hx;omega
theorem probe_stored_old {w:World} {g l b sb off cap i:Nat} {r r' S:List Nd} {id v m a:Int} {v3:Value} (hh:w.heap[g]? =some (.cells #[.int .i64 l,.int .i64 b,.int .i64 r.length,v3,.slice (some ⟨sb,off,none⟩) S.length cap] 256 (0,0)))
 (ho:Own w 0 216 encN (.slice (some ⟨sb,off,none⟩) S.length cap) S) (hi:S[i]? =some (id,v)) (hI:PInv b (S.set i (id,a)) r') (h3:3≤b) (h34:b≤34) (hfree:2*r'.length≤2^b) (hu:r'.length=r.length) (hm:sumR r'=m) :
 ProbeAt ((w.setCell ⟨sb,off+i*2+1,none⟩ (.int .i64 a)).setCell ⟨g,3,none⟩ (.int .i64 m)) g l r' (foot2 g (.slice (some ⟨sb,off,none⟩) S.length cap)):=by
 have hlt:=(List.getElem?_eq_some_iff.1 hi).1;have hne:=ho.ne_block hh (by decide);have hgb:g≠sb:=fun he=>hne (by rw [he];rfl);have he:S[i] = (id,v):=(List.getElem?_eq_some_iff.1 hi).2;have o2:=ho.setElem i 1 hlt (by decide) (.int .i64 a) (id,a) (by rw [he];rfl);have k2: (w.setCell ⟨sb,off+i*2+1,none⟩ (.int .i64 a)).heap[g]? =_:=(Below.heap_setCell _ _ _ _ hgb).trans hh;have k3:=zH (i:=3) k2 (.int .i64 m);have o3:=o2.setCell (p:=⟨g,3,none⟩) (o2.ne_block k2 (by decide)) (.int .i64 m);subst hm;exact⟨_,S.set i (id,a),b,by rw [k3,hu];rfl,o3,hI,h3,h34,hfree,rfl⟩
theorem probe_stored_new {w:World} {g l b sb off cap i u n:Nat} {r' S:List Nd} {id c m:Int} {v3:Value} (hh:w.heap[g]? =some (.cells #[.int .i64 l,.int .i64 b,.int .i64 u,v3,.slice (some ⟨sb,off,none⟩) n cap] 256 (0,0)))
 (ho:Own w 0 216 encN (.slice (some ⟨sb,off,none⟩) n cap) S) (hi:i<S.length) (hI:PInv b (S.set i (id,c)) r') (h3:3≤b) (h34:b≤34) (hfree:2*r'.length≤2^b) (hu:r'.length=u) (hm:sumR r'=m) :
 ProbeAt (((w.setCell ⟨sb,off+i*2,none⟩ (.int .i64 id)).setCell ⟨sb,off+i*2+1,none⟩ (.int .i64 c)).setCell ⟨g,3,none⟩ (.int .i64 m)) g l r' (foot2 g (.slice (some ⟨sb,off,none⟩) n cap)):=by
 have hne:=ho.ne_block hh (by decide);have hgb:g≠sb:=fun he=>hne (by rw [he];rfl);have o2:=own_slot ho i hi (id,c);have k1: (w.setCell ⟨sb,off+i*2,none⟩ (.int .i64 id)).heap[g]? =_:=(Below.heap_setCell _ _ _ _ hgb).trans hh;have k2: ((w.setCell ⟨sb,off+i*2,none⟩ (.int .i64 id)).setCell ⟨sb,off+i*2+1,none⟩ (.int .i64 c)).heap[g]? =_:=(Below.heap_setCell _ _ _ _ hgb).trans k1;have k3:=zH (i:=3) k2 (.int .i64 m);have o3:=o2.setCell (p:=⟨g,3,none⟩) (o2.ne_block k2 (by decide)) (.int .i64 m);subst hm hu;exact⟨_,S.set i (id,c),b,by rw [k3];rfl,o3,hI,h3,h34,hfree,rfl⟩
def AddPost (w:World) (g l:Nat) (r:List Nd) (F:Nat→Prop) (e:Ending) (w':World) :Prop:=∃F',e=.returned (.int .i64 0)∧ProbeAt w' g l r F'∧Turn F w w'∧Grow w F F'
theorem probe_Add_old (w:World) (g l:Nat) (r:List Nd) (F:Nat→Prop) (h:ProbeAt w g l r F) (hf:Fits l r) (h1:1≤l) (h2:l≤48) (k:Nat) (hk1:1≤k) (hk2:k<2*2^l) (c:Int) (hc:0<c) (hsum:sumR r+c≤72057594037927935) (h0:0<getR r k) :
 Calls Tryz.prog 215 #[.pointer (some ⟨g,0,none⟩),.int .i64 k,.int .i64 c] w (AddPost w g l (addR r k c) F):=by
 have HN:=LH (isNode_of h1 (by omega) hk1 hk2);have hs0:=sumR_nonneg hf.roll;have hlen:=len_le_sum hf.roll;have hgs:=getR_le_sum hf.roll k;have HA:=LH (show addOf (sumR r) c= (sumR r+c,true) by simp only [addOf];rw [if_pos (by omega)])
 have hkb: (k:Int)≤562949953421312:=by have:=pow_48 h2;have h3: (k:Int) <2*2^l:=by exact_mod_cast hk2
                                       omega
 obtain⟨v,S,b,hh,ho,hI,hq3,hq34,hfree,rfl⟩:=h;obtain⟨sb,off,cap,rfl,hcap⟩:=own_at0 ho (by rw [hI.len];exact Nat.two_pow_pos b);have hm:r.length<2^b:=by have:=Nat.two_pow_pos b;omega
 have hl:=hI.len;have hSl:S.length≤34359738368:=by rw [hl];have:=Nat.pow_le_pow_right (n:=2) (by decide) (show b≤35 by omega);simpa using this
 have cc:=bC hh;have cf:=bF hh;have zg:=lB hh;have zb:=(ho.lt _ rfl).2;have hnb:g≠sb:=fun he=>ho.ne_block hh (by decide) (by rw [he];rfl);have H:=LH hh;have HO:=LH ho;have HI:=LH hI;have HF:=LH (And.intro hm (And.intro hfree hl));clear hh ho hI hfree hl hm
 go_enter Tryz.func215,Tryz.ntmps215
 go_wp2_with fail;refine(probe_right _ g l _ k H.out rfl).mono ?_;rintro e w1 ⟨rfl,hb1⟩;have B1:Below w.heap.size w w1:=Below.then_ bE hb1;have s1:=B1.size;rw [HN.out];have k1:=bB H.out hb1;have o1:=HO.out.below hb1;have cc1:=bC k1;have cf1:=bF k1;have K1:=LH k1;have O1:=LH o1;clear cc cf k1 o1;go_wp2_with fail;refine(reckon_Add _ (sumR r) c (by omega) (by omega)).mono ?_;rintro e w2 ⟨rfl,hb2⟩;have B2:Below w.heap.size w w2:=Below.then_ bE hb2;have s2:=B2.size;rw [HA.out];unfold okV;have k2:=bB K1.out hb2;have o2:=O1.out.below hb2;have cc2:=bC k2;have K2:=LH k2;have O2:=LH o2;clear cc1 cf1 k2 o2;go_wp2_with fail;refine(probe_look _ g b sb off _ cap _ _ _ S r k K2.out O2.out HI.out HF.out.1 hq3 (by omega) (by omega) hkb).mono ?_;rintro e w3 ⟨i,d,rfl,hL,hb3⟩;have B3:Below w.heap.size w w3:=Below.then_ bE hb3;have s3:=B3.size;have k3:=bB K2.out hb3;have o3:=O2.out.below hb3;have cc3:=bC k3;have cf3:=bF k3;have hil:i<S.length:=by rw [HF.out.2.2];exact hL.i_lt
 have hx:=hL.hit HI.out (by omega);have d0:=o3.slT.cell_at hil 0 (.int .i64 S[i].1) rfl;have d1:=o3.slT.cell_at hil 1 (.int .i64 S[i].2) rfl;rw [List.getElem?_eq_getElem hil] at hx
 injection hx with hx
 rw [hx] at d0 d1;simp only [Nat.add_zero] at d0 d1;have fb:=o3.frozen;have zg3:=lB k3;have zb3:=(o3.lt _ rfl).2;have K3:=LH k3;have O3:=LH o3;have HX:=LH (show S[i]? =some ((k:Int),getR r k) by rw [←hx];exact List.getElem?_eq_getElem hil);have T3:Turn (foot2 g (.slice (some ⟨sb,off,none⟩) S.length cap)) w w3:=.of_below B3;clear hL hx cc2 k3 o3 hb3;have hil2: (i:Int) < (S.length:Int):=by omega
 go_wp2_with fail;go_ret;refine⟨_,rfl,?_,?_,Grow.refl⟩
 ·exact probe_stored_old (r':=addR r k c) K3.out O3.out HX.out (perm_turn hf.roll HI.out HX.out (by omega) (by omega)) hq3 hq34 (by rw [len_add hf.roll,if_neg (by omega)];exact HF.out.2.1) (by rw [len_add hf.roll,if_neg (by omega)]) (sumR_add r k c)
 ·refine Turn.setCell (Turn.setCell T3 ?_ _) ?_ _
  ·exact .inl (.inr rfl)
  ·exact .inl (.inl rfl)
theorem probe_Add_new (w:World) (g l:Nat) (r:List Nd) (F:Nat→Prop) (h:ProbeAt w g l r F) (hf:Fits l r) (h1:1≤l) (h2:l≤48) (k:Nat) (hk1:1≤k) (hk2:k<2*2^l) (c:Int) (hc:0<c) (hsum:sumR r+c≤72057594037927935) (h0:getR r k=0) (hr30:r.length<1073741824) :
 Calls Tryz.prog 215 #[.pointer (some ⟨g,0,none⟩),.int .i64 k,.int .i64 c] w (AddPost w g l (addR r k c) F):=by
 have HN:=LH (isNode_of h1 (by omega) hk1 hk2);have hs0:=sumR_nonneg hf.roll;have hlen:=len_le_sum hf.roll;have hgs:=getR_le_sum hf.roll k;have HA:=LH (show addOf (sumR r) c= (sumR r+c,true) by simp only [addOf];rw [if_pos (by omega)])
 have hkb: (k:Int)≤562949953421312:=by have:=pow_48 h2;have h3: (k:Int) <2*2^l:=by exact_mod_cast hk2
                                       omega
 obtain⟨v,S,b,hh,ho,hI,hq3,hq34,hfree,rfl⟩:=h;obtain⟨sb,off,cap,rfl,hcap⟩:=own_at0 ho (by rw [hI.len];exact Nat.two_pow_pos b);have hm:r.length<2^b:=by have:=Nat.two_pow_pos b;omega
 have hl:=hI.len;have hSl:S.length≤34359738368:=by rw [hl];have:=Nat.pow_le_pow_right (n:=2) (by decide) (show b≤35 by omega);simpa using this
 have cc:=bC hh;have cf:=bF hh;have zg:=lB hh;have zb:=(ho.lt _ rfl).2;have hnb:g≠sb:=fun he=>ho.ne_block hh (by decide) (by rw [he];rfl);have H:=LH hh;have HO:=LH ho;have HI:=LH hI;have HF:=LH (And.intro hm (And.intro hfree hl));clear hh ho hI hfree hl hm
 go_enter Tryz.func215,Tryz.ntmps215
 go_wp2_with fail;refine(probe_right _ g l _ k H.out rfl).mono ?_;rintro e w1 ⟨rfl,hb1⟩;have B1:Below w.heap.size w w1:=Below.then_ bE hb1;have s1:=B1.size;rw [HN.out];have k1:=bB H.out hb1;have o1:=HO.out.below hb1;have cc1:=bC k1;have cf1:=bF k1;have K1:=LH k1;have O1:=LH o1;clear cc cf k1 o1;go_wp2_with fail;refine(reckon_Add _ (sumR r) c (by omega) (by omega)).mono ?_;rintro e w2 ⟨rfl,hb2⟩;have B2:Below w.heap.size w w2:=Below.then_ bE hb2;have s2:=B2.size;rw [HA.out];unfold okV;have k2:=bB K1.out hb2;have o2:=O1.out.below hb2;have cc2:=bC k2;have K2:=LH k2;have O2:=LH o2;clear cc1 cf1 k2 o2;go_wp2_with fail;refine(probe_look _ g b sb off _ cap _ _ _ S r k K2.out O2.out HI.out HF.out.1 hq3 (by omega) (by omega) hkb).mono ?_;rintro e w3 ⟨i,d,rfl,hL,hb3⟩;have B3:Below w.heap.size w w3:=Below.then_ bE hb3;have s3:=B3.size;have k3:=bB K2.out hb3;have o3:=O2.out.below hb3;have cc3:=bC k3;have cf3:=bF k3;have hil:i<S.length:=by rw [HF.out.2.2];exact hL.i_lt
 obtain⟨x,hx,hx0⟩:=hL.miss HI.out h0;have d1:=o3.slT.cell_at hil 1 (.int .i64 S[i].2) rfl;rw [List.getElem?_eq_getElem hil] at hx
 injection hx with hx
 rw [hx,hx0] at d1;have fb:=o3.frozen;have zg3:=lB k3;have zb3:=(o3.lt _ rfl).2;have K3:=LH k3;have O3:=LH o3;have HL:=LH hL;have HE:=LH (len_add hf.roll (k:Int) c);have H0:=LH h0;have T3:Turn (foot2 g (.slice (some ⟨sb,off,none⟩) S.length cap)) w w3:=.of_below B3;have HX:=LH (And.intro hx hx0);clear hL hx hx0 cc2 k3 o3 hb3 h0 hgs;have hil2: (i:Int) < (S.length:Int):=by omega
 have k4:=zH (i:=2) K3.out (.int .i64 ((r.length:Int) +1));have o4:=O3.out.setCell (p:=⟨g,2,none⟩) (O3.out.ne_block K3.out (by decide)) (.int .i64 ((r.length:Int) +1));have T4:=T3.setCell (p:=⟨g,2,none⟩) (.inl (.inl rfl)) (.int .i64 ((r.length:Int) +1));have K4:=LH k4;have O4:=LH o4;clear k4 o4;go_wp2_with fail;refine rX (by kernel_rfl) (by kernel_rfl) ?_
 repeat (go_big_quiet_step (fail))
 refine wpQuiet_nil ?_;intro w5 hb5;replace hb5:=bX hb5;have k5:=bB K4.out hb5;have o5:=O4.out.below hb5;have T5:=T4.more hb5;have cc5:=bC k5;have cf5:=bF k5;have fb5:=o5.frozen;have zg5:=lB k5;have zb5:=(o5.lt _ rfl).2;have K5:=LH k5;have O5:=LH o5;clear cc3 cf3 fb zg3 zb3 d1 T3 T4 k5 o5 hb5;by_cases hw:2* ((r.length:Int) +1) >S.length
 ·have hw': (S.length:Int) <2* ((r.length:Int) +1):=hw
  have hb31:b≤31:=by
   apply Classical.byContradiction
   intro hn;have h1:=Nat.pow_le_pow_right (n:=2) (by decide) (show 32≤b by omega);have h2:=HF.out.2.2;omega
  have HW:=LH hw';have hK5:w5.heap[g]? =some (.cells #[.int .i64 l,.int .i64 b,.int .i64 (r.length+1:Nat),.int .i64 (sumR r),.slice (some ⟨sb,off,none⟩) S.length cap] 256 (0,0)):=K5.out;have HK5:=LH hK5;clear hK5;go_wp2_with fail;refine(probe_widen _ g b sb off cap _ _ _ S r HK5.out O5.out HI.out hq3 hq34 (fun y hy=>⟨(hf.roll.2 y hy).1,by have h1:=hf.lt y hy;have:=pow_48 h2;omega⟩)).mono ?_;rintro e w6 ⟨sb',off',cap',S',rfl,k6,hsb',o6,hI6,T6⟩;have z6:=T6.size;have z5:=T5.size;have HZ:w.heap.size≤sb':=Nat.le_trans z5 hsb';have T6':=T5.trans T6 (fun q hq=>.inl (by subst hq;exact .inl rfl));have cc6:=bC k6;have K6:=LH k6;have O6:=LH o6;have HI6:=LH hI6;clear cc5 cf5 fb5 zb5 k6 o6 hI6;go_wp2_with fail;refine(probe_look _ g (b+1) sb' off' _ cap' _ _ _ S' r k K6.out O6.out HI6.out (by have:=HF.out.1;rw [Nat.pow_succ];omega) (by omega) (by omega) (by omega) hkb).mono ?_;rintro e w7 ⟨i',d',rfl,hL7,hb7⟩;have k7:=bB K6.out hb7;have o7:=O6.out.below hb7;have T7:=T6'.more hb7;have hil7:i'<S'.length:=by rw [HI6.out.len];exact hL7.i_lt
  obtain⟨x7,hx7,hx70⟩:=hL7.miss HI6.out H0.out;rw [List.getElem?_eq_getElem hil7] at hx7
  injection hx7 with hx7
  have d6:=o7.slT.cell_at hil7 0 (.int .i64 S'[i'].1) rfl;have d7:=o7.slT.cell_at hil7 1 (.int .i64 S'[i'].2) rfl;rw [hx7] at d6 d7;rw [hx70] at d7;simp only [Nat.add_zero] at d6 d7;have cc7:=bC k7;have cf7:=bF k7;have fb7:=o7.frozen;have zg7:=lB k7;have zb7:=(o7.lt _ rfl).2;have K7:=LH k7;have O7:=LH o7;have HL7:=LH hL7;have hil72: (i':Int) < (S'.length:Int):=by omega
  have hS7:S'.length≤34359738368:=by rw [HI6.out.len];have:=Nat.pow_le_pow_right (n:=2) (by decide) (show b+1≤35 by omega);simpa using this
  clear cc6 k7 o7 hb7 hL7 hx7 hx70;have hg6:g≠sb':=by omega
  have hg7:sb'≠g:=by omega
  go_wp2_with fail;go_ret;have hp:=Nat.two_pow_pos b;have hfr:=HF.out.2.1;refine⟨foot2 g (.slice (some ⟨sb',off',none⟩) S'.length cap'),rfl,?_,?_,?_⟩
  ·exact probe_stored_new (r':=addR r k c) K7.out O7.out hil7 (perm_put hf.roll HI6.out HL7.out H0.out (by omega)) (by omega) (by omega) (by rw [len_add hf.roll,if_pos H0.out,Nat.pow_succ];omega) (by rw [len_add hf.roll,if_pos H0.out]) (sumR_add r k c)
  ·refine Turn.setCell (Turn.setCell (Turn.setCell T7 ?_ _) ?_ _) ?_ _
   ·exact .inr HZ
   ·exact .inr HZ
   ·exact .inl (.inl rfl)
  ·rintro q (rfl|hq)
   ·exact .inl (.inl rfl)
   ·cases hq;exact .inr HZ
 ·have d6:=O5.out.slT.cell_at hil 0 (.int .i64 S[i].1) rfl
  have d7:=O5.out.slT.cell_at hil 1 (.int .i64 S[i].2) rfl;rw [HX.out.1] at d6 d7;rw [HX.out.2] at d7;simp only [Nat.add_zero] at d6 d7;go_wp2_with fail;go_ret;refine⟨_,rfl,?_,?_,Grow.refl⟩
  ·exact probe_stored_new (r':=addR r k c) K5.out O5.out hil (perm_put hf.roll HI.out HL.out H0.out (by omega)) hq3 hq34 (by rw [len_add hf.roll,if_pos H0.out];have:=HF.out.2.2;omega) (by rw [len_add hf.roll,if_pos H0.out]) (sumR_add r k c)
  ·refine Turn.setCell (Turn.setCell (Turn.setCell T5 ?_ _) ?_ _) ?_ _
   ·exact .inl (.inr rfl)
   ·exact .inl (.inr rfl)
   ·exact .inl (.inl rfl)
section
attribute [local go_sem ↓] Go.wp_at_zero Go.wp_at_succ
def leN (a b:Nd) :Bool:= !decide (b.1<a.1)
def msort (l:List Nd) :List Nd:=if h:l.length<2 then l else List.merge (msort (l.take (l.length / 2))) (msort (l.drop (l.length / 2))) leN
termination_by l.length
decreasing_by
 ·simp;omega
 ·simp;omega
theorem msort_perm (l:List Nd) : (msort l).Perm l:=by
 induction hn:l.length using Nat.strongRecOn generalizing l with
 |_ n ih=>
  rw [msort]
  split
  ·exact .refl _
  ·rename_i h
   refine(List.merge_perm_append leN).trans (((ih _ ?_ _ rfl).append (ih _ ?_ _ rfl)).trans ?_)
   ·simp;omega
   ·simp;omega
   ·rw [List.take_append_drop]
theorem msort_sorted (l:List Nd) : (msort l).Pairwise fun a b=>a.1≤b.1:=by
 induction hn:l.length using Nat.strongRecOn generalizing l with
 |_ n ih=>
  rw [msort]
  split
  ·rename_i h
   rcases l with _| ⟨x,_| ⟨y,l⟩⟩
   ·exact .nil
   ·exact List.pairwise_singleton _ _
   ·simp at h;omega
  ·rename_i h
   have h1:=ih _ (by simp;omega) (l.take (l.length / 2)) rfl;have h2:=ih _ (by simp;omega) (l.drop (l.length / 2)) rfl;have:=List.pairwise_merge (le:=leN) (fun a b c h1 h2=>by simp [leN] at*;omega) (fun a b=>by simp [leN];omega) _ _ (h1.imp fun {a b} h=>show leN a b=true by simpa [leN] using h) (h2.imp fun {a b} h=>show leN a b=true by simpa [leN] using h);exact this.imp fun h=>by simpa [leN] using h
theorem msort_len (l:List Nd) : (msort l).length=l.length:=(msort_perm l).length_eq
theorem msort_roll {l r:List Nd} (h:l.Perm r) (hr:Roll r) :msort l=r:=by
 refine((msort_perm l).trans h).eq_of_pairwise (le:=fun a b:Nd=>a.1≤b.1) ?_ (msort_sorted l) (hr.1.imp fun h=>by omega);intro a b ha hb h1 h2;have ha':a∈r:=((msort_perm l).trans h).mem_iff.1 ha;have e1:a.1=b.1:=by omega
 have:=getR_mem hr ha';have:=getR_mem hr hb;exact Prod.ext e1 (by rw [e1] at*;omega)
theorem roll_ahead (w:World) (x y:Nd) :Calls Tryz.prog 286 #[.agg #[.int .i64 x.1,.int .i64 x.2],.agg #[.int .i64 y.1,.int .i64 y.2]] w fun e w'=>e=.returned (.bool (decide (x.1<y.1)))∧Below w.heap.size w w':=by
 go_enter Tryz.func286,Tryz.ntmps286
 go_wp2_with fail;go_ret;exact⟨rfl,bE⟩
def OwnPost {α:Type} {size:Nat} (e:TypeId) (E:Enc α size) (l:List α) (w:World) (en:Ending) (w':World) :Prop:=∃v,en=.returned v∧Own w' w.heap.size e E v l∧Below w.heap.size w w'
@[go_sem] theorem run_eqN_nil (w:World) (A:Option Addr) (n c:Nat) : (binOp .eql 129 (.slice A n c) (.slice none 0 0)).run Tryz.prog w=.ok (.bool A.isNone) w:=Lib.run_eql_slice_nil w _ 216 A n c 0 0 Tryz.underlying129
theorem clone_N (w:World) (A:Option Addr) (cap:Nat) (l:List Nd) (hS:Sl w w.heap.size encN A l) (hn:l.length≤67108864) :
 Calls Tryz.prog 282 #[.slice A l.length cap] w (OwnPost 216 encN l w):=by
 rcases A with _|a
 ·have h0:l= []:=by
   rcases hS with h| ⟨b,off,hA,_⟩
   ·exact h
   ·cases hA
  subst h0
  go_enter Tryz.func282,Tryz.ntmps282
  go_wp2_with fail;go_ret;exact⟨_,rfl,Own.nil _ _ _ _,bE⟩
 ·have HS:=LH hS
  clear hS
  go_enter Tryz.func282,Tryz.ntmps282
  go_wp2_with ((at_builtin;refine wpList_app tyN rfl _ _ rfl encN w.heap.size (.slice (some ⟨w.heap.size,0,none⟩) 0 0) [] rfl ?ho (some a) cap l w.heap.size rfl ?hs ?c1 ?c2 ?c3 ?c4))
  case ho=>exact .inr ⟨w.heap.size,0,0, #[],rfl,Nat.le_refl _,heap_alloc_new w _,Nat.le_refl _,by simp,by simp,fun j u hj=>by simp at hj⟩
  case hs=>exact HS.out.keep (Nat.le_refl _) fun p hp=>((Below.refl w.heap.size w).alloc (Nat.le_refl _) _).cell hp
  case c1=>simp;omega
  case c2=>simp [maxLen];omega
  case c3=>simp
  case c4=>
   intro v' w1 ho1 _ _ hb1 _;have B1:Below w.heap.size w w1:=((Below.refl w.heap.size w).alloc (Nat.le_refl _) _).trans hb1;have HO1:=LH (show Own w1 w.heap.size 216 encN v' l by simpa using ho1);clear ho1;go_wp2_with fail;go_ret;exact⟨_,rfl,HO1.out,B1⟩
def Rd {α:Type} {size:Nat} (w:World) (E:Enc α size) (v:Value) (l:List α) :Prop:=∃A cap,v=.slice A l.length cap∧l.length≤cap∧cap≤maxLen∧Sl w w.heap.size E A l
section
variable {α:Type} {size base e:Nat} {w w':World} {E:Enc α size} {v:Value} {l:List α}
theorem Own.rd (h:Own w base e E v l) :Rd w E v l:=by
 obtain⟨A,cap,hv,h1,h2,h3,_⟩:=h.form;exact⟨A,cap,hv,h1,h2,h3⟩
end
def lenV:Value→Nat
 | .slice _ n _=>n
 |_=>0
def RdB {α:Type} {size:Nat} (w:World) (B:Nat) (E:Enc α size) (v:Value) (l:List α) :Prop:=∃A cap,v=.slice A l.length cap∧l.length≤cap∧cap≤maxLen∧Sl w B E A l
theorem RdB.below {α:Type} {size B:Nat} {w w':World} {E:Enc α size} {v:Value} {l:List α} (h:RdB w B E v l) (hb:Below B w w') :RdB w' B E v l:=by
 obtain⟨A,cap,hv,h1,h2,h3⟩:=h;exact⟨A,cap,hv,h1,h2,h3.below hb⟩
theorem RdB.cons {B:Nat} {w:World} {v:Value} {x:Nd} {l:List Nd} (h:RdB w B encN v (x :: l)) : ∃b off cap,v=.slice (some ⟨b,off,none⟩) (l.length+1) cap∧l.length+1≤cap∧cap≤maxLen∧b<B∧
 w.cell? ⟨b,off,none⟩ =some (.int .i64 x.1)∧w.cell? ⟨b,off+1,none⟩ =some (.int .i64 x.2)∧(cap≠1→RdB w B encN (.slice (some ⟨b,off+2,none⟩) l.length (cap - 1)) l)∧(cap=1→RdB w B encN (.slice (some ⟨b,off,none⟩) 0 0) l∧l= []):=by
 obtain⟨A,cap,rfl,h1,h2,h3⟩:=h;rcases h3 with h3| ⟨b,off,rfl,hb,hc⟩
 ·cases h3
 ·have c0:=hc 0 x rfl 0 _ rfl
  have c1:=hc 0 x rfl 1 _ rfl;simp only [Nat.zero_mul,Nat.add_zero] at c0 c1;simp only [List.length_cons] at h1;refine⟨b,off,cap,rfl,h1,h2,hb,c0,c1,fun hne=>⟨_,_,rfl,by omega,by omega,?_⟩,fun he=> ?_⟩
  ·have:=Sl.drop (k:=1) (show Sl w B encN (some ⟨b,off,none⟩) (x :: l) from .inr ⟨b,off,rfl,hb,hc⟩)
   simpa using this
  ·have:l= []:=List.eq_nil_of_length_eq_zero (by omega)
   subst this;exact⟨⟨_,_,rfl,by simp,by simp,.nil⟩,rfl⟩
def MergeInv (w2:World) (all:List Nd) (n:Nat) (a b o:Value) (wr:World) :Prop:=∃la lb lo,RdB wr w2.heap.size encN a la∧RdB wr w2.heap.size encN b lb∧Own wr w2.heap.size 216 encN o lo∧lo ++ List.merge la lb leN=all∧lo.length+ (la.length+lb.length) =n∧Below w2.heap.size w2 wr
theorem merge_cons (x y:Nd) (l r:List Nd) :List.merge (x :: l) (y :: r) leN=if y.1<x.1 then y :: List.merge (x :: l) r leN else x :: List.merge l (y :: r) leN:=by
 rw [List.merge];by_cases h:y.1<x.1
 ·simp [leN,h]
 ·simp [leN,h]
theorem roll_sorted (n:Nat) : ∀(w:World) (A:Option Addr) (cap:Nat) (l:List Nd),Sl w w.heap.size encN A l→l.length≤cap→cap≤maxLen→l.length≤n→n≤67108864→
 Calls Tryz.prog 285 #[.slice A l.length cap,.func (.func 286) #[] #[]] w (OwnPost 216 encN (msort l) w):=by
 induction n using Nat.strongRecOn with
 |_ n ih=>
  intro w A cap l hS hc hcm hl hn;by_cases h2:l.length<2
  ·have h2': (l.length:Int) <2:=by omega
   have e1:msort l=l:=by rw [msort,dif_pos h2]
   rw [e1];have HC:=LH (clone_N · A cap l · (by omega));have HS:=LH hS;clear e1 hS ih
   go_enter Tryz.func285,Tryz.ntmps285
   go_wp2_with fail;refine(HC.out _ HS.out).mono ?_;rintro e w1 ⟨v,rfl,ho,hb⟩;go_wp2_with fail;go_ret;exact⟨_,rfl,ho,hb⟩
  ·have h2': ¬(l.length:Int) <2:=by omega
   have e1:msort l=List.merge (msort (l.take (l.length / 2))) (msort (l.drop (l.length / 2))) leN:=by conv=>lhs;rw [msort,dif_neg h2]
   rw [e1]
   obtain⟨b,off,rfl,hb,hcl⟩ : ∃b off,A=some ⟨b,off,none⟩∧b<w.heap.size∧True:=by
    rcases hS with h| ⟨b,off,hA,hb,_⟩
    ·subst h;simp at h2
    ·exact⟨b,off,hA,hb,trivial⟩
   have HS:=LH hS;have q1: (0:Int)≤(l.length:Int) / 2:=by omega
   have q2: (l.length:Int) / 2≤(cap:Int):=by omega
   have q3: (l.length:Int) / 2≤(l.length:Int):=by omega
   have q4: ((l.length:Int) / 2).toNat=l.length / 2:=by omega
   have l1: (l.take (l.length / 2)).length=l.length / 2:=by simp;omega
   have l2: (l.drop (l.length / 2)).length=l.length - l.length / 2:=by simp
   have HA:Hid (∀W:World,Sl W W.heap.size encN (some ⟨b,off,none⟩) (l.take (l.length / 2))→Calls Tryz.prog 285 #[.slice (some ⟨b,off,none⟩) (l.length / 2) cap,.func (.func 286) #[] #[]] W (OwnPost 216 encN (msort (l.take (l.length / 2))) W)):=
    LH fun W hW=>by have:=ih (l.length / 2) (by omega) W _ cap _ hW (by omega) hcm (by omega) (by omega);rwa [l1] at this
   have HB:Hid (∀W:World,Sl W W.heap.size encN (some ⟨b,off+l.length / 2*2,none⟩) (l.drop (l.length / 2))→Calls Tryz.prog 285 #[.slice (some ⟨b,off+l.length / 2*2,none⟩) (l.length - l.length / 2) (cap - l.length / 2),.func (.func 286) #[] #[]] W (OwnPost 216 encN (msort (l.drop (l.length / 2))) W)):=
    LH fun W hW=>by have:=ih (l.length - l.length / 2) (by omega) W _ (cap - l.length / 2) _ hW (by omega) (by omega) (by omega) (by omega);rwa [l2] at this
   have SA:Hid (Sl w.drew w.drew.heap.size encN (some ⟨b,off,none⟩) (l.take (l.length / 2))):=LH (hS.take (l.length / 2));have SB:Hid (Sl w.drew w.drew.heap.size encN (some ⟨b,off+l.length / 2*2,none⟩) (l.drop (l.length / 2))):=LH (hS.drop (l.length / 2));have hml:=msort_len (l.take (l.length / 2));have hml2:=msort_len (l.drop (l.length / 2));obtain⟨la,hla⟩ : ∃la,la=msort (l.take (l.length / 2)):=⟨_,rfl⟩;obtain⟨lb,hlb⟩ : ∃lb,lb=msort (l.drop (l.length / 2)):=⟨_,rfl⟩;rw [←hla] at HA⊢hml;rw [←hlb] at HB⊢hml2;have hab:la.length+lb.length=l.length:=by omega
   clear e1 hS hcl ih l1 l2 hla hlb hml hml2
   go_enter Tryz.func285,Tryz.ntmps285
   go_wp2_with fail
   go_region_held3 (fun w'=>True) (trivial)
    (first
      | ((with_reducible refine(HA.out _ SA.out).mono ?_)
         rintro e w1 ⟨va,rfl,oa,b1⟩;have OA:=LH oa;have B1:=LH b1;clear oa b1)
      | ((with_reducible refine(HB.out _ (SB.out.keep B1.out.size fun p hp=>B1.out.cell hp)).mono ?_)
         rintro e w2 ⟨vb,rfl,ob,b2⟩;have OB:=LH ob;have B2:=LH b2;clear ob b2))
   have HM:Hid (MergeInv w2 (List.merge la lb leN) l.length va vb (.slice none 0 0) w2):=⟨la,lb, [],by
    obtain⟨A,cap,hv,h1,h2,h3,_⟩:=(OA.out.below B2.out).form;exact⟨A,cap,hv,h1,h2,h3⟩,by
    obtain⟨A,cap,hv,h1,h2,h3,_⟩:=OB.out.form;exact⟨A,cap,hv,h1,h2,h3⟩,Own.nil _ _ _ _,rfl,by simp;omega,Below.refl _ _⟩
   have HB2:Hid (Below w.heap.size w w2):=(Below.refl w.heap.size w).drew.trans (B1.out.trans (B2.out.mono B1.out.size));clear HA HB SA SB OA OB B1 B2;go_wp2_with fail
   go_loopw [6,7,8] (fun a b o wr=>MergeInv w2 (List.merge la lb leN) l.length a b o wr) (fun a b _ _=>lenV a+lenV b)
   case atStart=>exact HM.out
   case round=>
    obtain⟨la',lb',lo,ra,rb,ho,hall,hlen,hB⟩:=hrel;have HB:=LH hB;have HO:=LH ho;have HE:=LH hall;clear hB ho hall;rcases la' with _| ⟨x,la'⟩
    ·obtain⟨A1,c1,rfl,a1,a2,a3⟩:=ra
     obtain⟨A2,c2,rfl,b1,b2,b3⟩:=rb;have HSA:=LH a3;have HSB:=LH b3;have s2:=HB.out.size;have zw:=HB2.out.size;have HLo:lo.length+ (([] :List Nd).length+lb'.length)≤67108864:=by omega
     have HF:=LH (show lo ++ ([] :List Nd) ++ lb'=List.merge la lb leN by rw [←HE.out];simp);clear a3 b3;go_wp2_with ((at_builtin;refine wpList_app tyN rfl _ _ rfl encN w2.heap.size u8 lo rfl HO.out A1 c1 (([] :List Nd)) w2.heap.size rfl HSA.out ?c1 ?c2 ?c3 ?c4))
     case c1=>omega
     case c2=>unfold maxLen;omega
     case c3=>exact s2
     case c4=>
      intro v4 w4 ho4 _ _ hb4;try intro _
      have O4:=LH ho4;have SB4:=LH (HSB.out.below hb4);have B4:=LH (HB.out.trans hb4);have s4:=B4.out.size;have HL4: (lo ++ ([] :List Nd)).length+lb'.length≤67108864:=by rw [List.length_append];omega
      clear ho4 hb4;go_wp2_with ((at_builtin;refine wpList_app tyN rfl _ _ rfl encN w2.heap.size v4 _ rfl O4.out A2 c2 (lb') w2.heap.size rfl SB4.out ?d1 ?d2 ?d3 ?d4))
      case d1=>omega
      case d2=>unfold maxLen;omega
      case d3=>exact s4
      case d4=>
       intro v5 w5 ho5 _ _ hb5;try intro _
       have ho5:Own w5 w2.heap.size 216 encN v5 (List.merge la lb leN):=by have:=HF.out;simp only [List.append_nil] at this ho5;rw [←this];exact ho5
       have O5:=LH ho5;have B5:=LH (B4.out.trans hb5);clear ho5 hb5;go_wp2_with fail;go_ret;exact⟨_,rfl,O5.out.base_le zw,HB2.out.trans (B5.out.mono zw)⟩
    ·rcases lb' with _| ⟨y,lb'⟩
     ·obtain⟨A1,c1,rfl,a1,a2,a3⟩:=ra
      obtain⟨A2,c2,rfl,b1,b2,b3⟩:=rb;have HSA:=LH a3;have HSB:=LH b3;have s2:=HB.out.size;have zw:=HB2.out.size;have HLo:lo.length+ ((x :: la').length+ ([] :List Nd).length)≤67108864:=by omega
      have HF:=LH (show lo ++ (x :: la') ++ ([] :List Nd) =List.merge la lb leN by rw [←HE.out];simp);clear a3 b3;have n1: (0:Int) < (((x :: la').length:Nat) :Int):=by simp only [List.length_cons];omega
      go_wp2_with ((at_builtin;refine wpList_app tyN rfl _ _ rfl encN w2.heap.size u8 lo rfl HO.out A1 c1 ((x :: la')) w2.heap.size rfl HSA.out ?c1 ?c2 ?c3 ?c4))
      case c1=>omega
      case c2=>unfold maxLen;omega
      case c3=>exact s2
      case c4=>
       intro v4 w4 ho4 _ _ hb4;try intro _
       have O4:=LH ho4;have SB4:=LH (HSB.out.below hb4);have B4:=LH (HB.out.trans hb4);have s4:=B4.out.size;have HL4: (lo ++ (x :: la')).length+ ([] :List Nd).length≤67108864:=by rw [List.length_append];omega
       clear ho4 hb4;go_wp2_with ((at_builtin;refine wpList_app tyN rfl _ _ rfl encN w2.heap.size v4 _ rfl O4.out A2 c2 (([] :List Nd)) w2.heap.size rfl SB4.out ?d1 ?d2 ?d3 ?d4))
       case d1=>omega
       case d2=>unfold maxLen;omega
       case d3=>exact s4
       case d4=>
        intro v5 w5 ho5 _ _ hb5;try intro _
        have ho5:Own w5 w2.heap.size 216 encN v5 (List.merge la lb leN):=by have:=HF.out;simp only [List.append_nil] at this ho5;rw [←this];exact ho5
        have O5:=LH ho5;have B5:=LH (B4.out.trans hb5);clear ho5 hb5;go_wp2_with fail;go_ret;exact⟨_,rfl,O5.out.base_le zw,HB2.out.trans (B5.out.mono zw)⟩
     ·obtain⟨ba,oa,ca,rfl,a1,a2,a3,a4,a5,a6,a7⟩:=ra.cons
      obtain⟨bb,ob,cb,rfl,b1,b2,b3,b4,b5,b6,b7⟩:=rb.cons;have HRA:=LH ra;have HRB:=LH rb;have HA6:=LH (And.intro a6 a7);have HB6:=LH (And.intro b6 b7);have n1: (0:Int) < ((la'.length+1:Nat) :Int):=by omega
      have n2: (0:Int) < ((lb'.length+1:Nat) :Int):=by omega
      have zb0:bb<wr.heap.size:=by have:=HB.out.size;omega
      have za0:ba<wr.heap.size:=by have:=HB.out.size;omega
      clear ra rb a6 a7 b6 b7;go_wp2_with fail;refine rX (by kernel_rfl) (by kernel_rfl) ?_
      repeat (go_big_quiet_step ((go_at_call 286;exact quiet_ext (roll_ahead _ y x))))
      refine wpQuiet_nil ?_;intro w3 hb3;replace hb3:=bX hb3;have s2:=HB.out.size;have s3:=hb3.size;have B3:Below w2.heap.size w2 w3:=HB.out.trans (hb3.mono s2);have O3:=LH (HO.out.below hb3);have e4:=(hb3.cell (p:=⟨bb,ob,none⟩) (by simp only;omega)).trans b4;have e5:=(hb3.cell (p:=⟨bb,ob+1,none⟩) (by simp only;omega)).trans b5;have d4:=(hb3.cell (p:=⟨ba,oa,none⟩) (by simp only;omega)).trans a4;have d5:=(hb3.cell (p:=⟨ba,oa+1,none⟩) (by simp only;omega)).trans a5;have zb:bb<w3.heap.size:=by omega
      have za:ba<w3.heap.size:=by omega
      have RA3:=LH (HRA.out.below (hb3.mono s2));have RB3:=LH (HRB.out.below (hb3.mono s2));have HLo:lo.length≤67108864:=by simp only [List.length_cons] at hlen;omega
      clear a4 a5 b4 b5 HRA HRB;have hBb3:Below w2.heap.size wr w3:=hb3.mono s2;have HM:=LH (merge_cons x y la' lb');by_cases hyx:y.1<x.1
      ·have hyx':decide (y.1<x.1) =true:=by simpa using hyx
       by_cases hcb:cb=1
       ·subst hcb
        have R0:=LH (HB6.out.2 rfl).1;have hnil:=(HB6.out.2 rfl).2;subst hnil;simp only [List.length_nil,Nat.zero_add];go_wp2_with fail
        go_region_held3 (fun w'=>w'.cell? ⟨bb,ob,none⟩ =some (.int .i64 y.1)∧w'.cell? ⟨bb,ob+1,none⟩ =some (.int .i64 y.2)) (first| (simp [*,go_sem];done))
         ((refine step_app tyN (by rfl) _ _ (by rfl) encN w2.heap.size _ _ (by rfl) (O3.out.alloc _).drew (some ⟨w3.heap.size,0,none⟩) 1 [y] _ (by rfl) (sl_lit w3 encN [y] _ w3.heap.size rfl).drew (by simp;omega) (by simp [maxLen];omega) (by simp;omega) ?_;intro v' w4 ho4 _ _ hb4 _;have c40:=(hb4.cell (p:=⟨bb,ob,none⟩) (by simp only;omega)).trans (by simp [go_sem,e4,zb] :_=some (Value.int .i64 y.1));have c41:=(hb4.cell (p:=⟨bb,ob+1,none⟩) (by simp only;omega)).trans (by simp [go_sem,e5,zb] :_=some (Value.int .i64 y.2))))
        have B4:Below w2.heap.size w3 w4:=((Below.refl w2.heap.size w3).alloc (by omega) _).drew.trans hb4;have O4:=LH ho4;have R4:=LH (R0.out.below (hBb3.trans B4));have Q4:=LH (RA3.out.below B4);have E4:=LH (B3.trans B4);clear ho4 hb4 c40 c41 B4;go_wp2_with fail;go_roundw
        case rel=>exact⟨_,_,_,Q4.out,R4.out,O4.out,by rw [←HE.out,HM.out,if_pos hyx,List.append_assoc];rfl,by simp only [List.length_append,List.length_cons,List.length_nil] at hlen⊢;omega,E4.out⟩
        case measure=>simp [lenV]
       ·have m1: (1:Int)≤((lb'.length:Int) +1):=by omega
        have m2: (1:Int)≤(cb:Int):=by omega
        have m3: ((lb'.length:Int) +1)≤(cb:Int):=by omega
        go_wp2_with fail
        go_region_held3 (fun w'=>w'.cell? ⟨bb,ob,none⟩ =some (.int .i64 y.1)∧w'.cell? ⟨bb,ob+1,none⟩ =some (.int .i64 y.2)) (first| (simp [*,go_sem];done))
         ((refine step_app tyN (by rfl) _ _ (by rfl) encN w2.heap.size _ _ (by rfl) (O3.out.alloc _).drew (some ⟨w3.heap.size,0,none⟩) 1 [y] _ (by rfl) (sl_lit w3 encN [y] _ w3.heap.size rfl).drew (by simp;omega) (by simp [maxLen];omega) (by simp;omega) ?_;intro v' w4 ho4 _ _ hb4 _;have c40:=(hb4.cell (p:=⟨bb,ob,none⟩) (by simp only;omega)).trans (by simp [go_sem,e4,zb] :_=some (Value.int .i64 y.1));have c41:=(hb4.cell (p:=⟨bb,ob+1,none⟩) (by simp only;omega)).trans (by simp [go_sem,e5,zb] :_=some (Value.int .i64 y.2))))
        have B4:Below w2.heap.size w3 w4:=((Below.refl w2.heap.size w3).alloc (by omega) _).drew.trans hb4;have O4:=LH ho4;have R4:=LH ((HB6.out.1 hcb).below (hBb3.trans B4));have Q4:=LH (RA3.out.below B4);have E4:=LH (B3.trans B4);clear ho4 hb4 c40 c41 B4;go_wp2_with fail;go_roundw
        case rel=>exact⟨_,_,_,Q4.out,R4.out,O4.out,by rw [←HE.out,HM.out,if_pos hyx,List.append_assoc];rfl,by simp only [List.length_append,List.length_cons,List.length_nil] at hlen⊢;omega,E4.out⟩
        case measure=>simp [lenV] <;> omega
      ·have hyx':decide (y.1<x.1) =false:=by simpa using hyx
       by_cases hca:ca=1
       ·subst hca
        have R0:=LH (HA6.out.2 rfl).1;have hnil:=(HA6.out.2 rfl).2;subst hnil;simp only [List.length_nil,Nat.zero_add];go_wp2_with fail
        go_region_held3 (fun w'=>w'.cell? ⟨ba,oa,none⟩ =some (.int .i64 x.1)∧w'.cell? ⟨ba,oa+1,none⟩ =some (.int .i64 x.2)) (first| (simp [*,go_sem];done))
         ((refine step_app tyN (by rfl) _ _ (by rfl) encN w2.heap.size _ _ (by rfl) (O3.out.alloc _).drew (some ⟨w3.heap.size,0,none⟩) 1 [x] _ (by rfl) (sl_lit w3 encN [x] _ w3.heap.size rfl).drew (by simp;omega) (by simp [maxLen];omega) (by simp;omega) ?_;intro v' w4 ho4 _ _ hb4 _;have c40:=(hb4.cell (p:=⟨ba,oa,none⟩) (by simp only;omega)).trans (by simp [go_sem,d4,za] :_=some (Value.int .i64 x.1));have c41:=(hb4.cell (p:=⟨ba,oa+1,none⟩) (by simp only;omega)).trans (by simp [go_sem,d5,za] :_=some (Value.int .i64 x.2))))
        have B4:Below w2.heap.size w3 w4:=((Below.refl w2.heap.size w3).alloc (by omega) _).drew.trans hb4;have O4:=LH ho4;have R4:=LH (R0.out.below (hBb3.trans B4));have Q4:=LH (RB3.out.below B4);have E4:=LH (B3.trans B4);clear ho4 hb4 c40 c41 B4;go_wp2_with fail;go_roundw
        case rel=>exact⟨_,_,_,R4.out,Q4.out,O4.out,by rw [←HE.out,HM.out,if_neg (by omega),List.append_assoc];rfl,by simp only [List.length_append,List.length_cons,List.length_nil] at hlen⊢;omega,E4.out⟩
        case measure=>simp [lenV]
       ·have m1: (1:Int)≤((la'.length:Int) +1):=by omega
        have m2: (1:Int)≤(ca:Int):=by omega
        have m3: ((la'.length:Int) +1)≤(ca:Int):=by omega
        go_wp2_with fail
        go_region_held3 (fun w'=>w'.cell? ⟨ba,oa,none⟩ =some (.int .i64 x.1)∧w'.cell? ⟨ba,oa+1,none⟩ =some (.int .i64 x.2)) (first| (simp [*,go_sem];done))
         ((refine step_app tyN (by rfl) _ _ (by rfl) encN w2.heap.size _ _ (by rfl) (O3.out.alloc _).drew (some ⟨w3.heap.size,0,none⟩) 1 [x] _ (by rfl) (sl_lit w3 encN [x] _ w3.heap.size rfl).drew (by simp;omega) (by simp [maxLen];omega) (by simp;omega) ?_;intro v' w4 ho4 _ _ hb4 _;have c40:=(hb4.cell (p:=⟨ba,oa,none⟩) (by simp only;omega)).trans (by simp [go_sem,d4,za] :_=some (Value.int .i64 x.1));have c41:=(hb4.cell (p:=⟨ba,oa+1,none⟩) (by simp only;omega)).trans (by simp [go_sem,d5,za] :_=some (Value.int .i64 x.2))))
        have B4:Below w2.heap.size w3 w4:=((Below.refl w2.heap.size w3).alloc (by omega) _).drew.trans hb4;have O4:=LH ho4;have R4:=LH ((HA6.out.1 hca).below (hBb3.trans B4));have Q4:=LH (RB3.out.below B4);have E4:=LH (B3.trans B4);clear ho4 hb4 c40 c41 B4;go_wp2_with fail;go_roundw
        case rel=>exact⟨_,_,_,R4.out,Q4.out,O4.out,by rw [←HE.out,HM.out,if_neg (by omega),List.append_assoc];rfl,by simp only [List.length_append,List.length_cons,List.length_nil] at hlen⊢;omega,E4.out⟩
        case measure=>simp [lenV] <;> omega
theorem roll_Sorted (w:World) (v:Value) (l:List Nd) (hR:Rd w encN v l) (hn:l.length≤67108864) :Calls Tryz.prog 239 #[v] w (OwnPost 216 encN (msort l) w):=by
 obtain⟨A,cap,rfl,h1,h2,hS⟩:=hR;have HC:=LH (roll_sorted 67108864 · A cap l · h1 h2 hn (Nat.le_refl _));have HS:=LH hS;clear hS
 go_enter Tryz.func239,Tryz.ntmps239
 go_wp2_with fail;refine(HC.out _ HS.out).mono ?_;rintro e w1 ⟨v,rfl,ho,hb⟩;have HO:=LH ho;clear ho;go_wp2_with fail;go_ret;exact⟨_,rfl,HO.out,hb⟩
end
theorem probe_Add (w:World) (g l:Nat) (r:List Nd) (F:Nat→Prop) (h:ProbeAt w g l r F) (hf:Fits l r) (h1:1≤l) (h2:l≤48) (k:Nat) (hk1:1≤k) (hk2:k<2*2^l) (c:Int) (hc:0<c) (hsum:sumR r+c≤72057594037927935) (hr30:r.length<1073741824) :
 Calls Tryz.prog 215 #[.pointer (some ⟨g,0,none⟩),.int .i64 k,.int .i64 c] w (AddPost w g l (addR r k c) F):=by
 by_cases h0:getR r k=0
 ·exact probe_Add_new w g l r F h hf h1 h2 k hk1 hk2 c hc hsum h0 hr30
 ·have:=getR_nonneg hf.roll (k:Int)
  exact probe_Add_old w g l r F h hf h1 h2 k hk1 hk2 c hc hsum (by omega)
theorem ProbeAt.keep {w w':World} {g l:Nat} {r:List Nd} {F:Nat→Prop} (h:ProbeAt w g l r F) (hk: ∀b,F b→w'.heap[b]? =w.heap[b]?) :ProbeAt w' g l r F:=by
 obtain⟨v,S,b,hh,ho,h1,h2,h3,h4,rfl⟩:=h;exact⟨v,S,b,(hk g (.inl rfl)).trans hh,ho.of_block fun b hb=>hk b (.inr hb),h1,h2,h3,h4,rfl⟩
theorem ProbeAt.lt {w:World} {g l:Nat} {r:List Nd} {F:Nat→Prop} (h:ProbeAt w g l r F) : ∀b,F b→b<w.heap.size:=by
 obtain⟨v,S,b,hh,ho,_,_,_,_,rfl⟩:=h;rintro q (rfl|hq)
 ·exact lB hh
 ·exact(ho.lt q hq).2
theorem ProbeAt.below {w w':World} {g l:Nat} {r:List Nd} {F:Nat→Prop} (h:ProbeAt w g l r F) (hb:Below w.heap.size w w') :ProbeAt w' g l r F:=h.keep fun b hf=>hb.block b (h.lt b hf)
theorem ProbeAt.typed {w:World} {g l:Nat} {r:List Nd} {F:Nat→Prop} (h:ProbeAt w g l r F) : ∀b,F b→TypeAt w b 256∨TypeAt w b 216:=by
 obtain⟨v,S,b,hh,ho,_,_,_,_,rfl⟩:=h;rintro q (rfl|hq)
 ·exact .inl (.of hh)
 ·rcases ho with ⟨rfl,_⟩ | ⟨g1,o1,c1,u1,rfl,_,hh1,_⟩
  ·cases hq
  ·cases hq;exact .inr (.of hh1)
theorem probe_Snap (w:World) (g l:Nat) (r:List Nd) (F:Nat→Prop) (h:ProbeAt w g l r F) (hf:Fits l r) (hn:r.length≤67108864) :Calls Tryz.prog 198 #[.pointer (some ⟨g,0,none⟩)] w (OwnPost 216 encN r w):=by
 obtain⟨v,S,b,hh,ho,hI,hq3,hq34,hfree,rfl⟩:=h;obtain⟨sb,off,cap,rfl,hcap⟩:=own_at0 ho (by rw [hI.len];exact Nat.two_pow_pos b);have hl:=hI.len;have hSl:S.length≤34359738368:=by rw [hl];have:=Nat.pow_le_pow_right (n:=2) (by decide) (show b≤35 by omega);simpa using this
 have hcnt:=hI.count
 have hfl: ∀k,((S.take k).filter full).length≤67108864:=fun k=>by
  have h1: ((S.take k).filter full).length≤(S.filter full).length:=((List.take_sublist k S).filter full).length_le;omega
 have cc:=bC hh;have zg:=lB hh;have zb:=(ho.lt sb rfl).2;have HS:=LH ho.slT;have HI:=LH hI;have HL:=LH hfl;clear hh ho hI hl hcnt hfl hfree
 go_enter Tryz.func198,Tryz.ntmps198
 go_wp2_with fail
 go_loopw [3,13] (fun v i wr=>∃k:Nat,k≤S.length∧i=.int .i64 k∧Below w.heap.size w wr∧Own wr w.heap.size 216 encN v ((S.take k).filter full)) (fun _ i _=>S.length - (intOf i).toNat)
 case atStart=>exact⟨0,Nat.zero_le _,rfl,bE,Own.nil _ _ _ _⟩
 case round=>
  obtain⟨k,hk,rfl,hB,hown⟩:=hrel;have HO:=LH hown;clear hown;have hs:=hB.size;by_cases hlt:k<S.length
  ·have d0:=(hB.cell (p:=⟨sb,off+k*2+0,none⟩) zb).trans (HS.out.cell_at hlt 0 (.int .i64 S[k].1) rfl)
   have d1:=(hB.cell (p:=⟨sb,off+k*2+1,none⟩) zb).trans (HS.out.cell_at hlt 1 (.int .i64 S[k].2) rfl);simp only [Nat.add_zero] at d0;have hle:=HL.out k;obtain⟨x,hx⟩ : ∃x,x=S[k]:=⟨_,rfl⟩;rw [←hx] at d0 d1;have HX:=LH (take_filter_succ hlt x (by rw [hx];exact List.getElem?_eq_getElem hlt));have hx0:=HI.out.nonneg (i:=k) (x:=x) (by rw [hx];exact List.getElem?_eq_getElem hlt);clear hx;by_cases hn:0<x.2
   ·go_wp2_with ((at_builtin;refine wpList_push tyN rfl _ _ rfl encN (wr.alloc _) w.heap.size u3 _ rfl (HO.out.alloc _) x (by go_simp) rfl ?c1 ?c2 ?c3 ?c4))
    case c1=>omega
    case c2=>simp only [maxLen];omega
    case c3=>simp;omega
    case c4=>
     intro v' w2 hown2 hgrow _ hlies hb2 _;have HO2:=LH (show Own w2 w.heap.size 216 encN v' ((S.take (k+1)).filter full) by rw [HX.out,if_neg (by omega)];exact hown2);clear hown2;go_wp2_with fail;go_roundw
     case rel=>exact⟨k+1,by omega,by go_num,Below.trans (Below.allocW hB _) hb2,HO2.out⟩
     case measure=>simp [intOf];omega
   ·have HO2:=LH (show Own wr w.heap.size 216 encN u3 ((S.take (k+1)).filter full) by rw [HX.out,if_pos (by omega),List.append_nil];exact HO.out)
    go_wp2_with fail;go_roundw
    case rel=>exact⟨k+1,by omega,by go_num,Below.allocW hB _,HO2.out.alloc _⟩
    case measure=>simp [intOf];omega
  ·obtain rfl:k=S.length:=by omega
   rw [List.take_length] at HO;have HM:=LH (msort_roll HI.out.perm hf.roll);have hm:=HL.out S.length;rw [List.take_length] at hm;go_wp2_with fail;refine(roll_Sorted _ _ _ HO.out.rd hm).mono ?_;rintro e w2 ⟨v2,rfl,ho2,hb2⟩;rw [HM.out] at ho2;have HO2:=LH ho2;have HB2:=LH (hB.trans (hb2.mono hs));clear ho2 hb2;go_wp2_with fail;go_ret;exact⟨_,rfl,HO2.out.base_le hs,HB2.out⟩
end Go.Proofs.YtmdidmclfbfmiaaGreatDoor
