/-
  Texts of this proof, one behind the other: Digest, Rank, Ref02, RefLoad, Open, Load16, RankPlain, TilesLaw, FitsP, Flow, TellsA, Digits, Times, Quot, DivLaw, Div64, Part, Reach, ReachLaw, FlowRank, GapLaw.
-/
import Derived.Deep.CutBlock
import Derived.Deep.DeepCutAuto
import Derived.Test.YtlgnakobjkhmhaaGreatDoorR1
import Derived.Test.YtlgnakobjkhmhaaGreatDoorR2
set_option linter.unusedVariables false
set_option linter.unusedSimpArgs false
set_option maxRecDepth 100000
set_option maxHeartbeats 16000000
namespace Go.Proofs.YtlgnakobjkhmhaaGreatDoor
open Go.ChangeShapes Go.WideShapes Go.ChangeAt Go.RowKit
@[go_sem] theorem run_field_conf0 (w:World) (a b c:Int) : (Instr.field 28 (.agg #[.int .i64 a,.int .i64 b,.int .i64 c]) 0).run Tryz.prog w=.ok (.int .i64 a) w:=by kernel_rfl
@[go_sem] theorem run_field_conf1 (w:World) (a b c:Int) : (Instr.field 28 (.agg #[.int .i64 a,.int .i64 b,.int .i64 c]) 1).run Tryz.prog w=.ok (.int .i64 b) w:=by kernel_rfl
def isDig (l k K:Int) :Bool:=isPool K l && decide (1≤k∧k≤1048576)
def DigAt (w:World) (g K l:Nat) (k:Int) (r:List Nd) (F:Nat→Prop) :Prop:=
 1≤k∧k≤1048576∧∃p F0,F=footP g F0∧w.heap[g]? =some (.cells #[.int .i64 k,.pointer (some ⟨p,0,none⟩)] 118 (0,0))∧PoolAt w p K l r F0
theorem DigAt.keep {w w':World} {g K l:Nat} {k:Int} {r:List Nd} {F:Nat→Prop} (h:DigAt w g K l k r F) (hk: ∀b,F b→w'.heap[b]? =w.heap[b]?) :DigAt w' g K l k r F:=by
 obtain⟨h1,h2,p,F0,rfl,h3,h4⟩:=h;exact⟨h1,h2,p,F0,rfl,(hk g (.inl rfl)).trans h3,h4.keep fun q hq=>hk q (.inr hq)⟩
theorem DigAt.lt {w:World} {g K l:Nat} {k:Int} {r:List Nd} {F:Nat→Prop} (h:DigAt w g K l k r F) : ∀b,F b→b<w.heap.size:=by
 obtain⟨h1,h2,p,F0,rfl,h3,h4⟩:=h;rintro q (rfl|hq)
 ·exact lB h3
 ·exact h4.lt q hq
theorem DigAt.below {w w':World} {g K l:Nat} {k:Int} {r:List Nd} {F:Nat→Prop} (h:DigAt w g K l k r F) (hb:Below w.heap.size w w') :DigAt w' g K l k r F:=h.keep fun b hf=>hb.block b (h.lt b hf)
theorem DigAt.fits {w:World} {g K l:Nat} {k:Int} {r:List Nd} {F:Nat→Prop} (h:DigAt w g K l k r F) :Fits l r:=by
 obtain⟨h1,h2,p,F0,rfl,h3,h4⟩:=h;exact h4.fits
theorem DigAt.l_le {w:World} {g K l:Nat} {k:Int} {r:List Nd} {F:Nat→Prop} (h:DigAt w g K l k r F) :1≤l∧l≤48:=by
 obtain⟨h1,h2,p,F0,rfl,h3,h4⟩:=h;exact⟨h4.1,h4.2.1⟩
theorem pool_Kind (w:World) (g K l:Nat) (r:List Nd) (F:Nat→Prop) (h:PoolAt w g K l r F) :Calls Tryz.prog 120 #[.pointer (some ⟨g,0,none⟩)] w fun e w'=>e=.returned (.int .i64 K)∧Below w.heap.size w w':=by
 obtain⟨h1,h2,h3,p,F0,rfl,h4⟩:=h;rcases h4 with ⟨rfl,h16,hh,hd⟩ | ⟨rfl,hh,hd⟩
 ·have H:=LH hh
  clear hh hd
  go_enter Tryz.func120,Tryz.ntmps120
  go_wp2_with fail;refine(pool_isArray _ g p _ H.out).mono ?_;rintro e w1 ⟨rfl,hb1⟩;have B1:Below w.heap.size w w1:=Below.then_ bE hb1;have s1:=B1.size;go_wp2_with fail;go_ret;exact⟨rfl,bE⟩
 ·have H:=LH hh
  clear hh hd
  go_enter Tryz.func120,Tryz.ntmps120
  go_wp2_with fail;refine(pool_isArray_no _ g _ H.out).mono ?_;rintro e w1 ⟨rfl,hb1⟩;have B1:Below w.heap.size w w1:=Below.then_ bE hb1;have s1:=B1.size;go_wp2_with fail;go_ret;exact⟨rfl,bE⟩
def DigPost (K l:Nat) (k:Int) (r:List Nd) (w:World) (e:Ending) (w':World) :Prop:=∃g F,e=.returned (.tuple #[.pointer (some ⟨g,0,none⟩),.int .i64 0])∧DigAt w' g K l k r F∧(∀b,F b→w.heap.size≤b)∧Below w.heap.size w w'
theorem digest_New (w:World) (l K:Nat) (k:Int) (h:isDig l k K=true) :Calls Tryz.prog 104 #[.agg #[.int .i64 l,.int .i64 k,.int .i64 K]] w (DigPost K l k [] w):=by
 simp only [isDig,Bool.and_eq_true,decide_eq_true_eq] at h;obtain⟨hp,hk1,hk2⟩:=h;have HC:=LH (pool_New · K l hp);clear hp
 go_enter Tryz.func104,Tryz.ntmps104
 go_wp2_with fail;refine(HC.out _).mono ?_;rintro e w1 ⟨g,F,rfl,hP,hF,hb1⟩;have B1:Below w.heap.size w w1:=Below.then_ bE hb1;have s1:=B1.size;have z1_0:w.heap.size<w1.heap.size:=by have:=hb1.size;(try simp at this);omega
 have y1_0:w.heap.size≤w1.heap.size:=Nat.le_of_lt z1_0;have c1_0:=czB hb1 (w.heap.size);have f1_0:=fzB hb1 (w.heap.size);have HP:=LH hP;simp only [World.size_alloc] at hF;have HF:=LH hF;clear hP hF;go_wp2_with fail
 go_ret2
 refine⟨w1.heap.size,footP w1.heap.size F,rfl,⟨hk1,hk2,g,F,rfl,heap_new_at w1 _ _ rfl,HP.out.below ((Below.refl _ _).alloc (Nat.le_refl _) _)⟩,?_,bE⟩;rintro b (rfl|hb)
 ·exact s1
 ·have:=HF.out b hb;omega
def loadErr (l k K:Int) (r:List Nd) :Int:=if isDig l k K=false then 2 else if rightOf l r=false then 10 else if 8*k<r.length then 13 else if lightOf l r k=false then 13 else 0
theorem digest_Load (w:World) (l K:Nat) (k:Int) (A:Option Addr) (cap:Nat) (r:List Nd) (h:loadErr l k K r=0) (hS:Sl w w.heap.size encN A r) (hI:ints r) (hn:r.length<67108864) :
 Calls Tryz.prog 118 #[.agg #[.int .i64 l,.int .i64 k,.int .i64 K],.slice A r.length cap] w (DigPost K l k r w):=by
 have hd:isDig l k K=true:=by
  cases hd:isDig l k K
  ·simp only [loadErr] at h;rw [if_pos hd] at h;cases h
  ·rfl
 have hr:rightOf l r=true:=by
  cases hr:rightOf l r
  ·simp only [loadErr] at h;rw [if_neg (by simp [hd]),if_pos hr] at h;cases h
  ·rfl
 have h8: ¬8*k<r.length:=by
  intro h8;simp only [loadErr] at h;rw [if_neg (by simp [hd]),if_neg (by simp [hr]),if_pos h8] at h
  cases h
 have hl:lightOf l r k=true:=by
  cases hl:lightOf l r k
  ·simp only [loadErr] at h;rw [if_neg (by simp [hd]),if_neg (by simp [hr]),if_neg h8,if_pos hl] at h;cases h
  ·rfl
 have HC:=LH (digest_New · l K k hd);have HR:=LH (roll_Right · l A cap r · hI (by unfold maxLen;omega));have HS:=LH hS;have hpl:isPool K l=true:=by simp only [isDig,Bool.and_eq_true] at hd;exact hd.1
 have HL:=LH (pool_Load · K l A cap r hpl hr · hI hn);simp only [isDig,Bool.and_eq_true,decide_eq_true_eq] at hd;obtain⟨_,hk1,hk2⟩:=hd;rw [hr] at HR;have HLF:=LH hl;clear h hS hr hI hpl hl
 go_enter Tryz.func118,Tryz.ntmps118
 go_wp2_with fail;refine(HC.out _).mono ?_;rintro e w1 ⟨g,F,rfl,_,_,hb1⟩;have B1:Below w.heap.size w w1:=Below.then_ bE hb1;have s1:=B1.size;have z1_0:w.heap.size<w1.heap.size:=by have:=hb1.size;(try simp at this);omega
 have y1_0:w.heap.size≤w1.heap.size:=Nat.le_of_lt z1_0;have c1_0:=czB hb1 (w.heap.size);have f1_0:=fzB hb1 (w.heap.size);go_wp2_with fail;refine(HR.out _ (HS.out.keep s1 fun p hp=>B1.cell hp)).mono ?_;rintro e w2 ⟨rfl,hb2⟩;have B2:Below w.heap.size w w2:=Below.then_ bE hb2;have s2:=B2.size;have z2_0:w.heap.size<w2.heap.size:=by have:=hb2.size;(try simp at this);omega
 have y2_0:w.heap.size≤w2.heap.size:=Nat.le_of_lt z2_0;have c2_0:=czB hb2 (w.heap.size);have f2_0:=fzB hb2 (w.heap.size);go_wp2_with fail;refine(HL.out _ (HS.out.keep s2 fun p hp=>B2.cell hp)).mono ?_;rintro e w3 ⟨gp,Fp,rfl,hP,hF,hb3⟩;have B3:Below w.heap.size w w3:=Below.then_ bE hb3;have s3:=B3.size;have z3_0:w.heap.size<w3.heap.size:=by have:=hb3.size;(try simp at this);omega
 have y3_0:w.heap.size≤w3.heap.size:=Nat.le_of_lt z3_0;have c3_0:=czB hb3 (w.heap.size);have f3_0:=fzB hb3 (w.heap.size);have KP:=LH hP;have KF:=LH hF;clear hP hF;go_wp2_with fail;refine(press_Light _ gp K l r Fp k KP.out hk1 hk2 (by omega)).mono ?_;rintro e w4 ⟨rfl,hb4⟩;have B4:Below w.heap.size w w4:=Below.then_ bE hb4;have s4:=B4.size;have z4_0:w.heap.size<w4.heap.size:=by have:=hb4.size;(try simp at this);omega
 have y4_0:w.heap.size≤w4.heap.size:=Nat.le_of_lt z4_0;have c4_0:=czB hb4 (w.heap.size);have f4_0:=fzB hb4 (w.heap.size);rw [HLF.out];have KP4:=LH (KP.out.below hb4);clear KP;go_wp2_with fail
 go_ret2
 refine⟨w4.heap.size,footP w4.heap.size Fp,rfl,⟨hk1,hk2,gp,Fp,rfl,heap_new_at w4 _ _ rfl,KP4.out.below ((Below.refl _ _).alloc (Nat.le_refl _) _)⟩,?_,bE⟩;rintro b (rfl|hb)
 ·exact s4
 ·have:=KF.out b hb;omega
theorem digest_N (w:World) (g K l:Nat) (k:Int) (r:List Nd) (F:Nat→Prop) (h:DigAt w g K l k r F) :Calls Tryz.prog 26 #[.pointer (some ⟨g,0,none⟩)] w fun e w'=>e=.returned (.int .i64 (sumR r))∧Below w.heap.size w w':=by
 obtain⟨h1,h2,p,F0,rfl,hh,hP⟩:=h;have c:=bC hh;have z:=lB hh;have HP:=LH hP;clear hh hP
 go_enter Tryz.func26,Tryz.ntmps26
 go_wp2_with fail;refine(pool_Total _ p K l r F0 HP.out).mono ?_;rintro e w1 ⟨rfl,hb1⟩;have B1:Below w.heap.size w w1:=Below.then_ bE hb1;have s1:=B1.size;go_wp2_with fail;go_ret;exact⟨rfl,bE⟩
theorem digest_Nodes (w:World) (g K l:Nat) (k:Int) (r:List Nd) (F:Nat→Prop) (h:DigAt w g K l k r F) (hn:r.length≤67108864) :Calls Tryz.prog 98 #[.pointer (some ⟨g,0,none⟩)] w (OwnPost 172 encN r w):=by
 obtain⟨h1,h2,p,F0,rfl,hh,hP⟩:=h;have c:=bC hh;have z:=lB hh;have HP:=LH hP;clear hh hP
 go_enter Tryz.func98,Tryz.ntmps98
 go_wp2_with fail;refine(pool_Snap _ p K l r F0 HP.out hn).mono ?_;rintro e w1 ⟨v,rfl,ho,hb⟩;have HO:=LH ho;clear ho;go_wp2_with fail;go_ret;exact⟨_,rfl,HO.out,hb⟩
theorem digest_Conf (w:World) (g K l:Nat) (k:Int) (r:List Nd) (F:Nat→Prop) (h:DigAt w g K l k r F) :Calls Tryz.prog 73 #[.pointer (some ⟨g,0,none⟩)] w fun e w'=>e=.returned (.agg #[.int .i64 l,.int .i64 k,.int .i64 K])∧Below w.heap.size w w':=by
 obtain⟨h1,h2,p,F0,rfl,hh,hP⟩:=h;have c:=bC hh;have z:=lB hh;have hPA:=hP.below ((Below.refl w.heap.size w).alloc (Nat.le_refl _) (.cells #[.int .i64 0,.int .i64 0,.int .i64 0] 28));have HP:=LH hPA;clear hh hP hPA
 go_enter Tryz.func73,Tryz.ntmps73
 go_wp2_with fail;refine wp_region_tail 18 (by kernel_rfl) (by kernel_rfl) ?_;simp only [List.take_succ_cons,List.take_zero,List.drop_succ_cons,List.drop_zero]
 repeat (go_big_quiet_step (first| (go_at_call 119;exact quiet_ext (pool_L _ p K l r F0 (HP.out.below (ext_below _ _)))) | (go_at_call 120;exact quiet_ext (pool_Kind _ p K l r F0 (HP.out.below (ext_below _ _))))))
 refine wpQuiet_nil ?_;intro w1 hb1;replace hb1:=bX hb1;have B1:Below w.heap.size w w1:=Below.then_ bE hb1;have s1:=B1.size;have z1_0:w.heap.size<w1.heap.size:=by have:=hb1.size;(try simp at this);omega
 have y1_0:w.heap.size≤w1.heap.size:=Nat.le_of_lt z1_0;have c1_0:=czB hb1 (w.heap.size);have f1_0:=fzB hb1 (w.heap.size);go_wp2_with fail;exact bR (v:=.agg #[.int .i64 l,.int .i64 k,.int .i64 K]) (by simp only [results,Tryz.results73];go_simp) rfl ⟨rfl,bE⟩
def weighR (l:Int) (f:Int→Int→Bool) :List Nd→Int
 | []=>0
 |x :: r=>(if f (endsOf l x.1).1 (endsOf l x.1).2.1=true then x.2 else 0) +weighR l f r
def lowOf (l:Int) (r:List Nd) (y:Int) :Int:=weighR l (fun _ hi=>decide (hi≤y)) r
def highOf (l:Int) (r:List Nd) (y:Int) :Int:=weighR l (fun lo _=>decide (lo≤y)) r
theorem weighR_le {l:Int} {f:Int→Int→Bool} {r:List Nd} (h:Roll r) :0≤weighR l f r∧weighR l f r≤sumR r:=by
 induction r with
 |nil=>simp [weighR,sumR]
 |cons x r ih=>
  have:=ih h.tail;have hx:=h.2 x (by simp);simp only [weighR,sumR]
  split <;> omega

def lastR (l:List Nd) (k:Nat) :Int:=if k=0 then 0 else (l[k - 1]?.getD (0,0)).1
def refDig (k l:Int) (A:Option Addr) (n cap:Nat) :Value:=.agg #[.int .i64 k,.int .i64 l,.slice A n cap]
def refLoadV (l k K:Int) (A:Option Addr) (r:List Nd) (cap:Nat) :Value:=if loadErr l k K r=0 then .tuple #[refDig k l A r.length cap,.int .i64 0] else .tuple #[refDig 0 0 none 0 0,.int .i64 (loadErr l k K r)]
section
variable {H:Type} {enc:TypeId×Value→H} {w:World} {base:Nat} {spare:Nat→Bool} {held:Bool} {fuel:Nat} {cs:List Value} {x:DataW H×List MemPlace}
end
def loadedV (l k K:Int) (A:Option Addr) (n cap:Nat) :Value:=.agg #[.int .i64 l,.int .i64 k,.int .i64 K,.slice A n cap]
theorem DigAt.alloc {w:World} {g K l:Nat} {k:Int} {r:List Nd} {F:Nat→Prop} (h:DigAt w g K l k r F) (o:Obj) :DigAt (w.alloc o) g K l k r F:=h.below ((Below.refl _ _).alloc (Nat.le_refl _) o)
theorem DigAt.drew {w:World} {g K l:Nat} {k:Int} {r:List Nd} {F:Nat→Prop} (h:DigAt w g K l k r F) :DigAt w.drew g K l k r F:=h.keep fun b hb=>rfl
def goodL (l k K:Int) (r:List Nd) :Prop:=r.length≤150∧¬(K=1∧10<l)∧loadErr l k K r=0
def LPost (K l:Nat) (k:Int) (r:List Nd) (d:Value) (w:World) (e:Ending) (w':World) :Prop:=∃g F,e=.returned (.tuple #[.pointer (some ⟨g,0,none⟩),d])∧DigAt w' g K l k r F∧(∀b,F b→w.heap.size≤b)∧Below w.heap.size w w'
def nodes16:List Nd:= [(1,1),(4,2),(7,3)]
theorem ends_bounds {l:Nat} {id:Int} (h:isNode l id=true) :0≤(endsOf l id).1∧(endsOf l id).1≤(endsOf l id).2.1∧(endsOf l id).2.1≤2^l - 1:=by
 obtain⟨n,x,hn,rfl,hn1,hn2,hx1,hx2⟩:=isNode_nat h;obtain rfl:n=l:=by omega
 obtain⟨d,b,t,hd,hb,hdb,hxt,htd,hprod⟩:=node_facts hn2 hx1 hx2
 have e1:endsOf n x= ((t:Int) *2^b,(t:Int) *2^b+2^b - 1,true):=by
  simp only [endsOf,h,if_true,Int.toNat_natCast,hd,hb];have: (x:Int) - 2^d=t:=by rw [hxt];push_cast;omega
  rw [this]
 rw [e1];have q3:=pow_pos' b
 have q8: (t:Int) *2^b+2^b≤2^n:=by
  have h: (((t+1) *2^b:Nat) :Int)≤((2^n:Nat) :Int):=by exact_mod_cast hprod
  push_cast at h
  rw [Int.add_mul,Int.one_mul] at h;exact h
 have q9:0≤(t:Int) *2^b:=Int.mul_nonneg (by omega) (by omega);simp only;omega
def loN (l:Nat) (x:Int) :Int:=(endsOf l x).1
def hiN (l:Nat) (x:Int) :Int:=(endsOf l x).2.1
def abv (p q:Int) :Bool:=decide (1≤p∧1≤q∧p.toNat.log2≤q.toNat.log2∧q.toNat / 2^ (q.toNat.log2 - p.toNat.log2) =p.toNat)
theorem node_shape {l:Nat} {id:Int} (h:isNode l id=true) : ∃d b t:Nat,d+b=l∧id= ((2^d+t:Nat) :Int)∧t<2^d∧(2^d+t).log2=d∧loN l id= (t:Int) *2^b∧hiN l id= (t:Int) *2^b+2^b - 1:=by
 obtain⟨n,x,hn,rfl,hn1,hn2,hx1,hx2⟩:=isNode_nat h;obtain rfl:n=l:=by omega
 obtain⟨d,b,t,hd,hb,hdb,hxt,htd,hprod⟩:=node_facts hn2 hx1 hx2
 have e1:endsOf n x= ((t:Int) *2^b,(t:Int) *2^b+2^b - 1,true):=by
  simp only [endsOf,h,if_true,Int.toNat_natCast,hd,hb];have: (x:Int) - 2^d=t:=by rw [hxt];push_cast;omega
  rw [this]
 exact⟨d,b,t,hdb,by rw [hxt],htd,by rw [←hxt];exact hd,by unfold loN;rw [e1],by unfold hiN;rw [e1]⟩
theorem log2_shape {d t:Nat} (h:t<2^d) : (2^d+t).log2=d:=by
 rw [Nat.log2_eq_iff (by have:=Nat.two_pow_pos d;omega)];rw [Nat.pow_succ];omega
theorem node_of_shape {l d b t:Nat} (hl:1≤l∧l≤48) (hdb:d+b=l) (ht:t<2^d) :isNode l ((2^d+t:Nat) :Int) =true:=by
 have h1:=Nat.two_pow_pos d;have h2: (2:Nat) ^d≤2^l:=Nat.pow_le_pow_right (by decide) (by omega);have h3: ((2^l:Nat) :Int) =2^l:=by simp
 simp only [isNode,decide_eq_true_eq,Int.toNat_natCast];omega
section
variable {l:Nat} {p q:Int}
theorem lo_hi (hp:isNode l p=true) :loN l p≤hiN l p:=(ends_bounds hp).2.1
theorem isNode_l (hp:isNode l p=true) :1≤l∧l≤48:=by
 simp only [isNode,decide_eq_true_eq] at hp;omega
theorem node_kids (hp:isNode l p=true) (hb:p.toNat.log2<l) :isNode l (2*p) =true∧isNode l (2*p+1) =true∧loN l (2*p) =loN l p∧hiN l (2*p+1) =hiN l p∧loN l (2*p+1) =hiN l (2*p) +1∧(2*p).toNat.log2=p.toNat.log2+1∧(2*p+1).toNat.log2=p.toNat.log2+1:=by
 have hl:=isNode_l hp;obtain⟨d,b,t,h1,rfl,h2,h3,h4,h5⟩:=node_shape hp;rw [Int.toNat_natCast,h3] at hb;obtain⟨c,rfl⟩ : ∃c,b=c+1:=⟨b - 1,by omega⟩;have e1:2* ((2^d+t:Nat) :Int) = ((2^ (d+1) +2*t:Nat) :Int):=by rw [Nat.pow_succ];push_cast;omega
 have e2:2* ((2^d+t:Nat) :Int) +1= ((2^ (d+1) + (2*t+1) :Nat) :Int):=by rw [Nat.pow_succ];push_cast;omega
 have q1:2*t<2^ (d+1):=by rw [Nat.pow_succ];omega
 have q2:2*t+1<2^ (d+1):=by rw [Nat.pow_succ];omega
 have n1:=node_of_shape (b:=c) hl (by omega) q1;have n2:=node_of_shape (b:=c) hl (by omega) q2;rw [e2,e1];refine⟨n1,n2,?_⟩;obtain⟨d',b',t',g1,g2,g3,g4,g5,g6⟩:=node_shape n1;obtain⟨d'',b'',t'',f1,f2,f3,f4,f5,f6⟩:=node_shape n2;have i1:=log2_shape q1;have i2:=log2_shape q2;have g2':=Int.ofNat.inj g2;have f2':=Int.ofNat.inj f2;rw [←g2',i1] at g4;rw [←f2',i2] at f4;subst g4 f4;obtain rfl:b'=c:=by omega
 obtain rfl:b''=b':=by omega
 obtain rfl:t'=2*t:=by omega
 obtain rfl:t''=2*t+1:=by omega
 rw [g5,g6,f5,f6,h4,h5,Int.toNat_natCast,Int.toNat_natCast,Int.toNat_natCast,h3,i1,i2,Int.pow_succ]
 push_cast
 refine⟨?_,?_,?_,rfl,rfl⟩
 ·rw [Int.mul_comm 2 (t:Int),Int.mul_assoc,Int.mul_comm 2]
 ·rw [Int.add_mul,Int.mul_comm 2 (t:Int),Int.mul_assoc,Int.mul_comm 2];omega
 ·rw [Int.add_mul];omega
end
def held (l:Nat) (ids:List Int) (v:Int) :Prop:=∃t∈ids,loN l t≤v∧v≤hiN l t
def sibN (t:Int) :Int:=if t % 2=0 then t+1 else t - 1
def climb:List Int→Int→List Int×Int
 | [],x=>([],x)
 |t :: ts,x=>if sibN t=x then climb ts (x / 2) else (t :: ts,x)
def joinStep (T:List Int) (x:Int) :List Int:=
 match T with
 | []=> [x]
 |t :: ts=>if abv t x=true then t :: ts else (climb (t :: ts) x).2 :: (climb (t :: ts) x).1
def joinF (s:List Int) :List Int:=s.foldl joinStep []
def leT (l:Nat) (a b:Int) :Prop:=loN l a<loN l b∨(loN l a=loN l b∧a≤b)
structure ClimbOf (l:Nat) (T:List Int) (x:Int) (T':List Int) (j:Int) :Prop where
 node:isNode l j=true
 suf:T' <:+ T
 left: ∀t∈T',hiN l t<loN l j
 hi:hiN l j=hiN l x
 lo:loN l j=loN l x∨∃t∈T,loN l j=loN l t
 lole:loN l j≤loN l x
 all: ∀t∈T,t∈T'∨abv j t=true
 in_: ∀v,loN l j≤v→v≤hiN l j→(loN l x≤v∧v≤hiN l x)∨∃t∈T,loN l t≤v∧v≤hiN l t
 stop: ∀t ts,T'=t :: ts→sibN t≠j
structure JInv (l:Nat) (pre T:List Int) :Prop where
 node: ∀t∈T,isNode l t=true
 sep:T.Pairwise (fun a b=>hiN l b<loN l a)
 low: ∀t∈T,∃q∈pre,loN l q=loN l t
 cov: ∀q∈pre,∃t∈T,abv t q=true
 sub: ∀t∈T,∀v,loN l t≤v→v≤hiN l t→held l pre v
 sib:T.Pairwise (fun a b=>sibN b≠a)
structure Tiles (l:Nat) (C:Int→Prop) (T:List Int) :Prop where
 node: ∀t∈T,isNode l t=true
 cov: ∀v,held l T v↔C v
 top: ∀x,isNode l x=true→(∀v,loN l x≤v→v≤hiN l x→C v)→∃t∈T,abv t x=true
def layT (l:Nat) (a b:Int) :Nat→Int→List Int
 |0,x=>if hiN l x<a∨b<loN l x then [] else [x]
 |h+1,x=>if hiN l x<a∨b<loN l x then [] else if a≤loN l x∧hiN l x≤b then [x] else layT l a b h (2*x) ++ layT l a b h (2*x+1)
def ofTiles (l:Nat) (a b:Int) :List Int:=layT l a b l 1
def restStep (l:Nat) (o:List Int×Int) (x:Int) :List Int×Int:=(if o.2<loN l x then o.1 ++ ofTiles l o.2 (loN l x - 1) else o.1,hiN l x+1)
def restF (l:Nat) (T:List Int) :List Int×Int:=T.foldl (restStep l) ([],0)
def restL (l:Nat) (T:List Int) :List Int:=if (restF l T).2≤2^l - 1 then (restF l T).1 ++ ofTiles l (restF l T).2 (2^l - 1) else (restF l T).1
structure RInv (l:Nat) (pre:List Int) (o:List Int×Int) :Prop where
 from0:0≤o.2∧o.2≤2^l
 last:0<o.2→held l pre (o.2 - 1)
 below: ∀t∈pre,hiN l t<o.2
 node: ∀t∈o.1,isNode l t=true
 cov: ∀v,held l o.1 v↔(0≤v∧v<o.2)∧¬held l pre v
 top: ∀x,isNode l x=true→hiN l x<o.2→(∀v,loN l x≤v→v≤hiN l x→¬held l pre v)→∃t∈o.1,abv t x=true
theorem ends_48 {l:Nat} (hl:l≤48) {id:Int} (h:isNode l id=true) :0≤(endsOf l id).1∧(endsOf l id).1≤(endsOf l id).2.1∧(endsOf l id).2.1≤281474976710655:=by
 have h1:=ends_bounds h;have h2:=pow_48 (n:=l) hl;omega
theorem Fits.nodes {l:Nat} {r:List Nd} (hf:Fits l r) (hl:1≤l∧l≤48) : ∀x∈r,isNode l x.1=true:=by
 intro x hx;have h1:=(hf.roll.2 x hx).1;have h2:=hf.lt x hx;simp only [isNode,decide_eq_true_eq,Int.toNat_natCast];omega
structure Tr where
 leaf:Int
 node:Int
 c:Int
def wTr (f:Tr→Bool) :List Tr→Int
 | []=>0
 |t :: T=>(if f t=true then t.c else 0) +wTr f T
def wIds (p:Int→Bool) :List Nd→Int
 | []=>0
 |x :: r=>(if p x.1=true then x.2 else 0) +wIds p r
theorem sumR_ids (r:List Nd) :sumR r=wIds (fun _=>true) r:=by
 induction r with
 |nil=>rfl
 |cons x r ih=>simp only [sumR,wIds,ih];simp
theorem wTr_nonneg {T:List Tr} (h: ∀t∈T,1≤t.c) (f:Tr→Bool) :0≤wTr f T:=by
 induction T with
 |nil=>simp [wTr]
 |cons t T ih=>
  have h1:=h t (by simp);have h2:=ih fun u hu=>h u (by simp [hu]);simp only [wTr]
  split <;> omega
theorem wTr_append (f:Tr→Bool) (S T:List Tr) :wTr f (S ++ T) =wTr f S+wTr f T:=by
 induction S with
 |nil=>simp [wTr]
 |cons t S ih=>simp only [List.cons_append,wTr,ih];omega
theorem wTr_split (g:Tr→Bool) (k:Tr→Int) (a:Int) (T:List Tr) :wTr g T=wTr (fun t=>g t && (k t == a)) T+wTr g (T.filter fun t=>k t != a):=by
 induction T with
 |nil=>rfl
 |cons t T ih=>
  simp only [wTr,List.filter_cons,ih];by_cases hk:k t=a
  ·simp [hk];omega
  ·simp [hk,wTr];omega
theorem wTr_key (p:Int→Bool) (k:Tr→Int) (a:Int) (T:List Tr) :wTr (fun t=>p (k t) && (k t == a)) T=if p a=true then wTr (fun t=>k t == a) T else 0:=by
 induction T with
 |nil=>simp [wTr]
 |cons t T ih=>
  simp only [wTr,ih];by_cases hk:k t=a
  ·subst hk
   by_cases hp:p (k t) =true
   ·simp [hp]
   ·simp [hp]
  ·have: (k t == a) =false:=by simpa using hk
   simp only [this,Bool.and_false,Bool.false_eq_true,if_false,Int.zero_add]
theorem wTr_none {T:List Tr} {f:Tr→Bool} (h: ∀t∈T,f t=false) :wTr f T=0:=by
 induction T with
 |nil=>rfl
 |cons t T ih=>simp only [wTr,h t (by simp),ih fun u hu=>h u (by simp [hu])];simp
theorem wIds_tr (p:Int→Bool) (k:Tr→Int) {r:List Nd} : ∀(T:List Tr),Roll r→(∀t∈T,1≤t.c)→(∀id,getR r id=wTr (fun t=>k t == id) T)→wIds p r=wTr (fun t=>p (k t)) T:=by
 induction r with
 |nil=>
  intro T _ hT h
  cases T with
  |nil=>rfl
  |cons t T=>
   have h1:=h (k t);have h2:=wTr_nonneg (fun u hu=>hT u (by simp [hu])) (fun u=>k u == k t) (T:=T);have h3:=hT t (by simp);simp only [getR,wTr,BEq.rfl,if_true] at h1;omega
 |cons x r ih=>
  intro T hr hT h;have h1:=h x.1;simp only [getR,if_true] at h1;rw [wTr_split (fun t=>p (k t)) k x.1 T,wTr_key];simp only [wIds];rw [←h1]
  congr 1
  refine ih _ hr.tail (fun t ht=>hT t (List.mem_filter.1 ht).1) fun id=> ?_;by_cases hid:id=x.1
  ·subst hid
   rw [getR_none (fun y hy=>by have:=hr.head y hy;omega),wTr_none];intro t ht;have:=(List.mem_filter.1 ht).2
   simpa using this
  ·have h2:=h id
   simp only [getR] at h2;rw [if_neg (fun e=>hid e.symm)] at h2
   rw [h2,wTr_split (fun t=>k t == id) k x.1 T,wTr_none (f:=fun t=>(k t == id) && (k t == x.1)) (fun t _=>by
    by_cases e:k t=id
    ·simp [e,hid]
    ·simp [e])]
   simp
def Flow (l:Nat) (r q:List Nd) :Prop:=∃T:List Tr,(∀t∈T,1≤t.c)∧
 (∀t∈T,isNode l t.node=true∧isNode l t.leaf=true∧(endsOf l t.node).1≤(endsOf l t.leaf).1∧(endsOf l t.leaf).2.1≤(endsOf l t.node).2.1)∧
 (∀id,getR r id=wTr (fun t=>t.node == id) T)∧(∀id,getR q id=wTr (fun t=>t.leaf == id) T)
section
variable {l:Nat} {r q:List Nd}
theorem Flow.nil (l:Nat) :Flow l [] []:=⟨[],by simp,by simp,fun _=>rfl,fun _=>rfl⟩
theorem Flow.add (h:Flow l r q) (hr:Roll r) (hq:Roll q) {id c:Int} (hid:isNode l id=true) (hc:1≤c) :Flow l (addR r id c) (addR q id c):=by
 obtain⟨T,h1,h2,h3,h4⟩:=h;refine⟨⟨id,id,c⟩ :: T,?_,?_,?_,?_⟩
 ·intro t ht
  rcases List.mem_cons.1 ht with rfl|ht
  ·exact hc
  ·exact h1 t ht
 ·intro t ht
  rcases List.mem_cons.1 ht with rfl|ht
  ·exact⟨hid,hid,Int.le_refl _,Int.le_refl _⟩
  ·exact h2 t ht
 ·intro j
  rw [getR_add hr,h3,h3];simp only [wTr];by_cases e:j=id
  ·subst e;simp;omega
  ·have: (id == j) =false:=by simpa using fun e'=>e e'.symm
   rw [if_neg e,this];simp
 ·intro j
  rw [getR_add hq,h4,h4];simp only [wTr];by_cases e:j=id
  ·subst e;simp;omega
  ·have: (id == j) =false:=by simpa using fun e'=>e e'.symm
   rw [if_neg e,this];simp
theorem Flow.fold (h:Flow l r q) {a b p:Int} {r':List Nd} (hp:isNode l p=true) (hab:a≠b) (hap:a≠p) (hbp:b≠p) (ha: (endsOf l p).1≤(endsOf l a).1∧(endsOf l a).2.1≤(endsOf l p).2.1) (hb: (endsOf l p).1≤(endsOf l b).1∧(endsOf l b).2.1≤(endsOf l p).2.1)
 (hr: ∀id,getR r' id=if id=p then getR r p+getR r a+getR r b else if id=a∨id=b then 0 else getR r id) :Flow l r' q:=by
 obtain⟨T,h1,h2,h3,h4⟩:=h;refine⟨T.map fun t=>if t.node=a∨t.node=b then {t with node:=p} else t,?_,?_,?_,?_⟩
 ·intro t ht
  obtain⟨u,hu,rfl⟩:=List.mem_map.1 ht;have:=h1 u hu
  split <;> exact this
 ·intro t ht
  obtain⟨u,hu,rfl⟩:=List.mem_map.1 ht;have:=h2 u hu
  split
  ·rename_i hn
   refine⟨hp,this.2.1,?_,?_⟩
   ·simp only
    rcases hn with hn|hn
    ·rw [hn] at this;omega
    ·rw [hn] at this;omega
   ·simp only
    rcases hn with hn|hn
    ·rw [hn] at this;omega
    ·rw [hn] at this;omega
  ·exact this
 ·intro id
  rw [hr,h3,h3,h3,h3];clear h1 h2 h3 h4 hr
  induction T with
  |nil=>simp [wTr]
  |cons t T ih=>
   simp only [List.map_cons,wTr];by_cases i1:id=p
   ·rw [if_pos i1] at ih⊢
    subst i1;by_cases ta:t.node=a
    ·have e1:t.node≠b:=by omega
     have e2:t.node≠id:=by omega
     simp [ta,hab,hap]
     omega
    ·by_cases tb:t.node=b
     ·simp [tb,hbp,fun e:b=a=>hab e.symm]
      omega
     ·simp [ta,tb]
      by_cases tp:t.node=id
      ·simp [tp];omega
      ·simp [tp];omega
   ·rw [if_neg i1] at ih⊢
    by_cases i2:id=a∨id=b
    ·rw [if_pos i2] at ih⊢
     by_cases t1:t.node=a∨t.node=b
     ·rw [if_pos t1]
      have: (p == id) =false:=by simpa using fun e=>i1 e.symm
      simp only [this];simp only [Bool.false_eq_true,if_false];omega
     ·rw [if_neg t1]
      have: (t.node == id) =false:=by
       simp only [beq_eq_false_iff_ne,ne_eq];rintro rfl;exact t1 i2
      simp only [this,Bool.false_eq_true,if_false];omega
    ·rw [if_neg i2] at ih⊢
     by_cases t1:t.node=a∨t.node=b
     ·rw [if_pos t1]
      have e1: (p == id) =false:=by simpa using fun e=>i1 e.symm
      have e2: (t.node == id) =false:=by
       simp only [beq_eq_false_iff_ne,ne_eq];rintro rfl;exact i2 t1
      simp only [e1,e2,Bool.false_eq_true,if_false];omega
     ·rw [if_neg t1];omega
 ·intro id
  rw [h4];clear h1 h2 h3 h4 hr
  induction T with
  |nil=>rfl
  |cons t T ih=>
   simp only [List.map_cons,wTr,ih];by_cases hc:t.node=a∨t.node=b
   ·rw [if_pos hc]
   ·rw [if_neg hc]
theorem Flow.join {r2 q2 r3 q3:List Nd} (h:Flow l r q) (k:Flow l r2 q2) (hr: ∀id,getR r3 id=getR r id+getR r2 id) (hq: ∀id,getR q3 id=getR q id+getR q2 id) :Flow l r3 q3:=by
 obtain⟨T,h1,h2,h3,h4⟩:=h;obtain⟨S,k1,k2,k3,k4⟩:=k;refine⟨T ++ S,fun t ht=> ?_,fun t ht=> ?_,fun id=> ?_,fun id=> ?_⟩
 ·rcases List.mem_append.1 ht with ht|ht
  ·exact h1 t ht
  ·exact k1 t ht
 ·rcases List.mem_append.1 ht with ht|ht
  ·exact h2 t ht
  ·exact k2 t ht
 ·rw [hr,wTr_append,h3,k3]
 ·rw [hq,wTr_append,h4,k4]
theorem Flow.sum (h:Flow l r q) (hr:Roll r) (hq:Roll q) :sumR r=sumR q:=by
 obtain⟨T,h1,h2,h3,h4⟩:=h;rw [sumR_ids,sumR_ids,wIds_tr _ (·.node) T hr h1 h3,wIds_tr _ (·.leaf) T hq h1 h4]
end
def pathOf (l:Nat) (y:Int) :List Int:=(List.range l).map fun d=>(2^l+y) / 2^ (l - d)
theorem reckon_count (w:World) (n:Nat) (hn:n≤9223372036854775807) :Calls Tryz.prog 175 #[.int .u64 n] w fun e w'=>e=.returned (.tuple #[.int .i64 n,.bool true])∧Below w.heap.size w w':=by
 go_enter Tryz.func175,Tryz.ntmps175
 go_wp2_with fail
 go_ret2
 exact⟨rfl,bE⟩
def encD:Enc Nat 1:=⟨fun x=> [.int .i64 x],fun _=>rfl,by intro x u hu;simp at hu;subst hu;rfl⟩
def dg (l:List Nat) (i:Nat) :Nat:=l.getD i 0
def valD:List Nat→Nat
 | []=>0
 |x :: l=>x+1000*valD l
def okD (l:List Nat) :Prop:=∀x∈l,x≤999
def cmpV (x y:Nat) :Int:=if x<y then -1 else if y<x then 1 else 0

section
variable {a c u d q rh:Nat}
theorem guess_high (hd:d<4294967296) (hu:u<a*4294967296+c) (h:q*a+rh=u) (ht:4294967296≤q∨4294967296*rh+d<q*c) : (u*4294967296+d) / (a*4294967296+c) <q:=by
 rw [Nat.div_lt_iff_lt_mul (by omega)];rcases ht with ht|ht
 ·have h1: (a*4294967296+c) *4294967296≤q* (a*4294967296+c):=by rw [Nat.mul_comm q];exact Nat.mul_le_mul_left _ ht
  omega
 ·have h1:q* (a*4294967296+c) = (q*a) *4294967296+q*c:=by rw [Nat.mul_add,Nat.mul_assoc]
  rw [h1];omega
theorem guess_low (h:q*a+rh=u) (hc:0<a*4294967296+c) (ht:q*c≤4294967296*rh+d) :q≤(u*4294967296+d) / (a*4294967296+c):=by
 rw [Nat.le_div_iff_mul_le hc];have h1:q* (a*4294967296+c) = (q*a) *4294967296+q*c:=by rw [Nat.mul_add,Nat.mul_assoc]
 rw [h1];omega
theorem guess_break (hc:c<4294967296) (hu:u<a*4294967296+c) (h:q*a+rh=u) (hr:4294967296≤rh) :q≤(u*4294967296+d) / (a*4294967296+c):=by
 refine guess_low h (by omega) ?_;have h1:q*a<4294967296*a:=by omega
 have h2:q<4294967296:=Nat.lt_of_mul_lt_mul_right h1;have h3:q*c≤q*4294967296:=Nat.mul_le_mul_left _ (by omega);omega
theorem quot_digit (hd:d<4294967296) (hu:u<a*4294967296+c) : (u*4294967296+d) / (a*4294967296+c) <4294967296:=by
 rw [Nat.div_lt_iff_lt_mul (by omega)];omega
end
theorem two_digits (B Y u x1 x0:Nat) (hY:0<Y) :
 (u* (B*B) + (x1*B+x0)) / Y= (u*B+x1) / Y*B+ ((u*B+x1) % Y*B+x0) / Y∧
 (u* (B*B) + (x1*B+x0)) % Y= ((u*B+x1) % Y*B+x0) % Y:=by
 have h1:=Nat.div_add_mod (u*B+x1) Y;obtain⟨q1,hq⟩ : ∃q,q= (u*B+x1) / Y:=⟨_,rfl⟩;obtain⟨r1,hr⟩ : ∃q,q= (u*B+x1) % Y:=⟨_,rfl⟩;rw [←hq,←hr] at h1⊢
 have e:u* (B*B) + (x1*B+x0) =Y* (q1*B) + (r1*B+x0):=by
  have: (Y*q1+r1) *B= (u*B+x1) *B:=by rw [h1]
  rw [Nat.add_mul,Nat.add_mul,Nat.mul_assoc,Nat.mul_assoc] at this;omega
 rw [e,Nat.mul_add_div hY,Nat.mul_add_mod];exact⟨rfl,rfl⟩
theorem moved_up {B hi lo s t:Nat} (hB:2^s*2^t=B) :
 (hi*2^s+lo / 2^t) *B+lo*2^s % B= (hi*B+lo) *2^s:=by
 have h1:lo*2^s / B=lo / 2^t:=by
  rw [←hB,Nat.mul_comm lo,Nat.mul_div_mul_left _ _ (Nat.two_pow_pos s)]
 have h2:=Nat.div_add_mod (lo*2^s) B;rw [h1,Nat.mul_comm B] at h2
 have h3: (hi*B+lo) *2^s=hi*2^s*B+lo*2^s:=by
  rw [Nat.add_mul,Nat.mul_assoc,Nat.mul_comm B,←Nat.mul_assoc]
 rw [h3,Nat.add_mul];omega
theorem moved_quot {N y s:Nat} :N*2^s / (y*2^s) =N / y∧N*2^s % (y*2^s) / 2^s=N % y:=by
 have hp:=Nat.two_pow_pos s;refine⟨Nat.mul_div_mul_right _ _ hp,?_⟩;rw [Nat.mul_mod_mul_right,Nat.mul_div_cancel _ hp]
theorem wraps_u64 (n:Int) (h₀:0≤n) (h₁:n<2^64) :IntKind.u64.wrap n=n:=by rw [IntKind.wrap_u64];omega
theorem u64_mask (n:Nat) (hn:n<18446744073709551616) :bits .and .u64 (n:Int) 4294967295= ((n % 4294967296:Nat) :Int):=by
 have:=bits_mask .u64 64 (by decide) wraps_u64 32 (by omega) (n:Int) (by omega) (by omega);have e: (2:Int) ^32 - 1=4294967295:=by decide
 rw [e] at this;rw [this];omega
theorem moved_div {y:Nat} (h0:y≠0) (h:y<18446744073709551616) : ∃s Y:Nat,(64:Int) - (Lib.bitLen y:Int) =s∧s≤63∧y*2^s=Y∧9223372036854775808≤Y∧Y<18446744073709551616:=by
 have hb:=Lib.bitLenAux_bounds 64 y (by simpa using h) h0;have h1:2^ (Lib.bitLen y - 1)≤y:=hb.2.1;have h2:y<2^Lib.bitLen y:=hb.2.2;have h3:1≤Lib.bitLen y:=hb.1
 have h4:Lib.bitLen y≤64:=by
  apply Classical.byContradiction
  intro hn;have:=Nat.pow_le_pow_right (n:=2) (by decide) (show 64≤Lib.bitLen y - 1 by omega);omega
 obtain⟨n,hn⟩ : ∃n,n=Lib.bitLen y:=⟨_,rfl⟩;rw [←hn] at h1 h2 h3 h4⊢;refine⟨64 - n,_,by omega,by omega,rfl,?_,?_⟩
 ·have e:2^ (n - 1) *2^ (64 - n) =9223372036854775808:=by rw [←Nat.pow_add,show n - 1+ (64 - n) =63 by omega]
  rw [←e];exact Nat.mul_le_mul_right _ h1
 ·have e:2^n*2^ (64 - n) =18446744073709551616:=by rw [←Nat.pow_add,show n+ (64 - n) =64 by omega]
  rw [←e];exact Nat.mul_lt_mul_of_pos_right h2 (Nat.two_pow_pos _)
structure DivFacts (hi lo y s a c u x1 x0:Nat) :Prop where
 s63:s≤63
 eY:y*2^s=a*4294967296+c
 a1:2147483648≤a
 a2:a<4294967296
 lc:c<4294967296
 eu:u=hi*2^s+lo / 2^ (64 - s)
 uY:u<a*4294967296+c
 et:lo*2^s % 18446744073709551616=x1*4294967296+x0
 l1:x1<4294967296
 l0:x0<4294967296
theorem div_facts {hi lo y s Y:Nat} (hs:s≤63) (hY:y*2^s=Y) (hY1:9223372036854775808≤Y) (hY2:Y<18446744073709551616) (hhi:hi<y) (hlo:lo<18446744073709551616) :
 ∃a c u x1 x0,DivFacts hi lo y s a c u x1 x0:=by
 have h64:2^s*2^ (64 - s) =18446744073709551616:=by rw [←Nat.pow_add,show s+ (64 - s) =64 by omega]
 have hu:hi*2^s+lo / 2^ (64 - s) <Y:=by
  have h1:lo / 2^ (64 - s) <2^s:=by
   apply Nat.div_lt_of_lt_mul
   rw [Nat.mul_comm,h64];exact hlo
  have h2: (hi+1) *2^s≤y*2^s:=Nat.mul_le_mul_right _ hhi;rw [Nat.add_mul,Nat.one_mul] at h2;omega
 have ht:=Nat.mod_lt (lo*2^s) (show 0<18446744073709551616 by decide);obtain⟨t,htt⟩ : ∃t,t=lo*2^s % 18446744073709551616:=⟨_,rfl⟩;rw [←htt] at ht;exact⟨Y / 4294967296,Y % 4294967296,_,t / 4294967296,t % 4294967296,hs,by omega,by omega,by omega,by omega,rfl,by omega,by rw [←htt];omega,by omega,by omega⟩
theorem div_end {hi lo y s a c u x1 x0:Nat} (h:DivFacts hi lo y s a c u x1 x0) :
 (hi*18446744073709551616+lo) / y= (u*4294967296+x1) / (a*4294967296+c) *4294967296+ ((u*4294967296+x1) % (a*4294967296+c) *4294967296+x0) / (a*4294967296+c)∧
 (hi*18446744073709551616+lo) % y= ((u*4294967296+x1) % (a*4294967296+c) *4294967296+x0) % (a*4294967296+c) / 2^s:=by
 have hs:=h.s63;have h64:2^s*2^ (64 - s) =18446744073709551616:=by rw [←Nat.pow_add,show s+ (64 - s) =64 by omega]
 have h1:=moved_up (hi:=hi) (lo:=lo) h64;rw [h.et,←h.eu] at h1;have ha:=h.a1;have h2:=two_digits 4294967296 (a*4294967296+c) u x1 x0 (by omega);simp only [Nat.reduceMul] at h2;rw [h1] at h2;have h3:=moved_quot (N:=hi*18446744073709551616+lo) (y:=y) (s:=s);rw [h.eY] at h3;rw [←h3.1,←h3.2,h2.1,h2.2];exact⟨rfl,rfl⟩
structure Guess (a c u d q rh:Nat) :Prop where
 eq:q*a+rh=u
 ge: (u*4294967296+d) / (a*4294967296+c)≤q
 rh:rh<4294967296
section
variable {a c u d q rh:Nat}
theorem Guess.start (ha1:2147483648≤a) (ha2:a<4294967296) (hc:c<4294967296) (hd:d<4294967296) (hu:u<a*4294967296+c) :Guess a c u d (u / a) (u % a):=by
 have h1:=Nat.div_add_mod u a;have h2:=Nat.mod_lt u (show 0<a by omega);rw [Nat.mul_comm] at h1;obtain⟨q,hq⟩ : ∃q,q=u / a:=⟨_,rfl⟩;obtain⟨r,hr⟩ : ∃r,r=u % a:=⟨_,rfl⟩;rw [←hq,←hr] at h1⊢;rw [←hr] at h2;refine⟨h1,?_,by omega⟩
 apply Nat.le_of_lt_succ
 rw [Nat.div_lt_iff_lt_mul (by omega)];have h4:u<q.succ*a:=by rw [Nat.succ_mul];omega
 have h5:q.succ* (a*4294967296+c) =q.succ*a*4294967296+q.succ*c:=by rw [Nat.mul_add,Nat.mul_assoc]
 rw [h5];omega
theorem Guess.q_le (h:Guess a c u d q rh) (ha1:2147483648≤a) (hc:c<4294967296) (hu:u<a*4294967296+c) :q≤4294967298:=by
 have h1:=h.eq
 apply Classical.byContradiction
 intro hn;have h2:4294967299*a≤q*a:=Nat.mul_le_mul_right _ (by omega);omega
theorem Guess.down (h:Guess a c u d q rh) (hd:d<4294967296) (hu:u<a*4294967296+c) (ht:4294967296≤q∨4294967296*rh+d<q*c) :1≤q∧(u*4294967296+d) / (a*4294967296+c)≤q - 1∧(q - 1) *a+ (rh+a) =u:=by
 have h1:=guess_high hd hu h.eq ht;have h2:=h.eq;obtain⟨T,hT⟩ : ∃T,T= (u*4294967296+d) / (a*4294967296+c):=⟨_,rfl⟩;rw [←hT] at h1⊢;refine⟨by omega,by omega,?_⟩
 have h3:q*a= (q - 1) *a+a:=by
  have:q= (q - 1) +1:=by omega
  conv=>lhs;rw [this,Nat.add_mul,Nat.one_mul]
 omega
theorem Guess.fin (h:Guess a c u d q rh) (ha:0<a) (ht:q*c≤4294967296*rh+d) :q= (u*4294967296+d) / (a*4294967296+c):=
 Nat.le_antisymm (guess_low h.eq (by omega) ht) h.ge
end
theorem left_over {u d a c q r:Nat} (hY:0<a*4294967296+c) (hY2:a*4294967296+c<18446744073709551616) (hq:q= (u*4294967296+d) / (a*4294967296+c)) (hr:r= (u*4294967296+d) % (a*4294967296+c)) :
 IntKind.u64.wrap (IntKind.u64.wrap (IntKind.u64.wrap ((u:Int) *4294967296) + (d:Int)) - IntKind.u64.wrap ((q:Int) * ((a:Int) *4294967296+ (c:Int)))) = (r:Int):=by
 obtain⟨Y,hYe⟩ : ∃Y,Y=a*4294967296+c:=⟨_,rfl⟩;rw [show (a:Int) *4294967296+ (c:Int) = (Y:Int) by omega];rw [←hYe] at hY hY2 hq hr;have h1:=Nat.div_add_mod (u*4294967296+d) Y;have h2:=Nat.mod_lt (u*4294967296+d) hY;rw [←hq] at h1;rw [←hr] at h1 h2;obtain⟨p,hp⟩ : ∃p,p=Y*q:=⟨_,rfl⟩;have e: (q:Int) * (Y:Int) = (p:Int):=by rw [hp,Nat.mul_comm];push_cast;rfl
 rw [←hp] at h1;rw [e];simp only [IntKind.wrap_u64];omega
theorem sub_of_add {m r u:Nat} (h:m+r=u) : (u:Int) - (m:Int) = (r:Int):=by omega
theorem bits_Div64 (w:World) (hi lo y:Nat) (hy:y<18446744073709551616) (hhi:hi<y) (hlo:lo<18446744073709551616) :
 Calls Tryz.prog 226 #[.int .u64 hi,.int .u64 lo,.int .u64 y] w fun e w'=>e=.returned (.tuple #[.int .u64 ((hi*18446744073709551616+lo) / y:Nat),.int .u64 ((hi*18446744073709551616+lo) % y:Nat)])∧Below w.heap.size w w':=by
 by_cases h0:hi=0
 ·subst h0
  have q1: (0:Int)≤(lo:Int) / (y:Int):=Int.ediv_nonneg (by omega) (by omega);have q2: (lo:Int) / (y:Int)≤lo:=Int.ediv_le_self _ (by omega);have q3: (0:Int)≤(lo:Int) % (y:Int):=Int.emod_nonneg _ (by omega);have q4: (lo:Int) % (y:Int) <y:=Int.emod_lt_of_pos _ (by omega);have y1: (1:Int)≤(y:Int):=by omega
  have y0: ((y:Int) == 0) =false:=by simp;omega
  go_enter Tryz.func226,Tryz.ntmps226
  go_wp2_with fail;refine rX (by kernel_rfl) (by kernel_rfl) ?_
  repeat (go_big_quiet_step (fail))
  refine wpQuiet_nil ?_;intro w1 hb1;replace hb1:=bX hb1;have B1:Below w.heap.size w w1:=Below.then_ bE hb1;have s1:=B1.size;go_wp2_with fail
  go_ret2
  exact⟨by simp,bE⟩
 ·obtain⟨s,Y,hs,hs63,hY,hY1,hY2⟩:=moved_div (show y≠0 by omega) hy
  obtain⟨a,c,u,x1,x0,hF⟩:=div_facts hs63 hY hY1 hY2 hhi hlo;have y0: ((y:Int) == 0) =false:=by simp;omega
  have hi0: ((hi:Int) == 0) =false:=by simp;omega
  have e1: (y:Int) *2^s= (a:Int) *4294967296+ (c:Int):=by have:=hF.eY;rw [show (y:Int) *2^s= ((y*2^s:Nat) :Int) by push_cast;rfl,this];omega
  have e2: ((a:Int) *4294967296+ (c:Int)) / 4294967296= (a:Int):=by have:=hF.lc;omega
  have e3:bits .and .u64 ((a:Int) *4294967296+ (c:Int)) 4294967295= (c:Int):=by
   have h1:=hF.lc;have h2:=hF.a2;have:=u64_mask (a*4294967296+c) (by omega);rw [show ((a*4294967296+c:Nat) :Int) = (a:Int) *4294967296+ (c:Int) by omega] at this;rw [this];omega
  have e4:bits .or .u64 (IntKind.u64.wrap ((hi:Int) *2^s)) ((lo:Int) / 2^ (64 - s)) = (u:Int):=by
   have h1:=hF.eu;have h2:=hF.uY;have h3:=hF.lc;have h4:=hF.a2;have h64:2^s*2^ (64 - s) =18446744073709551616:=by rw [←Nat.pow_add,show s+ (64 - s) =64 by omega]
   have h5:lo / 2^ (64 - s) <2^s:=by
    apply Nat.div_lt_of_lt_mul
    rw [Nat.mul_comm,h64];exact hlo
   have p1: (hi:Int) *2^s= ((hi*2^s:Nat) :Int):=by push_cast;rfl
   have p2: (lo:Int) / 2^ (64 - s) = ((lo / 2^ (64 - s) :Nat) :Int):=by push_cast;rfl
   have p3: ((2^s:Nat) :Int) =2^s:=by push_cast;rfl
   have p4: ((hi*2^s:Nat) :Int) % 2^s=0:=by rw [←p1];exact Int.mul_emod_left _ _
   obtain⟨H,hH⟩ : ∃H,H=hi*2^s:=⟨_,rfl⟩;obtain⟨L,hL⟩ : ∃L,L=lo / 2^ (64 - s):=⟨_,rfl⟩;rw [←hH] at p1 p4 h1;rw [←hL] at p2 h1 h5;rw [p1,p2,wraps_u64 _ (by omega) (by omega)];have:=bits_join .u64 64 (by decide) wraps_u64 s (H:Int) (L:Int) (by omega) p4 (by omega) (by omega) (by rw [←p3];omega) (by omega);rw [this,h1];omega
  have e5:IntKind.u64.wrap ((lo:Int) *2^s) = (x1:Int) *4294967296+ (x0:Int):=by
   have h1:=hF.et;rw [show (lo:Int) *2^s= ((lo*2^s:Nat) :Int) by push_cast;rfl,IntKind.wrap_u64];omega
  have e6: ((x1:Int) *4294967296+ (x0:Int)) / 4294967296= (x1:Int):=by have:=hF.l0;omega
  have e7:bits .and .u64 ((x1:Int) *4294967296+ (x0:Int)) 4294967295= (x0:Int):=by
   have h1:=hF.l0;have h2:=hF.l1;have:=u64_mask (x1*4294967296+x0) (by omega);rw [show ((x1*4294967296+x0:Nat) :Int) = (x1:Int) *4294967296+ (x0:Int) by omega] at this;rw [this];omega
  have hlz:Hid (∀W,Calls Tryz.prog 272 #[.int .u64 y] W fun e w'=>e=.returned (.int .i64 s)∧w'=W):=LH fun W=>by
   have:=Tryz.bits_LeadingZeros64 (y:Int) W (by omega) (by omega);rw [Int.toNat_natCast,hs] at this;exact this
  have a1:=hF.a1;have a2:=hF.a2;have c2:=hF.lc;have uY:=hF.uY;have xx1:=hF.l1;have xx0:=hF.l0;have G1:=LH (Guess.start (d:=x1) a1 a2 c2 xx1 uY);have e8: (u:Int) / (a:Int) = ((u / a:Nat) :Int):=by push_cast;rfl
  have e9: ((u / a:Nat) :Int) * (a:Int) = ((u / a*a:Nat) :Int):=by push_cast;rfl
  have e10:u / a*a+u % a=u:=by have:=Nat.div_add_mod u a;rw [Nat.mul_comm];exact this
  obtain⟨q0,hq0⟩ : ∃q,q=u / a:=⟨_,rfl⟩;obtain⟨r0,hr0⟩ : ∃q,q=u % a:=⟨_,rfl⟩;obtain⟨m0,hm0⟩ : ∃q,q=q0*a:=⟨_,rfl⟩;rw [←hq0] at e8 e9 e10;rw [←hq0,←hr0] at G1;rw [←hm0] at e9 e10;rw [←hr0] at e10;have e11: (u:Int) - (m0:Int) = (r0:Int):=sub_of_add e10;have hq0l:q0≤4294967298:=G1.out.q_le a1 c2 uY;have HE:=LH (div_end hF);have s1: (s:Int)≤63:=by omega
  clear hs hs63 hY hY1 hY2 hq0 hr0 hm0 e10 hF
  go_enter Tryz.func226,Tryz.ntmps226
  go_wp2_with fail;refine(hlz.out _).mono ?_;rintro e w1 ⟨rfl,rfl⟩
  go_upto_block 0 with fail
  go_cut [15,16] (fun q rh wx=>∃qn rn:Nat,q=.int .u64 qn∧rh=.int .u64 rn∧qn= (u*4294967296+x1) / (a*4294967296+c)∧w1=wx)
  case first=>
   go_wp2_with fail
   go_loop [15,16] (fun q rh=>∃qn rn:Nat,q=.int .u64 qn∧rh=.int .u64 rn∧Guess a c u x1 qn rn) (fun q _=>(intOf q).toNat)
   case atStart=>exact⟨_,_,rfl,rfl,G1.out⟩
   case round=>
    obtain⟨qn,rn,rfl,rfl,hG⟩:=hrel;have HG:=LH hG;have g1:=hG.q_le a1 c2 uY;have g2:=hG.rh;clear hG;by_cases hq:4294967296≤qn
    ·have HD:=LH (HG.out.down xx1 uY (.inl hq))
     have g3:=HD.out.1;have hq': (4294967296:Int)≤(qn:Int):=by omega
     by_cases hb:4294967296≤rn+a
     ·have HF:=LH (Nat.le_antisymm (guess_break (d:=x1) c2 uY HD.out.2.2 hb) HD.out.2.1)
      have hb': (4294967296:Int)≤(rn:Int) + (a:Int):=by omega
      go_wp2_with fail
      go_meet
      exact⟨qn - 1,rn+a,by go_num,by go_num,HF.out,rfl⟩
     ·have hb': ¬(4294967296:Int)≤(rn:Int) + (a:Int):=by omega
      go_wp2_with fail
      go_round
      case rel=>exact⟨qn - 1,rn+a,by go_num,by go_num,HD.out.2.2,HD.out.2.1,by omega⟩
      case measure=>simp [intOf];omega
    ·have hR:qn*c≤18446744073709551615:=by
      have h1:qn*c≤4294967295*c:=Nat.mul_le_mul_right _ (by omega);omega
     have e12: (qn:Int) * (c:Int) = ((qn*c:Nat) :Int):=by push_cast;rfl
     have hqd:decide ((4294967296:Int)≤(qn:Int)) =false:=by simp;omega
     have hqn:qn≤4294967295:=by omega
     clear hq;obtain⟨R,hRe⟩ : ∃R,R=qn*c:=⟨_,rfl⟩;rw [←hRe] at e12 hR;by_cases ht:4294967296*rn+x1<R
     ·have HD:=LH (HG.out.down xx1 uY (.inr (by rw [←hRe];exact ht)))
      have g3:=HD.out.1;have ht':decide ((4294967296:Int) * (rn:Int) + (x1:Int) < (R:Int)) =true:=by simp;omega
      clear ht;clear hRe;by_cases hb:4294967296≤rn+a
      ·have HF:=LH (Nat.le_antisymm (guess_break (d:=x1) c2 uY HD.out.2.2 hb) HD.out.2.1)
       have hb': (4294967296:Int)≤(rn:Int) + (a:Int):=by omega
       go_wp2_with fail
       go_meet
       exact⟨qn - 1,rn+a,by go_num,by go_num,HF.out,rfl⟩
      ·have hb': ¬(4294967296:Int)≤(rn:Int) + (a:Int):=by omega
       go_wp2_with fail
       go_round
       case rel=>exact⟨qn - 1,rn+a,by go_num,by go_num,HD.out.2.2,HD.out.2.1,by omega⟩
       case measure=>simp [intOf];omega
     ·have HF:=LH (HG.out.fin (by omega) (by rw [←hRe];omega))
      have ht':decide ((4294967296:Int) * (rn:Int) + (x1:Int) < (R:Int)) =false:=by simp;omega
      clear ht;clear hRe;go_wp2_with fail
      go_meet
      exact⟨qn,rn,rfl,rfl,HF.out,rfl⟩
  case rest=>
   obtain⟨qn,rn,rfl,rfl,hq,rfl⟩:=hcut;have HQ:=LH hq;have hqd:=quot_digit xx1 uY;rw [←hq] at hqd;have hqd':qn≤4294967295:=by omega
   obtain⟨r,hr⟩ : ∃r,r= (u*4294967296+x1) % (a*4294967296+c):=⟨_,rfl⟩;have e20:=left_over (by omega) (by omega) hq hr;have rY:r<a*4294967296+c:=by rw [hr];exact Nat.mod_lt _ (by omega)
   have HR:=LH hr;have G2:=LH (Guess.start (d:=x0) a1 a2 c2 xx0 rY);have f8: (r:Int) / (a:Int) = ((r / a:Nat) :Int):=by push_cast;rfl
   have f9: ((r / a:Nat) :Int) * (a:Int) = ((r / a*a:Nat) :Int):=by push_cast;rfl
   have f10:r / a*a+r % a=r:=by have:=Nat.div_add_mod r a;rw [Nat.mul_comm];exact this
   obtain⟨q2,hq2⟩ : ∃q,q=r / a:=⟨_,rfl⟩;obtain⟨r2,hr2⟩ : ∃q,q=r % a:=⟨_,rfl⟩;obtain⟨m2,hm2⟩ : ∃q,q=q2*a:=⟨_,rfl⟩;rw [←hq2] at f8 f9 f10;rw [←hq2,←hr2] at G2;rw [←hm2] at f9 f10;rw [←hr2] at f10;have f11: (r:Int) - (m2:Int) = (r2:Int):=sub_of_add f10;have hq2l:q2≤4294967298:=G2.out.q_le a1 c2 rY;clear hq hqd hr hq2 hr2 hm2 f10 e8 e9 e11
   go_upto_block 2 with fail
   go_cut [18,16] (fun q rh wx=>∃qm rm:Nat,q=.int .u64 qm∧rh=.int .u64 rm∧qm= (r*4294967296+x0) / (a*4294967296+c)∧w1=wx)
   case first=>
    go_wp2_with fail
    go_loop [18,16] (fun q rh=>∃qn rn:Nat,q=.int .u64 qn∧rh=.int .u64 rn∧Guess a c r x0 qn rn) (fun q _=>(intOf q).toNat)
    case atStart=>exact⟨_,_,rfl,rfl,G2.out⟩
    case round=>
     obtain⟨qn,rn,rfl,rfl,hG⟩:=hrel;have HG:=LH hG;have g1:=hG.q_le a1 c2 rY;have g2:=hG.rh;clear hG;by_cases hq:4294967296≤qn
     ·have HD:=LH (HG.out.down xx0 rY (.inl hq))
      have g3:=HD.out.1;have hq': (4294967296:Int)≤(qn:Int):=by omega
      by_cases hb:4294967296≤rn+a
      ·have HF:=LH (Nat.le_antisymm (guess_break (d:=x0) c2 rY HD.out.2.2 hb) HD.out.2.1)
       have hb': (4294967296:Int)≤(rn:Int) + (a:Int):=by omega
       go_wp2_with fail
       go_meet
       exact⟨qn - 1,rn+a,by go_num,by go_num,HF.out,rfl⟩
      ·have hb': ¬(4294967296:Int)≤(rn:Int) + (a:Int):=by omega
       go_wp2_with fail
       go_round
       case rel=>exact⟨qn - 1,rn+a,by go_num,by go_num,HD.out.2.2,HD.out.2.1,by omega⟩
       case measure=>simp [intOf];omega
     ·have hR:qn*c≤18446744073709551615:=by
       have h1:qn*c≤4294967295*c:=Nat.mul_le_mul_right _ (by omega);omega
      have e12: (qn:Int) * (c:Int) = ((qn*c:Nat) :Int):=by push_cast;rfl
      have hqd:decide ((4294967296:Int)≤(qn:Int)) =false:=by simp;omega
      have hqn:qn≤4294967295:=by omega
      clear hq;obtain⟨R,hRe⟩ : ∃R,R=qn*c:=⟨_,rfl⟩;rw [←hRe] at e12 hR;by_cases ht:4294967296*rn+x0<R
      ·have HD:=LH (HG.out.down xx0 rY (.inr (by rw [←hRe];exact ht)))
       have g3:=HD.out.1;have ht':decide ((4294967296:Int) * (rn:Int) + (x0:Int) < (R:Int)) =true:=by simp;omega
       clear ht;clear hRe;by_cases hb:4294967296≤rn+a
       ·have HF:=LH (Nat.le_antisymm (guess_break (d:=x0) c2 rY HD.out.2.2 hb) HD.out.2.1)
        have hb': (4294967296:Int)≤(rn:Int) + (a:Int):=by omega
        go_wp2_with fail
        go_meet
        exact⟨qn - 1,rn+a,by go_num,by go_num,HF.out,rfl⟩
       ·have hb': ¬(4294967296:Int)≤(rn:Int) + (a:Int):=by omega
        go_wp2_with fail
        go_round
        case rel=>exact⟨qn - 1,rn+a,by go_num,by go_num,HD.out.2.2,HD.out.2.1,by omega⟩
        case measure=>simp [intOf];omega
      ·have HF:=LH (HG.out.fin (by omega) (by rw [←hRe];omega))
       have ht':decide ((4294967296:Int) * (rn:Int) + (x0:Int) < (R:Int)) =false:=by simp;omega
       clear ht;clear hRe;go_wp2_with fail
       go_meet
       exact⟨qn,rn,rfl,rfl,HF.out,rfl⟩
   case rest=>
    obtain⟨qm,rm,rfl,rfl,hq,rfl⟩:=hcut;have HQ2:=LH hq;have hqd:=quot_digit xx0 rY;rw [←hq] at hqd;have hqd2:qm≤4294967295:=by omega
    obtain⟨z,hz⟩ : ∃z,z= (r*4294967296+x0) % (a*4294967296+c):=⟨_,rfl⟩;have e21:=left_over (by omega) (by omega) hq hz;have zY:z<a*4294967296+c:=by rw [hz];exact Nat.mod_lt _ (by omega)
    have HZ:=LH hz;clear hq hqd hz f8 f9 f11 e20;go_wp2_with fail
    go_ret2
    have h1:=HE.out;rw [←HQ.out,←HR.out,←HQ2.out,←HZ.out] at h1;refine⟨?_,bE⟩;rw [h1.1,h1.2];simp
def upV (a b c:Nat) :Nat:=a*b / c+if a*b % c=0 then 0 else 1
theorem part_le {a b c:Nat} (hac:a≤c) (hc:1≤c) :a*b / c≤b:=by
 have h1:a*b≤b*c:=by rw [Nat.mul_comm b];exact Nat.mul_le_mul_right _ hac
 exact(Nat.div_le_iff_le_mul_add_pred (by omega)).2 (by rw [Nat.mul_comm c];omega)
theorem part_lt {a b c:Nat} (hac:a≤c) (hc:1≤c) (h:a*b % c≠0) :a*b / c<b:=by
 refine Nat.lt_of_le_of_ne (part_le hac hc) fun e=>h ?_;have h1:a*b≤c*b:=Nat.mul_le_mul_right _ hac;have h2:=Nat.div_mul_le_self (a*b) c;rw [e,Nat.mul_comm b] at h2;rw [Nat.le_antisymm h1 h2];exact Nat.mul_mod_right _ _
theorem up_le {a b c:Nat} (hac:a≤c) (hc:1≤c) :upV a b c≤b:=by
 unfold upV
 split
 ·exact part_le hac hc
 ·rename_i h;exact part_lt hac hc h
theorem reckon_share (w:World) (a b c:Nat) (hb:b≤9223372036854775807) (hc:1≤c) (hc2:c≤9223372036854775807) (hac:a≤c) :
 Calls Tryz.prog 174 #[.int .i64 a,.int .i64 b,.int .i64 c] w fun e w'=>e=.returned (.tuple #[.int .u64 (a*b / c:Nat),.int .u64 (a*b % c:Nat),.bool true])∧Below w.heap.size w w':=by
 have ha:a≤9223372036854775807:=by omega
 have HC:=LH (show decide (0≤(a:Int)∧0≤(b:Int)) =true by simp);have HM:Hid (∀W,Calls Tryz.prog 225 #[.int .u64 a,.int .u64 b] W fun e w'=>e=.returned (.tuple #[.int .u64 (a*b / 18446744073709551616:Nat),.int .u64 (a*b % 18446744073709551616:Nat)])∧w'=W):=LH fun W=>Tryz.bits_Mul64 a b (by omega) (by omega) W;have h1:a*b≤c*9223372036854775807:=Nat.mul_le_mul hac hb;have hhi:a*b / 18446744073709551616<c:=by omega
 have hlo:a*b % 18446744073709551616≤18446744073709551615:=by omega
 have hD:=LH (fun w=>bits_Div64 w (a*b / 18446744073709551616) (a*b % 18446744073709551616) c (by omega) hhi (by omega));rw [Nat.div_add_mod'] at hD;have hr0:a*b % c≤c:=by have:=Nat.mod_lt (a*b) (show c>0 by omega);omega
 have hql:=part_le (b:=b) hac hc;clear h1;generalize a*b / 18446744073709551616=hi at HM hhi hD;generalize a*b % 18446744073709551616=lo at HM hlo hD;generalize a*b / c=q at hD hql⊢;generalize a*b % c=r at hD hr0⊢;have hhi':decide ((c:Int)≤(hi:Int)) =false:=by simp;omega
 go_enter Tryz.func174,Tryz.ntmps174
 go_wp2_with fail;refine(reckon_counts _ a b).mono ?_;rintro e w1 ⟨rfl,hb1⟩;have B1:Below w.heap.size w w1:=Below.then_ bE hb1;have s1:=B1.size;rw [HC.out];go_wp2_with fail;refine(HM.out _).mono ?_;rintro e w2 ⟨rfl,rfl⟩;go_wp2_with fail;refine(hD.out _).mono ?_;rintro e w3 ⟨rfl,hb3⟩;have B3:Below w.heap.size w w3:=Below.then_ bE hb3;have s3:=B3.size;go_wp2_with fail
 go_ret3
 exact⟨rfl,bE⟩
theorem reckon_Part (w:World) (a b c:Nat) (hb:b≤9223372036854775807) (hc:1≤c) (hc2:c≤9223372036854775807) (hac:a≤c) :
 Calls Tryz.prog 132 #[.int .i64 a,.int .i64 b,.int .i64 c] w fun e w'=>e=.returned (.tuple #[.int .i64 (a*b / c:Nat),.bool true])∧Below w.heap.size w w':=by
 have HS:=LH (reckon_share · a b c hb hc hc2 hac);have hql:=part_le (b:=b) hac hc;generalize a*b / c=q at HS hql⊢;generalize a*b % c=r at HS
 go_enter Tryz.func132,Tryz.ntmps132
 go_wp2_with fail;refine(HS.out _).mono ?_;rintro e w1 ⟨rfl,hb1⟩;have B1:Below w.heap.size w w1:=Below.then_ bE hb1;have s1:=B1.size;go_wp2_with fail;refine(reckon_count _ q (by omega)).mono ?_;rintro e w2 ⟨rfl,hb2⟩;have B2:Below w.heap.size w w2:=Below.then_ bE hb2;have s2:=B2.size;go_wp2_with fail
 go_ret2
 exact⟨rfl,B2⟩
theorem reckon_PartUp (w:World) (a b c:Nat) (hb:b≤9223372036854775807) (hc:1≤c) (hc2:c≤9223372036854775807) (hac:a≤c) :
 Calls Tryz.prog 124 #[.int .i64 a,.int .i64 b,.int .i64 c] w fun e w'=>e=.returned (.tuple #[.int .i64 (upV a b c:Nat),.bool true])∧Below w.heap.size w w':=by
 have HS:=LH (reckon_share · a b c hb hc hc2 hac);have hql:=part_le (b:=b) hac hc;have hqr:a*b % c≠0→a*b / c<b:=fun h=>part_lt hac hc h;have hr0:a*b % c≤c:=by have:=Nat.mod_lt (a*b) (show c>0 by omega);omega
 unfold upV;generalize a*b / c=q at HS hql hqr⊢;generalize a*b % c=r at HS hqr hr0⊢;by_cases h:r=0
 ·subst h
  rw [if_pos rfl]
  go_enter Tryz.func124,Tryz.ntmps124
  go_wp2_with fail;refine(HS.out _).mono ?_;rintro e w1 ⟨rfl,hb1⟩;have B1:Below w.heap.size w w1:=Below.then_ bE hb1;have s1:=B1.size;go_wp2_with fail;refine(reckon_count _ q (by omega)).mono ?_;rintro e w2 ⟨rfl,hb2⟩;have B2:Below w.heap.size w w2:=Below.then_ bE hb2;have s2:=B2.size;go_wp2_with fail
  go_ret2
  exact⟨rfl,B2⟩
 ·rw [if_neg h]
  have hq2:=hqr h;have h0: (0:Int) < (r:Int):=by omega
  clear hqr h;have HK:=LH (reckon_count · (q+1) (by omega))
  push_cast at HK⊢
  go_enter Tryz.func124,Tryz.ntmps124
  go_wp2_with fail;refine(HS.out _).mono ?_;rintro e w1 ⟨rfl,hb1⟩;have B1:Below w.heap.size w w1:=Below.then_ bE hb1;have s1:=B1.size;go_wp2_with fail;refine(HK.out _).mono ?_;rintro e w2 ⟨rfl,hb2⟩;have B2:Below w.heap.size w w2:=Below.then_ bE hb2;have s2:=B2.size;go_wp2_with fail
  go_ret2
  exact⟨rfl,B2⟩
def inLow (a b lo hi:Int) :Bool:=decide (a≤lo) && decide (hi≤b)
def inHigh (a b lo hi:Int) :Bool:=decide (lo≤b) && decide (a≤hi)
def betwLow (l:Int) (r:List Nd) (a b:Int) :Int:=weighR l (inLow a b) r
def betwHigh (l:Int) (r:List Nd) (a b:Int) :Int:=weighR l (inHigh a b) r
def bothAt (w:World) (b:Nat) (lo hi:Int) :Prop:=w.heap[b]? =some (.cells #[.int .i64 lo,.int .i64 hi] 47 (0,0))
theorem bothAt.below {w w':World} {b:Nat} {lo hi:Int} (h:bothAt w b lo hi) (hb:Below w.heap.size w w') :bothAt w' b lo hi:=bB h hb
theorem bothAt.set0 {w:World} {b:Nat} {lo hi:Int} (h:bothAt w b lo hi) (x:Int) :bothAt (w.setCell ⟨b,0,none⟩ (.int .i64 x)) b x hi:=zH (i:=0) h _
theorem bothAt.set1 {w:World} {b:Nat} {lo hi:Int} (h:bothAt w b lo hi) (x:Int) :bothAt (w.setCell ⟨b,1,none⟩ (.int .i64 x)) b lo x:=zH (i:=1) h _
theorem bothAt.new (w:World) (lo hi:Int) :bothAt (w.alloc (.cells #[.int .i64 lo,.int .i64 hi] 47)) w.heap.size lo hi:=heap_alloc_new _ _
def covR (L:List (Int×Int)) (v:Int) :Prop:=∃r∈L,r.1≤v∧v≤r.2
structure Apart (L:List (Int×Int)) :Prop where
 sep:L.Pairwise fun a b=>a.2+1<b.1
 run: ∀r∈L,r.1≤r.2
def ov (r:Int×Int) (lo hi:Int) :Int:=max 0 (min r.2 hi - max r.1 lo+1)
def cntR (lo hi:Int) :List (Int×Int)→Int
 | []=>0
 |r :: L=>ov r lo hi+cntR lo hi L
structure WithS where
 ahead:List (Int×Int)
 x:Int×Int
 behind:List (Int×Int)
def withStep (s:WithS) (r:Int×Int) :WithS:=
 if r.2+1<s.x.1 then {s with ahead:=s.ahead ++ [r]}
 else if s.x.2+1<r.1 then {s with behind:=s.behind ++ [r]}
 else {s with x:=(if r.1<s.x.1 then r.1 else s.x.1,if s.x.2<r.2 then r.2 else s.x.2)}
def withF (L:List (Int×Int)) (x:Int×Int) :WithS:=L.foldl withStep ⟨[],x, []⟩
def withL (L:List (Int×Int)) (x:Int×Int) :List (Int×Int):=(withF L x).ahead ++ [(withF L x).x] ++ (withF L x).behind
structure WInv (pre:List (Int×Int)) (x:Int×Int) (s:WithS) :Prop where
 run:s.x.1≤s.x.2
 a: ∀r∈s.ahead,r∈pre∧r.2+1<s.x.1
 b: ∀r∈s.behind,r∈pre∧s.x.2+1<r.1
 asep:s.ahead.Pairwise fun a b=>a.2+1<b.1
 bsep:s.behind.Pairwise fun a b=>a.2+1<b.1
 cov: ∀v,(covR s.ahead v∨(s.x.1≤v∧v≤s.x.2)∨covR s.behind v)↔(covR pre v∨(x.1≤v∧v≤x.2))
def runsF (l:Nat) (ids:List Int) :List (Int×Int):=ids.foldl (fun o x=>withL o (loN l x,hiN l x)) []
def chainT (l:Nat) (b:Int) :Int→List Int→Prop
 |a, []=>a=b+1
 |a,t :: L=>isNode l t=true∧loN l t=a∧hiN l t≤b∧chainT l b (hiN l t+1) L
def ends2 (l:Nat) (t:Int) :Int×Int:=(loN l t,hiN l t)
def heldC (l:Nat) (ids:List Int) (x:Int) :Int:=cntR (loN l x) (hiN l x) (runsF l ids)
def allT (T:List Int) (x:Int) :Bool:=T.any fun t=>abv t x
def someT (T:List Int) (x:Int) :Bool:=T.any fun t=>abv t x || abv x t
def onT (T:List Int) (r:List Nd) :Int×Int:=(wIds (allT T) r,wIds (someT T) r)
def refOn (l:Nat) (ids:List Int) (off:Bool) (r:List Nd) :Int×Int:=
 (wIds (fun x=>decide ((if off=true then hiN l x - loN l x+1 - heldC l ids x else heldC l ids x) =hiN l x - loN l x+1)) r,wIds (fun x=>decide (0< (if off=true then hiN l x - loN l x+1 - heldC l ids x else heldC l ids x))) r)
def around (y:Int) (lo hi:Int) :Bool:=decide (lo≤y) && decide (y<hi)
def rankQ (l:Int) (q:List Nd) (y:Int) :Int:=lowOf l q y
def sideV (n m:Int) (pl ph ql qh:Int) :Int:=if qh*n<pl*m then 1 else if ph*m<ql*n then -1 else 0
def sideOf (l:Int) (a b:List Nd) (x:Int) :Int:=sideV (sumR a) (sumR b) (lowOf l a x) (highOf l a x) (lowOf l b x) (highOf l b x)
def apStep (f:Int→Int) (a:Int×Int) (x:Int) :Int×Int:=if f x≠0∧(a.2=0∨x<a.1) then (x,f x) else a
def apFold (f:Int→Int) (l:List Int) :Int×Int:=l.foldl (apStep f) (0,0)
def apIs (f:Int→Int) (l:List Int) (r:Int×Int) :Prop:=((∀x∈l,f x=0)∧r= (0,0))∨(r.1∈l∧r.2=f r.1∧r.2≠0∧∀x∈l,f x≠0→r.1≤x)
def downV (n d x:Int) :Int:=(x.toNat*d.toNat / n.toNat:Nat)
def upP (n d x:Int) :Int:=(upV x.toNat d.toNat n.toNat:Nat)
def gapStep (l d:Int) (a b:List Nd) (o:Int×Int) (x:Int) :Int×Int:=
 (max (max o.1 (downV (sumR a) d (lowOf l a x) - upP (sumR b) d (highOf l b x))) (downV (sumR b) d (lowOf l b x) - upP (sumR a) d (highOf l a x)),
  max (max o.2 (upP (sumR a) d (highOf l a x) - downV (sumR b) d (lowOf l b x))) (upP (sumR b) d (highOf l b x) - downV (sumR a) d (lowOf l a x)))
def gapFold (l d:Int) (a b:List Nd) (e:List Int) :Int×Int:=e.foldl (gapStep l d a b) (0,0)
theorem gapFold_snoc (l d:Int) (a b:List Nd) (e:List Int) (x:Int) :gapFold l d a b (e ++ [x]) =gapStep l d a b (gapFold l d a b e) x:=by
 unfold gapFold;rw [List.foldl_append];rfl
theorem gapFold_le (l d:Int) (a b:List Nd) (e:List Int) (z y:Int) : ((gapFold l d a b e).1≤z↔0≤z∧∀x∈e,(gapStep l d a b (0,0) x).1≤z)∧((gapFold l d a b e).2≤y↔0≤y∧∀x∈e,(gapStep l d a b (0,0) x).2≤y):=by
 suffices h: ∀(e:List Int) (o:Int×Int),0≤o.1→0≤o.2→(((e.foldl (gapStep l d a b) o).1≤z↔o.1≤z∧∀x∈e,(gapStep l d a b (0,0) x).1≤z)∧((e.foldl (gapStep l d a b) o).2≤y↔o.2≤y∧∀x∈e,(gapStep l d a b (0,0) x).2≤y)) from h e (0,0) (Int.le_refl _) (Int.le_refl _)
 intro e
 induction e with
 |nil=>intro o h1 h2;simp
 |cons x e ih=>
  intro o h1 h2;rw [List.foldl_cons];obtain⟨i1,i2⟩:=ih (gapStep l d a b o x) (by simp only [gapStep];omega) (by simp only [gapStep];omega)
  constructor
  ·rw [i1]
   simp only [List.mem_cons,forall_eq_or_imp];have: ((gapStep l d a b o x).1≤z)↔o.1≤z∧(gapStep l d a b (0,0) x).1≤z:=by simp only [gapStep];omega
   rw [this,and_assoc]
  ·rw [i2]
   simp only [List.mem_cons,forall_eq_or_imp];have: ((gapStep l d a b o x).2≤y)↔o.2≤y∧(gapStep l d a b (0,0) x).2≤y:=by simp only [gapStep];omega
   rw [this,and_assoc]
theorem gapFold_set {l d:Int} {a b:List Nd} {e f:List Int} (h: ∀x,x∈e↔x∈f) :gapFold l d a b e=gapFold l d a b f:=by
 have h1:=gapFold_le l d a b e;have h2:=gapFold_le l d a b f;have k: ∀p:Int→Prop,(∀x∈e,p x)↔(∀x∈f,p x):=fun p=>⟨fun q x hx=>q x ((h x).2 hx),fun q x hx=>q x ((h x).1 hx)⟩;have e1: ∀z,(gapFold l d a b e).1≤z↔(gapFold l d a b f).1≤z:=fun z=>by rw [(h1 z 0).1,(h2 z 0).1,k]
 have e2: ∀z,(gapFold l d a b e).2≤z↔(gapFold l d a b f).2≤z:=fun z=>by rw [(h1 0 z).2,(h2 0 z).2,k]
 refine Prod.ext ?_ ?_
 ·have:=(e1 _).1 (Int.le_refl _);have:=(e1 _).2 (Int.le_refl _);omega
 ·have:=(e2 _).1 (Int.le_refl _);have:=(e2 _).2 (Int.le_refl _);omega
end Go.Proofs.YtlgnakobjkhmhaaGreatDoor
