/-
  Texts of this proof, one behind the other: Digest, Rank, Ref02, RefLoad, Open, Load16, RankPlain, TilesLaw, FitsP, Flow, TellsA, Digits, Times, Quot, DivLaw, Div64, Part, Reach.
-/
import Derived.Deep.CutBlock
import Derived.Deep.DeepCutAuto
import Derived.Test.YtmdidmclfbfmiaaGreatDoorR1
import Derived.Test.YtmdidmclfbfmiaaGreatDoorR2
set_option linter.unusedVariables false
set_option linter.unusedSimpArgs false
set_option maxRecDepth 100000
set_option maxHeartbeats 16000000
namespace Go.Proofs.YtmdidmclfbfmiaaGreatDoor
open Go.ChangeShapes Go.WideShapes Go.ChangeAt Go.RowKit
@[go_sem] theorem run_field_conf0 (w:World) (a b c:Int) : (Instr.field 24 (.agg #[.int .i64 a,.int .i64 b,.int .i64 c]) 0).run Tryz.prog w=.ok (.int .i64 a) w:=by kernel_rfl
@[go_sem] theorem run_field_conf1 (w:World) (a b c:Int) : (Instr.field 24 (.agg #[.int .i64 a,.int .i64 b,.int .i64 c]) 1).run Tryz.prog w=.ok (.int .i64 b) w:=by kernel_rfl
def isDig (l k K:Int) :Bool:=isPool K l && decide (1≤k∧k≤1048576)
def DigAt (w:World) (g K l:Nat) (k:Int) (r:List Nd) (F:Nat→Prop) :Prop:=
 1≤k∧k≤1048576∧∃p F0,F=footP g F0∧w.heap[g]? =some (.cells #[.int .i64 k,.pointer (some ⟨p,0,none⟩)] 121 (0,0))∧PoolAt w p K l r F0
theorem DigAt.keep {w w':World} {g K l:Nat} {k:Int} {r:List Nd} {F:Nat→Prop} (h:DigAt w g K l k r F) (hk: ∀b,F b→w'.heap[b]? =w.heap[b]?) :DigAt w' g K l k r F:=by
 obtain⟨h1,h2,p,F0,rfl,h3,h4⟩:=h;exact⟨h1,h2,p,F0,rfl,(hk g (.inl rfl)).trans h3,h4.keep fun q hq=>hk q (.inr hq)⟩
theorem DigAt.lt {w:World} {g K l:Nat} {k:Int} {r:List Nd} {F:Nat→Prop} (h:DigAt w g K l k r F) : ∀b,F b→b<w.heap.size:=by
 obtain⟨h1,h2,p,F0,rfl,h3,h4⟩:=h;rintro q (rfl|hq)
 ·exact lB h3
 ·exact h4.lt q hq
theorem DigAt.below {w w':World} {g K l:Nat} {k:Int} {r:List Nd} {F:Nat→Prop} (h:DigAt w g K l k r F) (hb:Below w.heap.size w w') :DigAt w' g K l k r F:=h.keep fun b hf=>hb.block b (h.lt b hf)
theorem DigAt.fits {w:World} {g K l:Nat} {k:Int} {r:List Nd} {F:Nat→Prop} (h:DigAt w g K l k r F) :Fits l r:=by
 obtain⟨h1,h2,p,F0,rfl,h3,h4⟩:=h;exact h4.fits
theorem DigAt.l_le {w:World} {g K l:Nat} {k:Int} {r:List Nd} {F:Nat→Prop} (h:DigAt w g K l k r F) :1≤l∧l≤48:=by
 obtain⟨h1,h2,p,F0,rfl,h3,h4⟩:=h;exact⟨h4.1,h4.2.1⟩
theorem pool_Kind (w:World) (g K l:Nat) (r:List Nd) (F:Nat→Prop) (h:PoolAt w g K l r F) :Calls Tryz.prog 123 #[.pointer (some ⟨g,0,none⟩)] w fun e w'=>e=.returned (.int .i64 K)∧Below w.heap.size w w':=by
 obtain⟨h1,h2,h3,p,F0,rfl,h4⟩:=h;rcases h4 with ⟨rfl,h16,hh,hd⟩ | ⟨rfl,hh,hd⟩
 ·have H:=LH hh
  clear hh hd
  go_enter Tryz.func123,Tryz.ntmps123
  go_wp2_with fail;refine(pool_isArray _ g p _ H.out).mono ?_;rintro e w1 ⟨rfl,hb1⟩;have B1:Below w.heap.size w w1:=Below.then_ bE hb1;have s1:=B1.size;go_wp2_with fail;go_ret;exact⟨rfl,bE⟩
 ·have H:=LH hh
  clear hh hd
  go_enter Tryz.func123,Tryz.ntmps123
  go_wp2_with fail;refine(pool_isArray_no _ g _ H.out).mono ?_;rintro e w1 ⟨rfl,hb1⟩;have B1:Below w.heap.size w w1:=Below.then_ bE hb1;have s1:=B1.size;go_wp2_with fail;go_ret;exact⟨rfl,bE⟩
theorem digest_New_no (w:World) (l k K:Int) (h:isDig l k K=false) :Calls Tryz.prog 148 #[.agg #[.int .i64 l,.int .i64 k,.int .i64 K]] w fun e w'=>e=.returned (.tuple #[.pointer none,.int .i64 2])∧Below w.heap.size w w':=by
 cases hp:isPool K l
 ·have HC:=LH (pool_New_no · K l hp)
  clear hp h
  go_enter Tryz.func148,Tryz.ntmps148
  go_wp2_with fail;refine(HC.out _).mono ?_;rintro e w1 ⟨rfl,hb1⟩;have B1:Below w.heap.size w w1:=Below.then_ bE hb1;have s1:=B1.size;have z1_0:w.heap.size<w1.heap.size:=by have:=hb1.size;(try simp at this);omega
  have y1_0:w.heap.size≤w1.heap.size:=Nat.le_of_lt z1_0;have c1_0:=czB hb1 (w.heap.size);have f1_0:=fzB hb1 (w.heap.size);go_wp2_with fail
  go_ret2
  exact⟨rfl,bE⟩
 ·have hk: ¬(1≤k∧k≤1048576):=by simpa [isDig,hp] using h
  have hp':=hp;simp only [isPool,decide_eq_true_eq] at hp';obtain⟨n,rfl⟩:=Int.eq_ofNat_of_zero_le (show 0≤l by omega);obtain⟨m,rfl⟩:=Int.eq_ofNat_of_zero_le (show 0≤K by omega);have HC:=LH (pool_New · m n hp);clear hp h hp';by_cases hk1:k<1
  ·clear hk
   go_enter Tryz.func148,Tryz.ntmps148
   go_wp2_with fail;refine(HC.out _).mono ?_;rintro e w1 ⟨g,F,rfl,_,_,hb1⟩;have B1:Below w.heap.size w w1:=Below.then_ bE hb1;have s1:=B1.size;have z1_0:w.heap.size<w1.heap.size:=by have:=hb1.size;(try simp at this);omega
   have y1_0:w.heap.size≤w1.heap.size:=Nat.le_of_lt z1_0;have c1_0:=czB hb1 (w.heap.size);have f1_0:=fzB hb1 (w.heap.size);go_wp2_with fail
   go_ret2
   exact⟨rfl,bE⟩
  ·have hk2:1048576<k:=by omega
   clear hk
   go_enter Tryz.func148,Tryz.ntmps148
   go_wp2_with fail;refine(HC.out _).mono ?_;rintro e w1 ⟨g,F,rfl,_,_,hb1⟩;have B1:Below w.heap.size w w1:=Below.then_ bE hb1;have s1:=B1.size;have z1_0:w.heap.size<w1.heap.size:=by have:=hb1.size;(try simp at this);omega
   have y1_0:w.heap.size≤w1.heap.size:=Nat.le_of_lt z1_0;have c1_0:=czB hb1 (w.heap.size);have f1_0:=fzB hb1 (w.heap.size);go_wp2_with fail
   go_ret2
   exact⟨rfl,bE⟩
def DigPost (K l:Nat) (k:Int) (r:List Nd) (w:World) (e:Ending) (w':World) :Prop:=∃g F,e=.returned (.tuple #[.pointer (some ⟨g,0,none⟩),.int .i64 0])∧DigAt w' g K l k r F∧(∀b,F b→w.heap.size≤b)∧Below w.heap.size w w'
theorem digest_New (w:World) (l K:Nat) (k:Int) (h:isDig l k K=true) :Calls Tryz.prog 148 #[.agg #[.int .i64 l,.int .i64 k,.int .i64 K]] w (DigPost K l k [] w):=by
 simp only [isDig,Bool.and_eq_true,decide_eq_true_eq] at h;obtain⟨hp,hk1,hk2⟩:=h;have HC:=LH (pool_New · K l hp);clear hp
 go_enter Tryz.func148,Tryz.ntmps148
 go_wp2_with fail;refine(HC.out _).mono ?_;rintro e w1 ⟨g,F,rfl,hP,hF,hb1⟩;have B1:Below w.heap.size w w1:=Below.then_ bE hb1;have s1:=B1.size;have z1_0:w.heap.size<w1.heap.size:=by have:=hb1.size;(try simp at this);omega
 have y1_0:w.heap.size≤w1.heap.size:=Nat.le_of_lt z1_0;have c1_0:=czB hb1 (w.heap.size);have f1_0:=fzB hb1 (w.heap.size);have HP:=LH hP;simp only [World.size_alloc] at hF;have HF:=LH hF;clear hP hF;go_wp2_with fail
 go_ret2
 refine⟨w1.heap.size,footP w1.heap.size F,rfl,⟨hk1,hk2,g,F,rfl,heap_new_at w1 _ _ rfl,HP.out.below ((Below.refl _ _).alloc (Nat.le_refl _) _)⟩,?_,bE⟩;rintro b (rfl|hb)
 ·exact s1
 ·have:=HF.out b hb;omega
def loadErr (l k K:Int) (r:List Nd) :Int:=if isDig l k K=false then 2 else if rightOf l r=false then 10 else if 8*k<r.length then 13 else if lightOf l r k=false then 13 else 0
theorem digest_Load (w:World) (l K:Nat) (k:Int) (A:Option Addr) (cap:Nat) (r:List Nd) (h:loadErr l k K r=0) (hS:Sl w w.heap.size encN A r) (hI:ints r) (hn:r.length<67108864) :
 Calls Tryz.prog 224 #[.agg #[.int .i64 l,.int .i64 k,.int .i64 K],.slice A r.length cap] w (DigPost K l k r w):=by
 have hd:isDig l k K=true:=by
  cases hd:isDig l k K
  ·simp only [loadErr] at h;rw [if_pos hd] at h;cases h
  ·rfl
 have hr:rightOf l r=true:=by
  cases hr:rightOf l r
  ·simp only [loadErr] at h;rw [if_neg (by simp [hd]),if_pos hr] at h;cases h
  ·rfl
 have h8: ¬8*k<r.length:=by
  intro h8;simp only [loadErr] at h;rw [if_neg (by simp [hd]),if_neg (by simp [hr]),if_pos h8] at h
  cases h
 have hl:lightOf l r k=true:=by
  cases hl:lightOf l r k
  ·simp only [loadErr] at h;rw [if_neg (by simp [hd]),if_neg (by simp [hr]),if_neg h8,if_pos hl] at h;cases h
  ·rfl
 have HC:=LH (digest_New · l K k hd);have HR:=LH (roll_Right · l A cap r · hI (by unfold maxLen;omega));have HS:=LH hS;have hpl:isPool K l=true:=by simp only [isDig,Bool.and_eq_true] at hd;exact hd.1
 have HL:=LH (pool_Load · K l A cap r hpl hr · hI hn);simp only [isDig,Bool.and_eq_true,decide_eq_true_eq] at hd;obtain⟨_,hk1,hk2⟩:=hd;rw [hr] at HR;have HLF:=LH hl;clear h hS hr hI hpl hl
 go_enter Tryz.func224,Tryz.ntmps224
 go_wp2_with fail;refine(HC.out _).mono ?_;rintro e w1 ⟨g,F,rfl,_,_,hb1⟩;have B1:Below w.heap.size w w1:=Below.then_ bE hb1;have s1:=B1.size;have z1_0:w.heap.size<w1.heap.size:=by have:=hb1.size;(try simp at this);omega
 have y1_0:w.heap.size≤w1.heap.size:=Nat.le_of_lt z1_0;have c1_0:=czB hb1 (w.heap.size);have f1_0:=fzB hb1 (w.heap.size);go_wp2_with fail;refine(HR.out _ (HS.out.keep s1 fun p hp=>B1.cell hp)).mono ?_;rintro e w2 ⟨rfl,hb2⟩;have B2:Below w.heap.size w w2:=Below.then_ bE hb2;have s2:=B2.size;have z2_0:w.heap.size<w2.heap.size:=by have:=hb2.size;(try simp at this);omega
 have y2_0:w.heap.size≤w2.heap.size:=Nat.le_of_lt z2_0;have c2_0:=czB hb2 (w.heap.size);have f2_0:=fzB hb2 (w.heap.size);go_wp2_with fail;refine(HL.out _ (HS.out.keep s2 fun p hp=>B2.cell hp)).mono ?_;rintro e w3 ⟨gp,Fp,rfl,hP,hF,hb3⟩;have B3:Below w.heap.size w w3:=Below.then_ bE hb3;have s3:=B3.size;have z3_0:w.heap.size<w3.heap.size:=by have:=hb3.size;(try simp at this);omega
 have y3_0:w.heap.size≤w3.heap.size:=Nat.le_of_lt z3_0;have c3_0:=czB hb3 (w.heap.size);have f3_0:=fzB hb3 (w.heap.size);have KP:=LH hP;have KF:=LH hF;clear hP hF;go_wp2_with fail;refine(press_Light _ gp K l r Fp k KP.out hk1 hk2 (by omega)).mono ?_;rintro e w4 ⟨rfl,hb4⟩;have B4:Below w.heap.size w w4:=Below.then_ bE hb4;have s4:=B4.size;have z4_0:w.heap.size<w4.heap.size:=by have:=hb4.size;(try simp at this);omega
 have y4_0:w.heap.size≤w4.heap.size:=Nat.le_of_lt z4_0;have c4_0:=czB hb4 (w.heap.size);have f4_0:=fzB hb4 (w.heap.size);rw [HLF.out];have KP4:=LH (KP.out.below hb4);clear KP;go_wp2_with fail
 go_ret2
 refine⟨w4.heap.size,footP w4.heap.size Fp,rfl,⟨hk1,hk2,gp,Fp,rfl,heap_new_at w4 _ _ rfl,KP4.out.below ((Below.refl _ _).alloc (Nat.le_refl _) _)⟩,?_,bE⟩;rintro b (rfl|hb)
 ·exact s4
 ·have:=KF.out b hb;omega
theorem digest_N (w:World) (g K l:Nat) (k:Int) (r:List Nd) (F:Nat→Prop) (h:DigAt w g K l k r F) :Calls Tryz.prog 32 #[.pointer (some ⟨g,0,none⟩)] w fun e w'=>e=.returned (.int .i64 (sumR r))∧Below w.heap.size w w':=by
 obtain⟨h1,h2,p,F0,rfl,hh,hP⟩:=h;have c:=bC hh;have z:=lB hh;have HP:=LH hP;clear hh hP
 go_enter Tryz.func32,Tryz.ntmps32
 go_wp2_with fail;refine(pool_Total _ p K l r F0 HP.out).mono ?_;rintro e w1 ⟨rfl,hb1⟩;have B1:Below w.heap.size w w1:=Below.then_ bE hb1;have s1:=B1.size;go_wp2_with fail;go_ret;exact⟨rfl,bE⟩
theorem digest_Nodes (w:World) (g K l:Nat) (k:Int) (r:List Nd) (F:Nat→Prop) (h:DigAt w g K l k r F) (hn:r.length≤67108864) :Calls Tryz.prog 89 #[.pointer (some ⟨g,0,none⟩)] w (OwnPost 216 encN r w):=by
 obtain⟨h1,h2,p,F0,rfl,hh,hP⟩:=h;have c:=bC hh;have z:=lB hh;have HP:=LH hP;clear hh hP
 go_enter Tryz.func89,Tryz.ntmps89
 go_wp2_with fail;refine(pool_Snap _ p K l r F0 HP.out hn).mono ?_;rintro e w1 ⟨v,rfl,ho,hb⟩;have HO:=LH ho;clear ho;go_wp2_with fail;go_ret;exact⟨_,rfl,HO.out,hb⟩
theorem digest_Conf (w:World) (g K l:Nat) (k:Int) (r:List Nd) (F:Nat→Prop) (h:DigAt w g K l k r F) :Calls Tryz.prog 59 #[.pointer (some ⟨g,0,none⟩)] w fun e w'=>e=.returned (.agg #[.int .i64 l,.int .i64 k,.int .i64 K])∧Below w.heap.size w w':=by
 obtain⟨h1,h2,p,F0,rfl,hh,hP⟩:=h;have c:=bC hh;have z:=lB hh;have hPA:=hP.below ((Below.refl w.heap.size w).alloc (Nat.le_refl _) (.cells #[.int .i64 0,.int .i64 0,.int .i64 0] 24));have HP:=LH hPA;clear hh hP hPA
 go_enter Tryz.func59,Tryz.ntmps59
 go_wp2_with fail;refine wp_region_tail 18 (by kernel_rfl) (by kernel_rfl) ?_;simp only [List.take_succ_cons,List.take_zero,List.drop_succ_cons,List.drop_zero]
 repeat (go_big_quiet_step (first| (go_at_call 122;exact quiet_ext (pool_L _ p K l r F0 (HP.out.below (ext_below _ _)))) | (go_at_call 123;exact quiet_ext (pool_Kind _ p K l r F0 (HP.out.below (ext_below _ _))))))
 refine wpQuiet_nil ?_;intro w1 hb1;replace hb1:=bX hb1;have B1:Below w.heap.size w w1:=Below.then_ bE hb1;have s1:=B1.size;have z1_0:w.heap.size<w1.heap.size:=by have:=hb1.size;(try simp at this);omega
 have y1_0:w.heap.size≤w1.heap.size:=Nat.le_of_lt z1_0;have c1_0:=czB hb1 (w.heap.size);have f1_0:=fzB hb1 (w.heap.size);go_wp2_with fail;exact bR (v:=.agg #[.int .i64 l,.int .i64 k,.int .i64 K]) (by simp only [results,Tryz.results59];go_simp) rfl ⟨rfl,bE⟩
def weighR (l:Int) (f:Int→Int→Bool) :List Nd→Int
 | []=>0
 |x :: r=>(if f (endsOf l x.1).1 (endsOf l x.1).2.1=true then x.2 else 0) +weighR l f r
def lowOf (l:Int) (r:List Nd) (y:Int) :Int:=weighR l (fun _ hi=>decide (hi≤y)) r
def highOf (l:Int) (r:List Nd) (y:Int) :Int:=weighR l (fun lo _=>decide (lo≤y)) r

def lastR (l:List Nd) (k:Nat) :Int:=if k=0 then 0 else (l[k - 1]?.getD (0,0)).1
def refDig (k l:Int) (A:Option Addr) (n cap:Nat) :Value:=.agg #[.int .i64 k,.int .i64 l,.slice A n cap]
def refLoadV (l k K:Int) (A:Option Addr) (r:List Nd) (cap:Nat) :Value:=if loadErr l k K r=0 then .tuple #[refDig k l A r.length cap,.int .i64 0] else .tuple #[refDig 0 0 none 0 0,.int .i64 (loadErr l k K r)]
theorem slice_of_trod {α:Type} [Inhabited α] {size:Nat} (E:Enc α size) (ok:α→Prop) {t e:TypeId} (ht: (Tryz.prog).underlying t=some (.slice e)) (hC: (Tryz.prog).cellsOf e=size) (hs:0<size)
 {H:Type} {enc:TypeId×Value→H} {w:World} {base:Nat} {spare:Nat→Bool} {held:Bool} {fuel:Nat} {cs:List Value} {x:DataW H×List MemPlace}
 (el: ∀(fuel:Nat) (cs:List Value) (x:DataW H×List MemPlace),DataW.trod enc Tryz.prog w base spare held fuel e cs=some x→∃o:α,cs=E.enc o∧ok o) (h:DataW.trod enc Tryz.prog w base spare held fuel t cs=some x) :
 ∃(l:List α) (A:Option Addr) (cap:Nat),cs= [.slice A l.length cap]∧Sl w w.heap.size E A l∧(∀o∈l,ok o)∧l.length≤maxLen:=by
 rcases Deep.open_slice ht h with ⟨hcs,_⟩ | ⟨a,len,cap,m,n,D,Pl,hcs,_,hl,hm,hmm,_,hx⟩
 ·exact⟨[],none,0,hcs,.nil,by simp,by simp⟩
 ·subst hcs
  have hle:len≤m:=by rw [hmm];split <;> omega
  have each: ∀i,i<len→∃o:α,ok o∧∀j u,(E.enc o)[j]? =some u→w.cell? (a.add (i*size+j)) =some u:=by
   intro i hi;obtain⟨cs',hc,ht'⟩:=hx i (by omega);rw [hC] at hc;obtain⟨o,rfl,hk⟩:=el _ _ _ ht';obtain⟨_,hcl,hat⟩:=World.cells?_some hc;refine⟨o,hk,fun j u hj=> ?_⟩;have hj6:j<size:=by have:=(List.getElem?_eq_some_iff.1 hj).1;rwa [E.len] at this
   rw [←Go.Deep.add_add,hat j hj6,hj]
  obtain⟨f,hF⟩:=Deep.choose_lt each;refine⟨(List.range len).map f,some a,cap,by simp,?_,?_,by simp;omega⟩
  ·by_cases h0:len=0
   ·subst h0;exact .inl rfl
   ·obtain⟨b,off,spot⟩:=a
    obtain⟨u0,hu0⟩ : ∃u,(E.enc (f 0))[0]? =some u:=⟨_,List.getElem?_eq_getElem (by rw [E.len];exact hs)⟩;have hc0:=(hF 0 (by omega)).2 0 _ hu0;have hspot:spot=none:=by simpa [Addr.add] using World.cell?_spot hc0
    subst hspot
    have hb:b<w.heap.size:=by
     simp only [add_plain,Nat.zero_mul,Nat.add_zero] at hc0;exact lt_of_cell hc0
    refine .inr ⟨b,off,rfl,hb,fun i x hi j u hj=> ?_⟩
    have hlt:i<len:=by
     have:=(List.getElem?_eq_some_iff.1 hi).1
     simpa using this
    simp [hlt] at hi
    subst hi;have:=(hF i hlt).2 j u hj;rw [add_plain,←Nat.add_assoc] at this;exact this
  ·intro o ho
   obtain⟨i,hi,rfl⟩:=List.mem_map.1 ho;exact(hF i (List.mem_range.1 hi)).1
theorem i64_of_wf {n:Int} (h: (Lit.int .i64 n).wf=true) :i64 n:=by
 simp only [Lit.wf,Bool.and_eq_true,decide_eq_true_eq] at h;have hmn:IntKind.i64.min= -9223372036854775808:=by decide
 have hmx:IntKind.i64.max=9223372036854775807:=by decide
 rw [hmn,hmx] at h;exact h
section
variable {H:Type} {enc:TypeId×Value→H} {w:World} {base:Nat} {spare:Nat→Bool} {held:Bool} {fuel:Nat} {cs:List Value} {x:DataW H×List MemPlace}
theorem conf_of_trod (h:DataW.trod enc Tryz.prog w base spare held fuel 24 cs=some x) : ∃l k K:Int,cs= [.int .i64 l,.int .i64 k,.int .i64 K]∧i64 l∧i64 k∧i64 K:=by
 obtain⟨xs,n,_,_,hlen,hxl,hf⟩:=DataW.trod_struct Tryz.underlying24 h;have hC: (Tryz.prog).cellsOf 24=3:=by kernel_rfl
 have hCi: (Tryz.prog).cellsOf 3=1:=by kernel_rfl
 rw [hC] at hlen
 match cs,hlen with
 | [c0,c1,c2],_=>
  match xs,hxl with
  | [y0,y1,y2],_=>
   have g0:DataW.trod enc Tryz.prog w base spare held n 3 (([c0,c1,c2].drop 0).take ((Tryz.prog).cellsOf 3)) =some y0:=hf 0 _ rfl;have g1:DataW.trod enc Tryz.prog w base spare held n 3 (([c0,c1,c2].drop 1).take ((Tryz.prog).cellsOf 3)) =some y1:=hf 1 _ rfl;have g2:DataW.trod enc Tryz.prog w base spare held n 3 (([c0,c1,c2].drop 2).take ((Tryz.prog).cellsOf 3)) =some y2:=hf 2 _ rfl;simp only [hCi] at g0 g1 g2;obtain⟨k,e0,_,k0⟩:=DataW.trod_int Tryz.underlying3 g0;obtain⟨i,e1,_,k1⟩:=DataW.trod_int Tryz.underlying3 g1;obtain⟨j,e2,_,k2⟩:=DataW.trod_int Tryz.underlying3 g2;simp at e0 e1 e2
   subst e0 e1 e2;exact⟨k,i,j,rfl,i64_of_wf k0,i64_of_wf k1,i64_of_wf k2⟩
end
def loadedV (l k K:Int) (A:Option Addr) (n cap:Nat) :Value:=.agg #[.int .i64 l,.int .i64 k,.int .i64 K,.slice A n cap]
theorem DigAt.drew {w:World} {g K l:Nat} {k:Int} {r:List Nd} {F:Nat→Prop} (h:DigAt w g K l k r F) :DigAt w.drew g K l k r F:=h.keep fun b hb=>rfl
def goodL (l k K:Int) (r:List Nd) :Prop:=r.length≤150∧¬(K=1∧10<l)∧loadErr l k K r=0
def LPost (K l:Nat) (k:Int) (r:List Nd) (d:Value) (w:World) (e:Ending) (w':World) :Prop:=∃g F,e=.returned (.tuple #[.pointer (some ⟨g,0,none⟩),d])∧DigAt w' g K l k r F∧(∀b,F b→w.heap.size≤b)∧Below w.heap.size w w'
def nodes16:List Nd:= [(1,1),(4,2),(7,3)]
theorem ends_bounds {l:Nat} {id:Int} (h:isNode l id=true) :0≤(endsOf l id).1∧(endsOf l id).1≤(endsOf l id).2.1∧(endsOf l id).2.1≤2^l - 1:=by
 obtain⟨n,x,hn,rfl,hn1,hn2,hx1,hx2⟩:=isNode_nat h;obtain rfl:n=l:=by omega
 obtain⟨d,b,t,hd,hb,hdb,hxt,htd,hprod⟩:=node_facts hn2 hx1 hx2
 have e1:endsOf n x= ((t:Int) *2^b,(t:Int) *2^b+2^b - 1,true):=by
  simp only [endsOf,h,if_true,Int.toNat_natCast,hd,hb];have: (x:Int) - 2^d=t:=by rw [hxt];push_cast;omega
  rw [this]
 rw [e1];have q3:=pow_pos' b
 have q8: (t:Int) *2^b+2^b≤2^n:=by
  have h: (((t+1) *2^b:Nat) :Int)≤((2^n:Nat) :Int):=by exact_mod_cast hprod
  push_cast at h
  rw [Int.add_mul,Int.one_mul] at h;exact h
 have q9:0≤(t:Int) *2^b:=Int.mul_nonneg (by omega) (by omega);simp only;omega
def loN (l:Nat) (x:Int) :Int:=(endsOf l x).1
def hiN (l:Nat) (x:Int) :Int:=(endsOf l x).2.1
def abv (p q:Int) :Bool:=decide (1≤p∧1≤q∧p.toNat.log2≤q.toNat.log2∧q.toNat / 2^ (q.toNat.log2 - p.toNat.log2) =p.toNat)
theorem node_shape {l:Nat} {id:Int} (h:isNode l id=true) : ∃d b t:Nat,d+b=l∧id= ((2^d+t:Nat) :Int)∧t<2^d∧(2^d+t).log2=d∧loN l id= (t:Int) *2^b∧hiN l id= (t:Int) *2^b+2^b - 1:=by
 obtain⟨n,x,hn,rfl,hn1,hn2,hx1,hx2⟩:=isNode_nat h;obtain rfl:n=l:=by omega
 obtain⟨d,b,t,hd,hb,hdb,hxt,htd,hprod⟩:=node_facts hn2 hx1 hx2
 have e1:endsOf n x= ((t:Int) *2^b,(t:Int) *2^b+2^b - 1,true):=by
  simp only [endsOf,h,if_true,Int.toNat_natCast,hd,hb];have: (x:Int) - 2^d=t:=by rw [hxt];push_cast;omega
  rw [this]
 exact⟨d,b,t,hdb,by rw [hxt],htd,by rw [←hxt];exact hd,by unfold loN;rw [e1],by unfold hiN;rw [e1]⟩
theorem log2_shape {d t:Nat} (h:t<2^d) : (2^d+t).log2=d:=by
 rw [Nat.log2_eq_iff (by have:=Nat.two_pow_pos d;omega)];rw [Nat.pow_succ];omega
theorem node_of_shape {l d b t:Nat} (hl:1≤l∧l≤48) (hdb:d+b=l) (ht:t<2^d) :isNode l ((2^d+t:Nat) :Int) =true:=by
 have h1:=Nat.two_pow_pos d;have h2: (2:Nat) ^d≤2^l:=Nat.pow_le_pow_right (by decide) (by omega);have h3: ((2^l:Nat) :Int) =2^l:=by simp
 simp only [isNode,decide_eq_true_eq,Int.toNat_natCast];omega
section
variable {l:Nat} {p q:Int}
theorem lo_hi (hp:isNode l p=true) :loN l p≤hiN l p:=(ends_bounds hp).2.1
theorem isNode_l (hp:isNode l p=true) :1≤l∧l≤48:=by
 simp only [isNode,decide_eq_true_eq] at hp;omega
theorem node_kids (hp:isNode l p=true) (hb:p.toNat.log2<l) :isNode l (2*p) =true∧isNode l (2*p+1) =true∧loN l (2*p) =loN l p∧hiN l (2*p+1) =hiN l p∧loN l (2*p+1) =hiN l (2*p) +1∧(2*p).toNat.log2=p.toNat.log2+1∧(2*p+1).toNat.log2=p.toNat.log2+1:=by
 have hl:=isNode_l hp;obtain⟨d,b,t,h1,rfl,h2,h3,h4,h5⟩:=node_shape hp;rw [Int.toNat_natCast,h3] at hb;obtain⟨c,rfl⟩ : ∃c,b=c+1:=⟨b - 1,by omega⟩;have e1:2* ((2^d+t:Nat) :Int) = ((2^ (d+1) +2*t:Nat) :Int):=by rw [Nat.pow_succ];push_cast;omega
 have e2:2* ((2^d+t:Nat) :Int) +1= ((2^ (d+1) + (2*t+1) :Nat) :Int):=by rw [Nat.pow_succ];push_cast;omega
 have q1:2*t<2^ (d+1):=by rw [Nat.pow_succ];omega
 have q2:2*t+1<2^ (d+1):=by rw [Nat.pow_succ];omega
 have n1:=node_of_shape (b:=c) hl (by omega) q1;have n2:=node_of_shape (b:=c) hl (by omega) q2;rw [e2,e1];refine⟨n1,n2,?_⟩;obtain⟨d',b',t',g1,g2,g3,g4,g5,g6⟩:=node_shape n1;obtain⟨d'',b'',t'',f1,f2,f3,f4,f5,f6⟩:=node_shape n2;have i1:=log2_shape q1;have i2:=log2_shape q2;have g2':=Int.ofNat.inj g2;have f2':=Int.ofNat.inj f2;rw [←g2',i1] at g4;rw [←f2',i2] at f4;subst g4 f4;obtain rfl:b'=c:=by omega
 obtain rfl:b''=b':=by omega
 obtain rfl:t'=2*t:=by omega
 obtain rfl:t''=2*t+1:=by omega
 rw [g5,g6,f5,f6,h4,h5,Int.toNat_natCast,Int.toNat_natCast,Int.toNat_natCast,h3,i1,i2,Int.pow_succ]
 push_cast
 refine⟨?_,?_,?_,rfl,rfl⟩
 ·rw [Int.mul_comm 2 (t:Int),Int.mul_assoc,Int.mul_comm 2]
 ·rw [Int.add_mul,Int.mul_comm 2 (t:Int),Int.mul_assoc,Int.mul_comm 2];omega
 ·rw [Int.add_mul];omega
end
def held (l:Nat) (ids:List Int) (v:Int) :Prop:=∃t∈ids,loN l t≤v∧v≤hiN l t
def sibN (t:Int) :Int:=if t % 2=0 then t+1 else t - 1
def climb:List Int→Int→List Int×Int
 | [],x=>([],x)
 |t :: ts,x=>if sibN t=x then climb ts (x / 2) else (t :: ts,x)
def joinStep (T:List Int) (x:Int) :List Int:=
 match T with
 | []=> [x]
 |t :: ts=>if abv t x=true then t :: ts else (climb (t :: ts) x).2 :: (climb (t :: ts) x).1
def joinF (s:List Int) :List Int:=s.foldl joinStep []
def leT (l:Nat) (a b:Int) :Prop:=loN l a<loN l b∨(loN l a=loN l b∧a≤b)
structure ClimbOf (l:Nat) (T:List Int) (x:Int) (T':List Int) (j:Int) :Prop where
 node:isNode l j=true
 suf:T' <:+ T
 left: ∀t∈T',hiN l t<loN l j
 hi:hiN l j=hiN l x
 lo:loN l j=loN l x∨∃t∈T,loN l j=loN l t
 lole:loN l j≤loN l x
 all: ∀t∈T,t∈T'∨abv j t=true
 in_: ∀v,loN l j≤v→v≤hiN l j→(loN l x≤v∧v≤hiN l x)∨∃t∈T,loN l t≤v∧v≤hiN l t
 stop: ∀t ts,T'=t :: ts→sibN t≠j
structure JInv (l:Nat) (pre T:List Int) :Prop where
 node: ∀t∈T,isNode l t=true
 sep:T.Pairwise (fun a b=>hiN l b<loN l a)
 low: ∀t∈T,∃q∈pre,loN l q=loN l t
 cov: ∀q∈pre,∃t∈T,abv t q=true
 sub: ∀t∈T,∀v,loN l t≤v→v≤hiN l t→held l pre v
 sib:T.Pairwise (fun a b=>sibN b≠a)
structure Tiles (l:Nat) (C:Int→Prop) (T:List Int) :Prop where
 node: ∀t∈T,isNode l t=true
 cov: ∀v,held l T v↔C v
 top: ∀x,isNode l x=true→(∀v,loN l x≤v→v≤hiN l x→C v)→∃t∈T,abv t x=true
def layT (l:Nat) (a b:Int) :Nat→Int→List Int
 |0,x=>if hiN l x<a∨b<loN l x then [] else [x]
 |h+1,x=>if hiN l x<a∨b<loN l x then [] else if a≤loN l x∧hiN l x≤b then [x] else layT l a b h (2*x) ++ layT l a b h (2*x+1)
def ofTiles (l:Nat) (a b:Int) :List Int:=layT l a b l 1
def restStep (l:Nat) (o:List Int×Int) (x:Int) :List Int×Int:=(if o.2<loN l x then o.1 ++ ofTiles l o.2 (loN l x - 1) else o.1,hiN l x+1)
def restF (l:Nat) (T:List Int) :List Int×Int:=T.foldl (restStep l) ([],0)
def restL (l:Nat) (T:List Int) :List Int:=if (restF l T).2≤2^l - 1 then (restF l T).1 ++ ofTiles l (restF l T).2 (2^l - 1) else (restF l T).1
structure RInv (l:Nat) (pre:List Int) (o:List Int×Int) :Prop where
 from0:0≤o.2∧o.2≤2^l
 last:0<o.2→held l pre (o.2 - 1)
 below: ∀t∈pre,hiN l t<o.2
 node: ∀t∈o.1,isNode l t=true
 cov: ∀v,held l o.1 v↔(0≤v∧v<o.2)∧¬held l pre v
 top: ∀x,isNode l x=true→hiN l x<o.2→(∀v,loN l x≤v→v≤hiN l x→¬held l pre v)→∃t∈o.1,abv t x=true
theorem Fits.nodes {l:Nat} {r:List Nd} (hf:Fits l r) (hl:1≤l∧l≤48) : ∀x∈r,isNode l x.1=true:=by
 intro x hx;have h1:=(hf.roll.2 x hx).1;have h2:=hf.lt x hx;simp only [isNode,decide_eq_true_eq,Int.toNat_natCast];omega
structure Tr where
 leaf:Int
 node:Int
 c:Int
def wTr (f:Tr→Bool) :List Tr→Int
 | []=>0
 |t :: T=>(if f t=true then t.c else 0) +wTr f T
def wIds (p:Int→Bool) :List Nd→Int
 | []=>0
 |x :: r=>(if p x.1=true then x.2 else 0) +wIds p r
theorem sumR_ids (r:List Nd) :sumR r=wIds (fun _=>true) r:=by
 induction r with
 |nil=>rfl
 |cons x r ih=>simp only [sumR,wIds,ih];simp
theorem wTr_nonneg {T:List Tr} (h: ∀t∈T,1≤t.c) (f:Tr→Bool) :0≤wTr f T:=by
 induction T with
 |nil=>simp [wTr]
 |cons t T ih=>
  have h1:=h t (by simp);have h2:=ih fun u hu=>h u (by simp [hu]);simp only [wTr]
  split <;> omega
theorem wTr_append (f:Tr→Bool) (S T:List Tr) :wTr f (S ++ T) =wTr f S+wTr f T:=by
 induction S with
 |nil=>simp [wTr]
 |cons t S ih=>simp only [List.cons_append,wTr,ih];omega
theorem wTr_split (g:Tr→Bool) (k:Tr→Int) (a:Int) (T:List Tr) :wTr g T=wTr (fun t=>g t && (k t == a)) T+wTr g (T.filter fun t=>k t != a):=by
 induction T with
 |nil=>rfl
 |cons t T ih=>
  simp only [wTr,List.filter_cons,ih];by_cases hk:k t=a
  ·simp [hk];omega
  ·simp [hk,wTr];omega
theorem wTr_key (p:Int→Bool) (k:Tr→Int) (a:Int) (T:List Tr) :wTr (fun t=>p (k t) && (k t == a)) T=if p a=true then wTr (fun t=>k t == a) T else 0:=by
 induction T with
 |nil=>simp [wTr]
 |cons t T ih=>
  simp only [wTr,ih];by_cases hk:k t=a
  ·subst hk
   by_cases hp:p (k t) =true
   ·simp [hp]
   ·simp [hp]
  ·have: (k t == a) =false:=by simpa using hk
   simp only [this,Bool.and_false,Bool.false_eq_true,if_false,Int.zero_add]
theorem wTr_none {T:List Tr} {f:Tr→Bool} (h: ∀t∈T,f t=false) :wTr f T=0:=by
 induction T with
 |nil=>rfl
 |cons t T ih=>simp only [wTr,h t (by simp),ih fun u hu=>h u (by simp [hu])];simp
theorem wIds_tr (p:Int→Bool) (k:Tr→Int) {r:List Nd} : ∀(T:List Tr),Roll r→(∀t∈T,1≤t.c)→(∀id,getR r id=wTr (fun t=>k t == id) T)→wIds p r=wTr (fun t=>p (k t)) T:=by
 induction r with
 |nil=>
  intro T _ hT h
  cases T with
  |nil=>rfl
  |cons t T=>
   have h1:=h (k t);have h2:=wTr_nonneg (fun u hu=>hT u (by simp [hu])) (fun u=>k u == k t) (T:=T);have h3:=hT t (by simp);simp only [getR,wTr,BEq.rfl,if_true] at h1;omega
 |cons x r ih=>
  intro T hr hT h;have h1:=h x.1;simp only [getR,if_true] at h1;rw [wTr_split (fun t=>p (k t)) k x.1 T,wTr_key];simp only [wIds];rw [←h1]
  congr 1
  refine ih _ hr.tail (fun t ht=>hT t (List.mem_filter.1 ht).1) fun id=> ?_;by_cases hid:id=x.1
  ·subst hid
   rw [getR_none (fun y hy=>by have:=hr.head y hy;omega),wTr_none];intro t ht;have:=(List.mem_filter.1 ht).2
   simpa using this
  ·have h2:=h id
   simp only [getR] at h2;rw [if_neg (fun e=>hid e.symm)] at h2
   rw [h2,wTr_split (fun t=>k t == id) k x.1 T,wTr_none (f:=fun t=>(k t == id) && (k t == x.1)) (fun t _=>by
    by_cases e:k t=id
    ·simp [e,hid]
    ·simp [e])]
   simp
def Flow (l:Nat) (r q:List Nd) :Prop:=∃T:List Tr,(∀t∈T,1≤t.c)∧
 (∀t∈T,isNode l t.node=true∧isNode l t.leaf=true∧(endsOf l t.node).1≤(endsOf l t.leaf).1∧(endsOf l t.leaf).2.1≤(endsOf l t.node).2.1)∧
 (∀id,getR r id=wTr (fun t=>t.node == id) T)∧(∀id,getR q id=wTr (fun t=>t.leaf == id) T)
section
variable {l:Nat} {r q:List Nd}
theorem Flow.nil (l:Nat) :Flow l [] []:=⟨[],by simp,by simp,fun _=>rfl,fun _=>rfl⟩
theorem Flow.add (h:Flow l r q) (hr:Roll r) (hq:Roll q) {id c:Int} (hid:isNode l id=true) (hc:1≤c) :Flow l (addR r id c) (addR q id c):=by
 obtain⟨T,h1,h2,h3,h4⟩:=h;refine⟨⟨id,id,c⟩ :: T,?_,?_,?_,?_⟩
 ·intro t ht
  rcases List.mem_cons.1 ht with rfl|ht
  ·exact hc
  ·exact h1 t ht
 ·intro t ht
  rcases List.mem_cons.1 ht with rfl|ht
  ·exact⟨hid,hid,Int.le_refl _,Int.le_refl _⟩
  ·exact h2 t ht
 ·intro j
  rw [getR_add hr,h3,h3];simp only [wTr];by_cases e:j=id
  ·subst e;simp;omega
  ·have: (id == j) =false:=by simpa using fun e'=>e e'.symm
   rw [if_neg e,this];simp
 ·intro j
  rw [getR_add hq,h4,h4];simp only [wTr];by_cases e:j=id
  ·subst e;simp;omega
  ·have: (id == j) =false:=by simpa using fun e'=>e e'.symm
   rw [if_neg e,this];simp
theorem Flow.fold (h:Flow l r q) {a b p:Int} {r':List Nd} (hp:isNode l p=true) (hab:a≠b) (hap:a≠p) (hbp:b≠p) (ha: (endsOf l p).1≤(endsOf l a).1∧(endsOf l a).2.1≤(endsOf l p).2.1) (hb: (endsOf l p).1≤(endsOf l b).1∧(endsOf l b).2.1≤(endsOf l p).2.1)
 (hr: ∀id,getR r' id=if id=p then getR r p+getR r a+getR r b else if id=a∨id=b then 0 else getR r id) :Flow l r' q:=by
 obtain⟨T,h1,h2,h3,h4⟩:=h;refine⟨T.map fun t=>if t.node=a∨t.node=b then {t with node:=p} else t,?_,?_,?_,?_⟩
 ·intro t ht
  obtain⟨u,hu,rfl⟩:=List.mem_map.1 ht;have:=h1 u hu
  split <;> exact this
 ·intro t ht
  obtain⟨u,hu,rfl⟩:=List.mem_map.1 ht;have:=h2 u hu
  split
  ·rename_i hn
   refine⟨hp,this.2.1,?_,?_⟩
   ·simp only
    rcases hn with hn|hn
    ·rw [hn] at this;omega
    ·rw [hn] at this;omega
   ·simp only
    rcases hn with hn|hn
    ·rw [hn] at this;omega
    ·rw [hn] at this;omega
  ·exact this
 ·intro id
  rw [hr,h3,h3,h3,h3];clear h1 h2 h3 h4 hr
  induction T with
  |nil=>simp [wTr]
  |cons t T ih=>
   simp only [List.map_cons,wTr];by_cases i1:id=p
   ·rw [if_pos i1] at ih⊢
    subst i1;by_cases ta:t.node=a
    ·have e1:t.node≠b:=by omega
     have e2:t.node≠id:=by omega
     simp [ta,hab,hap]
     omega
    ·by_cases tb:t.node=b
     ·simp [tb,hbp,fun e:b=a=>hab e.symm]
      omega
     ·simp [ta,tb]
      by_cases tp:t.node=id
      ·simp [tp];omega
      ·simp [tp];omega
   ·rw [if_neg i1] at ih⊢
    by_cases i2:id=a∨id=b
    ·rw [if_pos i2] at ih⊢
     by_cases t1:t.node=a∨t.node=b
     ·rw [if_pos t1]
      have: (p == id) =false:=by simpa using fun e=>i1 e.symm
      simp only [this];simp only [Bool.false_eq_true,if_false];omega
     ·rw [if_neg t1]
      have: (t.node == id) =false:=by
       simp only [beq_eq_false_iff_ne,ne_eq];rintro rfl;exact t1 i2
      simp only [this,Bool.false_eq_true,if_false];omega
    ·rw [if_neg i2] at ih⊢
     by_cases t1:t.node=a∨t.node=b
     ·rw [if_pos t1]
      have e1: (p == id) =false:=by simpa using fun e=>i1 e.symm
      have e2: (t.node == id) =false:=by
       simp only [beq_eq_false_iff_ne,ne_eq];rintro rfl;exact i2 t1
      simp only [e1,e2,Bool.false_eq_true,if_false];omega
     ·rw [if_neg t1];omega
 ·intro id
  rw [h4];clear h1 h2 h3 h4 hr
  induction T with
  |nil=>rfl
  |cons t T ih=>
   simp only [List.map_cons,wTr,ih];by_cases hc:t.node=a∨t.node=b
   ·rw [if_pos hc]
   ·rw [if_neg hc]
theorem Flow.join {r2 q2 r3 q3:List Nd} (h:Flow l r q) (k:Flow l r2 q2) (hr: ∀id,getR r3 id=getR r id+getR r2 id) (hq: ∀id,getR q3 id=getR q id+getR q2 id) :Flow l r3 q3:=by
 obtain⟨T,h1,h2,h3,h4⟩:=h;obtain⟨S,k1,k2,k3,k4⟩:=k;refine⟨T ++ S,fun t ht=> ?_,fun t ht=> ?_,fun id=> ?_,fun id=> ?_⟩
 ·rcases List.mem_append.1 ht with ht|ht
  ·exact h1 t ht
  ·exact k1 t ht
 ·rcases List.mem_append.1 ht with ht|ht
  ·exact h2 t ht
  ·exact k2 t ht
 ·rw [hr,wTr_append,h3,k3]
 ·rw [hq,wTr_append,h4,k4]
theorem Flow.sum (h:Flow l r q) (hr:Roll r) (hq:Roll q) :sumR r=sumR q:=by
 obtain⟨T,h1,h2,h3,h4⟩:=h;rw [sumR_ids,sumR_ids,wIds_tr _ (·.node) T hr h1 h3,wIds_tr _ (·.leaf) T hq h1 h4]
end
def pathOf (l:Nat) (y:Int) :List Int:=(List.range l).map fun d=>(2^l+y) / 2^ (l - d)

def encD:Enc Nat 1:=⟨fun x=> [.int .i64 x],fun _=>rfl,by intro x u hu;simp at hu;subst hu;rfl⟩
def dg (l:List Nat) (i:Nat) :Nat:=l.getD i 0
def valD:List Nat→Nat
 | []=>0
 |x :: l=>x+1000*valD l
def okD (l:List Nat) :Prop:=∀x∈l,x≤999
def cmpV (x y:Nat) :Int:=if x<y then -1 else if y<x then 1 else 0

section
variable {a c u d q rh:Nat}
end
structure DivFacts (hi lo y s a c u x1 x0:Nat) :Prop where
 s63:s≤63
 eY:y*2^s=a*4294967296+c
 a1:2147483648≤a
 a2:a<4294967296
 lc:c<4294967296
 eu:u=hi*2^s+lo / 2^ (64 - s)
 uY:u<a*4294967296+c
 et:lo*2^s % 18446744073709551616=x1*4294967296+x0
 l1:x1<4294967296
 l0:x0<4294967296
structure Guess (a c u d q rh:Nat) :Prop where
 eq:q*a+rh=u
 ge: (u*4294967296+d) / (a*4294967296+c)≤q
 rh:rh<4294967296
section
variable {a c u d q rh:Nat}
end
def upV (a b c:Nat) :Nat:=a*b / c+if a*b % c=0 then 0 else 1
def inLow (a b lo hi:Int) :Bool:=decide (a≤lo) && decide (hi≤b)
def inHigh (a b lo hi:Int) :Bool:=decide (lo≤b) && decide (a≤hi)
def betwLow (l:Int) (r:List Nd) (a b:Int) :Int:=weighR l (inLow a b) r
def betwHigh (l:Int) (r:List Nd) (a b:Int) :Int:=weighR l (inHigh a b) r
end Go.Proofs.YtmdidmclfbfmiaaGreatDoor
