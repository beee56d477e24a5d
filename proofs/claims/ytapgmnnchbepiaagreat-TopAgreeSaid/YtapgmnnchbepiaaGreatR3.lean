/-
  Texts of this proof, one behind the other: Open, Load16, TellsA, Digits, Times, Quot, DivLaw, Div64, Part, Reach, Reach2, RankPlain, BinsLaw, Runs, Part1, ReachRef, Edges, SortK, TabLaw, Made, RegionN, Made2.
-/
import Derived.Deep.CutBlock
import Derived.Deep.DeepCutAuto
import Derived.Deep.RegionWith
import Derived.Shelf.SlSortCmp.NoneTotal
import Derived.Test.YtapgmnnchbepiaaGreatLaid
import Derived.Deep.RegionHeld3
import Derived.Deep.RegionLaw
import Derived.Test.YtapgmnnchbepiaaGreatR1
import Derived.Test.YtapgmnnchbepiaaGreatR2
set_option linter.unusedVariables false
set_option linter.unusedSimpArgs false
set_option maxRecDepth 100000
set_option maxHeartbeats 16000000
namespace Go.Proofs.YtapgmnnchbepiaaGreat
open Go.ChangeShapes Go.WideShapes Go.ChangeAt Go.RowKit
theorem slice_of_trod {α:Type} [Inhabited α] {size:Nat} (E:Enc α size) (ok:α→Prop) {t e:TypeId} (ht: (Tryz.prog).underlying t=some (.slice e)) (hC: (Tryz.prog).cellsOf e=size) (hs:0<size)
 {H:Type} {enc:TypeId×Value→H} {w:World} {base:Nat} {spare:Nat→Bool} {held:Bool} {fuel:Nat} {cs:List Value} {x:DataW H×List MemPlace}
 (el: ∀(fuel:Nat) (cs:List Value) (x:DataW H×List MemPlace),DataW.trod enc Tryz.prog w base spare held fuel e cs=some x→∃o:α,cs=E.enc o∧ok o) (h:DataW.trod enc Tryz.prog w base spare held fuel t cs=some x) :
 ∃(l:List α) (A:Option Addr) (cap:Nat),cs= [.slice A l.length cap]∧Sl w w.heap.size E A l∧(∀o∈l,ok o)∧l.length≤maxLen:=by
 rcases Deep.open_slice ht h with ⟨hcs,_⟩ | ⟨a,len,cap,m,n,D,Pl,hcs,_,hl,hm,hmm,_,hx⟩
 ·exact⟨[],none,0,hcs,.nil,by simp,by simp⟩
 ·subst hcs
  have hle:len≤m:=by rw [hmm];split <;> omega
  have each: ∀i,i<len→∃o:α,ok o∧∀j u,(E.enc o)[j]? =some u→w.cell? (a.add (i*size+j)) =some u:=by
   intro i hi;obtain⟨cs',hc,ht'⟩:=hx i (by omega);rw [hC] at hc;obtain⟨o,rfl,hk⟩:=el _ _ _ ht';obtain⟨_,hcl,hat⟩:=World.cells?_some hc;refine⟨o,hk,fun j u hj=> ?_⟩;have hj6:j<size:=by have:=(List.getElem?_eq_some_iff.1 hj).1;rwa [E.len] at this
   rw [←Go.Deep.add_add,hat j hj6,hj]
  obtain⟨f,hF⟩:=Deep.choose_lt each;refine⟨(List.range len).map f,some a,cap,by simp,?_,?_,by simp;omega⟩
  ·by_cases h0:len=0
   ·subst h0;exact .inl rfl
   ·obtain⟨b,off,spot⟩:=a
    obtain⟨u0,hu0⟩ : ∃u,(E.enc (f 0))[0]? =some u:=⟨_,List.getElem?_eq_getElem (by rw [E.len];exact hs)⟩;have hc0:=(hF 0 (by omega)).2 0 _ hu0;have hspot:spot=none:=by simpa [Addr.add] using World.cell?_spot hc0
    subst hspot
    have hb:b<w.heap.size:=by
     simp only [add_plain,Nat.zero_mul,Nat.add_zero] at hc0;exact lt_of_cell hc0
    refine .inr ⟨b,off,rfl,hb,fun i x hi j u hj=> ?_⟩
    have hlt:i<len:=by
     have:=(List.getElem?_eq_some_iff.1 hi).1
     simpa using this
    simp [hlt] at hi
    subst hi;have:=(hF i hlt).2 j u hj;rw [add_plain,←Nat.add_assoc] at this;exact this
  ·intro o ho
   obtain⟨i,hi,rfl⟩:=List.mem_map.1 ho;exact(hF i (List.mem_range.1 hi)).1
theorem i64_of_wf {n:Int} (h: (Lit.int .i64 n).wf=true) :i64 n:=by
 simp only [Lit.wf,Bool.and_eq_true,decide_eq_true_eq] at h;have hmn:IntKind.i64.min= -9223372036854775808:=by decide
 have hmx:IntKind.i64.max=9223372036854775807:=by decide
 rw [hmn,hmx] at h;exact h
section
variable {H:Type} {enc:TypeId×Value→H} {w:World} {base:Nat} {spare:Nat→Bool} {held:Bool} {fuel:Nat} {cs:List Value} {x:DataW H×List MemPlace}
theorem node_of_trod (h:DataW.trod enc Tryz.prog w base spare held fuel 77 cs=some x) : ∃o:Nd,cs=encN.enc o∧i64 o.1∧i64 o.2:=by
 obtain⟨xs,n,_,_,hlen,hxl,hf⟩:=DataW.trod_struct Tryz.underlying77 h;have hC: (Tryz.prog).cellsOf 77=2:=by kernel_rfl
 have hCi: (Tryz.prog).cellsOf 3=1:=by kernel_rfl
 rw [hC] at hlen
 match cs,hlen with
 | [c0,c1],_=>
  match xs,hxl with
  | [y0,y1],_=>
   have g0:DataW.trod enc Tryz.prog w base spare held n 3 (([c0,c1].drop 0).take ((Tryz.prog).cellsOf 3)) =some y0:=hf 0 _ rfl;have g1:DataW.trod enc Tryz.prog w base spare held n 3 (([c0,c1].drop 1).take ((Tryz.prog).cellsOf 3)) =some y1:=hf 1 _ rfl;simp only [hCi] at g0 g1;obtain⟨k,e0,_,k0⟩:=DataW.trod_int Tryz.underlying3 g0;obtain⟨i,e1,_,k1⟩:=DataW.trod_int Tryz.underlying3 g1;simp at e0 e1
   subst e0 e1;exact⟨(k,i),rfl,i64_of_wf k0,i64_of_wf k1⟩
theorem conf_of_trod (h:DataW.trod enc Tryz.prog w base spare held fuel 23 cs=some x) : ∃l k K:Int,cs= [.int .i64 l,.int .i64 k,.int .i64 K]∧i64 l∧i64 k∧i64 K:=by
 obtain⟨xs,n,_,_,hlen,hxl,hf⟩:=DataW.trod_struct Tryz.underlying23 h;have hC: (Tryz.prog).cellsOf 23=3:=by kernel_rfl
 have hCi: (Tryz.prog).cellsOf 3=1:=by kernel_rfl
 rw [hC] at hlen
 match cs,hlen with
 | [c0,c1,c2],_=>
  match xs,hxl with
  | [y0,y1,y2],_=>
   have g0:DataW.trod enc Tryz.prog w base spare held n 3 (([c0,c1,c2].drop 0).take ((Tryz.prog).cellsOf 3)) =some y0:=hf 0 _ rfl;have g1:DataW.trod enc Tryz.prog w base spare held n 3 (([c0,c1,c2].drop 1).take ((Tryz.prog).cellsOf 3)) =some y1:=hf 1 _ rfl;have g2:DataW.trod enc Tryz.prog w base spare held n 3 (([c0,c1,c2].drop 2).take ((Tryz.prog).cellsOf 3)) =some y2:=hf 2 _ rfl;simp only [hCi] at g0 g1 g2;obtain⟨k,e0,_,k0⟩:=DataW.trod_int Tryz.underlying3 g0;obtain⟨i,e1,_,k1⟩:=DataW.trod_int Tryz.underlying3 g1;obtain⟨j,e2,_,k2⟩:=DataW.trod_int Tryz.underlying3 g2;simp at e0 e1 e2
   subst e0 e1 e2;exact⟨k,i,j,rfl,i64_of_wf k0,i64_of_wf k1,i64_of_wf k2⟩
theorem nodes_of_trod (h:DataW.trod enc Tryz.prog w base spare held fuel 24 cs=some x) : ∃(l:List Nd) (A:Option Addr) (cap:Nat),cs= [.slice A l.length cap]∧Sl w w.heap.size encN A l∧ints l∧l.length≤maxLen:=by
 obtain⟨l,A,cap,h1,h2,h3,h4⟩:=slice_of_trod encN (fun o=>i64 o.1∧i64 o.2) Tryz.underlying24 (by kernel_rfl) (by decide) (fun _ _ _ h=>node_of_trod h) h;exact⟨l,A,cap,h1,h2,h3,h4⟩
theorem loaded_of_trod (h:DataW.trod enc Tryz.prog w base spare held fuel 26 cs=some x) :
 ∃(l k K:Int) (r:List Nd) (A:Option Addr) (cap:Nat),cs= [.int .i64 l,.int .i64 k,.int .i64 K,.slice A r.length cap]∧Sl w w.heap.size encN A r∧ints r∧i64 l∧i64 k∧i64 K∧r.length≤maxLen:=by
 obtain⟨xs,n,_,_,hlen,hxl,hf⟩:=DataW.trod_struct Tryz.underlying26 h;have hC: (Tryz.prog).cellsOf 26=4:=by kernel_rfl
 have hCi: (Tryz.prog).cellsOf 23=3:=by kernel_rfl
 have hCs: (Tryz.prog).cellsOf 24=1:=by kernel_rfl
 rw [hC] at hlen
 match cs,hlen with
 | [c0,c1,c2,c3],_=>
  match xs,hxl with
  | [y0,y1],_=>
   have g0:DataW.trod enc Tryz.prog w base spare held n 23 (([c0,c1,c2,c3].drop 0).take ((Tryz.prog).cellsOf 23)) =some y0:=hf 0 _ rfl;have g1:DataW.trod enc Tryz.prog w base spare held n 24 (([c0,c1,c2,c3].drop 3).take ((Tryz.prog).cellsOf 24)) =some y1:=hf 1 _ rfl;rw [hCi] at g0;rw [hCs] at g1;obtain⟨l,k,K,e0,w0,w1,w2⟩:=conf_of_trod g0;obtain⟨r,A,cap,e1,hS,hI,hm⟩:=nodes_of_trod g1;simp at e0 e1
   obtain⟨rfl,rfl,rfl⟩:=e0;subst e1;exact⟨l,k,K,r,A,cap,rfl,hS,hI,w0,w1,w2,hm⟩
end
def loadedV (l k K:Int) (A:Option Addr) (n cap:Nat) :Value:=.agg #[.int .i64 l,.int .i64 k,.int .i64 K,.slice A n cap]
theorem open_Loaded {H:Type} {enc:TypeId×Value→H} {w:World} {base:Nat} {spare:Nat→Bool} {held:Bool} {r:Reach} {b0:Nat} {v:Value} {d:DataW H} {p:List MemPlace}
 (hv:Value.okWide Tryz.prog w r b0 26 v) (h:DataW.Trod enc Tryz.prog w base spare held 26 v d p) :
 ∃(l k K:Int) (r:List Nd) (A:Option Addr) (cap:Nat),v=loadedV l k K A r.length cap∧Sl w w.heap.size encN A r∧ints r∧i64 l∧i64 k∧i64 K∧r.length≤maxLen:=by
 obtain⟨cs,rfl,hsz⟩:=okWide_struct Tryz.underlying26 hv;obtain⟨fuel,hf⟩:=h;obtain⟨l,k,K,r,A,cap,hc,rest⟩:=loaded_of_trod hf;refine⟨l,k,K,r,A,cap,?_,rest⟩;obtain⟨c⟩:=cs;have:c= [.int .i64 l,.int .i64 k,.int .i64 K,.slice A r.length cap]:=by simpa [Value.cells] using hc
 subst this
 rfl
theorem DigAt.set {w:World} {g K l:Nat} {k:Int} {r:List Nd} {F:Nat→Prop} {q o:Nat} {u:Value} (h:DigAt w g K l k r F) (hp: ∀b,F b→b≠q) :DigAt (w.setCell ⟨q,o,none⟩ u) g K l k r F:=h.keep fun b hb=>Below.heap_setCell _ _ _ _ (hp b hb)
theorem DigAt.alloc {w:World} {g K l:Nat} {k:Int} {r:List Nd} {F:Nat→Prop} (h:DigAt w g K l k r F) (o:Obj) :DigAt (w.alloc o) g K l k r F:=h.below ((Below.refl _ _).alloc (Nat.le_refl _) o)
theorem DigAt.drew {w:World} {g K l:Nat} {k:Int} {r:List Nd} {F:Nat→Prop} (h:DigAt w g K l k r F) :DigAt w.drew g K l k r F:=h.keep fun b hb=>rfl
def goodL (l k K:Int) (r:List Nd) :Prop:=r.length≤150∧¬(K=1∧10<l)∧loadErr l k K r=0
theorem goodL_dig {l k K:Int} {r:List Nd} (h:loadErr l k K r=0) :isDig l k K=true:=by
 cases hd:isDig l k K
 ·simp only [loadErr] at h;rw [if_pos hd] at h;cases h
 ·rfl
theorem goodL_nat {l k K:Int} {r:List Nd} (h:loadErr l k K r=0) : ∃n m:Nat,l=n∧K=m:=by
 have hd:=goodL_dig h;simp only [isDig,isPool,Bool.and_eq_true,decide_eq_true_eq] at hd;obtain⟨n,rfl⟩:=Int.eq_ofNat_of_zero_le (show 0≤l by omega);obtain⟨m,rfl⟩:=Int.eq_ofNat_of_zero_le (show 0≤K by omega);exact⟨n,m,rfl,rfl⟩
theorem goodL_parts {l k K:Int} {r:List Nd} (h:loadErr l k K r=0) :rightOf l r=true∧¬8*k<r.length∧lightOf l r k=true:=by
 have hd:=goodL_dig h
 have hr:rightOf l r=true:=by
  cases hr:rightOf l r
  ·simp only [loadErr] at h;rw [if_neg (by simp [hd]),if_pos hr] at h;cases h
  ·rfl
 have h8: ¬8*k<r.length:=by
  intro h8;simp only [loadErr] at h;rw [if_neg (by simp [hd]),if_neg (by simp [hr]),if_pos h8] at h
  cases h
 refine⟨hr,h8,?_⟩
 cases hl:lightOf l r k
 ·simp only [loadErr] at h;rw [if_neg (by simp [hd]),if_neg (by simp [hr]),if_neg h8,if_pos hl] at h;cases h
 ·rfl
theorem law16_Load_no (w:World) (l k K:Int) (A:Option Addr) (cap:Nat) (r:List Nd) (h: ¬goodL l k K r) (hS:Sl w w.heap.size encN A r) (hI:ints r) (hm:r.length≤maxLen) :
 Calls Tryz.prog 4 #[loadedV l k K A r.length cap] w fun e w'=>e=.returned (.tuple #[.pointer none,refDig 0 0 none 0 0])∧Below w.heap.size w w':=by
 unfold loadedV refDig;unfold maxLen at hm;by_cases h1:150<r.length
 ·have h1': (150:Int) < (r.length:Int):=by omega
  clear h hS
  go_enter Tryz.func4,Tryz.ntmps4
  go_wp2_with fail;exact bR (v:=.tuple #[.pointer none,.agg #[.int .i64 0,.int .i64 0,.slice none 0 0]]) (by simp only [results,Tryz.results4];go_simp) rfl ⟨rfl,bE⟩
 ·have h1': ¬(150:Int) < (r.length:Int):=by omega
  by_cases h2:K=1∧10<l
  ·obtain⟨rfl,h2⟩:=h2
   clear h hS
   go_enter Tryz.func4,Tryz.ntmps4
   go_wp2_with fail;exact bR (v:=.tuple #[.pointer none,.agg #[.int .i64 0,.int .i64 0,.slice none 0 0]]) (by simp only [results,Tryz.results4];go_simp) rfl ⟨rfl,bE⟩
  ·have he:loadErr l k K r≠0:=fun he=>h ⟨by omega,h2,he⟩
   have HC:=LH (digest_Load_no · l k K A cap r he · hI (by omega));have HS:=LH hS;have he': (loadErr l k K r == 0) =false:=by simpa using he
   generalize loadErr l k K r=er at HC he he';clear h hS hI;by_cases h3:K=1
   ·subst h3
    have h4: ¬10<l:=fun h4=>h2 ⟨rfl,h4⟩;clear h2
    go_enter Tryz.func4,Tryz.ntmps4
    go_wp2_with fail;refine(HC.out _ (HS.out.keep (by simp;omega) fun p hp=>Go.RowKit.Below.cell (B:=w.heap.size) (w:=w) bE hp)).mono ?_;rintro e w1 ⟨rfl,hb1⟩;have B1:Below w.heap.size w w1:=Below.then_ bE hb1;have s1:=B1.size;have z1_0:w.heap.size<w1.heap.size:=by have:=hb1.size;(try simp at this);omega
    have y1_0:w.heap.size≤w1.heap.size:=Nat.le_of_lt z1_0;have c1_0:=czB hb1 (w.heap.size);have f1_0:=fzB hb1 (w.heap.size);have z1_1:w.heap.size+1<w1.heap.size:=by have:=hb1.size;(try simp at this);omega
    have y1_1:w.heap.size+1≤w1.heap.size:=Nat.le_of_lt z1_1;have c1_1:=czB hb1 (w.heap.size+1);have f1_1:=fzB hb1 (w.heap.size+1);go_wp2_with fail;exact bR (v:=.tuple #[.pointer none,.agg #[.int .i64 0,.int .i64 0,.slice none 0 0]]) (by simp only [results,Tryz.results4];go_simp) rfl ⟨rfl,bE⟩
   ·have h4: (K == 1) =false:=by simpa using h3
    clear h2
    go_enter Tryz.func4,Tryz.ntmps4
    go_wp2_with fail;refine(HC.out _ (HS.out.keep (by simp;omega) fun p hp=>Go.RowKit.Below.cell (B:=w.heap.size) (w:=w) bE hp)).mono ?_;rintro e w1 ⟨rfl,hb1⟩;have B1:Below w.heap.size w w1:=Below.then_ bE hb1;have s1:=B1.size;have z1_0:w.heap.size<w1.heap.size:=by have:=hb1.size;(try simp at this);omega
    have y1_0:w.heap.size≤w1.heap.size:=Nat.le_of_lt z1_0;have c1_0:=czB hb1 (w.heap.size);have f1_0:=fzB hb1 (w.heap.size);have z1_1:w.heap.size+1<w1.heap.size:=by have:=hb1.size;(try simp at this);omega
    have y1_1:w.heap.size+1≤w1.heap.size:=Nat.le_of_lt z1_1;have c1_1:=czB hb1 (w.heap.size+1);have f1_1:=fzB hb1 (w.heap.size+1);go_wp2_with fail;exact bR (v:=.tuple #[.pointer none,.agg #[.int .i64 0,.int .i64 0,.slice none 0 0]]) (by simp only [results,Tryz.results4];go_simp) rfl ⟨rfl,bE⟩
def LPost (K l:Nat) (k:Int) (r:List Nd) (d:Value) (w:World) (e:Ending) (w':World) :Prop:=∃g F,e=.returned (.tuple #[.pointer (some ⟨g,0,none⟩),d])∧DigAt w' g K l k r F∧(∀b,F b→w.heap.size≤b)∧Below w.heap.size w w'
theorem law16_Load (w:World) (l K:Nat) (k:Int) (A:Option Addr) (cap:Nat) (r:List Nd) (h:goodL l k K r) (hS:Sl w w.heap.size encN A r) (hI:ints r) :
 Calls Tryz.prog 4 #[loadedV l k K A r.length cap] w (LPost K l k r (refDig k l A r.length cap) w):=by
 unfold loadedV refDig;obtain⟨h1,h2,h3⟩:=h;have h1': ¬(150:Int) < (r.length:Int):=by omega
 have HC:=LH (digest_Load · l K k A cap r h3 · hI (by omega));have HS:=LH hS;have hp:=goodL_parts h3
 have HR:Hid (∀W,Sl W W.heap.size encN A r→Calls Tryz.prog 20 #[.agg #[.int .i64 l,.int .i64 k,.int .i64 K],.slice A r.length cap] W fun e w'=>e=.returned (.tuple #[.agg #[.int .i64 k,.int .i64 l,.slice A r.length cap],.int .i64 0])∧Below W.heap.size W w'):=LH fun W hW=>by
  have:=ref13_Load_l W l k K A cap r (goodL_dig h3) hp.1 hp.2.1 hW hI (by omega);rw [hp.2.2] at this;exact this
 clear hS hI h3 hp;by_cases h3:K=1
 ·subst h3
  have h4: ¬(10:Int) < (l:Int):=fun h4=>h2 ⟨rfl,h4⟩;clear h2
  go_enter Tryz.func4,Tryz.ntmps4
  go_wp2_with fail;refine(HC.out _ (HS.out.keep (by simp;omega) fun p hp=>Go.RowKit.Below.cell (B:=w.heap.size) (w:=w) bE hp)).mono ?_;rintro e w1 ⟨g,F,rfl,hD,hF,hb1⟩;have B1:Below w.heap.size w w1:=Below.then_ bE hb1;have s1:=B1.size;have z1_0:w.heap.size<w1.heap.size:=by have:=hb1.size;(try simp at this);omega
  have y1_0:w.heap.size≤w1.heap.size:=Nat.le_of_lt z1_0;have c1_0:=czB hb1 (w.heap.size);have f1_0:=fzB hb1 (w.heap.size);have z1_1:w.heap.size+1<w1.heap.size:=by have:=hb1.size;(try simp at this);omega
  have y1_1:w.heap.size+1≤w1.heap.size:=Nat.le_of_lt z1_1;have c1_1:=czB hb1 (w.heap.size+1);have f1_1:=fzB hb1 (w.heap.size+1);have KD:=LH hD;simp only [World.size_alloc] at hF;have KF:=LH hF;clear hD hF;go_wp2_with fail;refine(HR.out _ (HS.out.keep s1 fun p hp=>B1.cell hp)).mono ?_;rintro e w2 ⟨rfl,hb2⟩;have B2:Below w.heap.size w w2:=Below.then_ bE hb2;have s2:=B2.size;have z2_0:w.heap.size<w2.heap.size:=by have:=hb2.size;(try simp at this);omega
  have y2_0:w.heap.size≤w2.heap.size:=Nat.le_of_lt z2_0;have c2_0:=czB hb2 (w.heap.size);have f2_0:=fzB hb2 (w.heap.size);have z2_1:w.heap.size+1<w2.heap.size:=by have:=hb2.size;(try simp at this);omega
  have y2_1:w.heap.size+1≤w2.heap.size:=Nat.le_of_lt z2_1;have c2_1:=czB hb2 (w.heap.size+1);have f2_1:=fzB hb2 (w.heap.size+1);have KD2:=LH (KD.out.below hb2);go_wp2_with fail
  go_region
  go_wp2_with fail;refine bR (v:=.tuple #[.pointer (some ⟨g,0,none⟩),.agg #[.int .i64 k,.int .i64 l,.slice A r.length cap]]) (by simp only [results,Tryz.results4];go_simp) rfl ⟨g,F,rfl,?_,fun b hb=>by have:=KF.out b hb;omega,bE⟩;have hne: ∀b,F b→b≠w.heap.size+1:=fun b hb=>by have:=KF.out b hb;omega
  exact((((KD2.out.set hne).set hne).set hne).alloc _).drew
 ·have h4: ((K:Int) == 1) =false:=by simpa using (fun h=>h3 (by omega))
  clear h2
  go_enter Tryz.func4,Tryz.ntmps4
  go_wp2_with fail;refine(HC.out _ (HS.out.keep (by simp;omega) fun p hp=>Go.RowKit.Below.cell (B:=w.heap.size) (w:=w) bE hp)).mono ?_;rintro e w1 ⟨g,F,rfl,hD,hF,hb1⟩;have B1:Below w.heap.size w w1:=Below.then_ bE hb1;have s1:=B1.size;have z1_0:w.heap.size<w1.heap.size:=by have:=hb1.size;(try simp at this);omega
  have y1_0:w.heap.size≤w1.heap.size:=Nat.le_of_lt z1_0;have c1_0:=czB hb1 (w.heap.size);have f1_0:=fzB hb1 (w.heap.size);have z1_1:w.heap.size+1<w1.heap.size:=by have:=hb1.size;(try simp at this);omega
  have y1_1:w.heap.size+1≤w1.heap.size:=Nat.le_of_lt z1_1;have c1_1:=czB hb1 (w.heap.size+1);have f1_1:=fzB hb1 (w.heap.size+1);have KD:=LH hD;simp only [World.size_alloc] at hF;have KF:=LH hF;clear hD hF;go_wp2_with fail;refine(HR.out _ (HS.out.keep s1 fun p hp=>B1.cell hp)).mono ?_;rintro e w2 ⟨rfl,hb2⟩;have B2:Below w.heap.size w w2:=Below.then_ bE hb2;have s2:=B2.size;have z2_0:w.heap.size<w2.heap.size:=by have:=hb2.size;(try simp at this);omega
  have y2_0:w.heap.size≤w2.heap.size:=Nat.le_of_lt z2_0;have c2_0:=czB hb2 (w.heap.size);have f2_0:=fzB hb2 (w.heap.size);have z2_1:w.heap.size+1<w2.heap.size:=by have:=hb2.size;(try simp at this);omega
  have y2_1:w.heap.size+1≤w2.heap.size:=Nat.le_of_lt z2_1;have c2_1:=czB hb2 (w.heap.size+1);have f2_1:=fzB hb2 (w.heap.size+1);have KD2:=LH (KD.out.below hb2);go_wp2_with fail
  go_region
  go_wp2_with fail;refine bR (v:=.tuple #[.pointer (some ⟨g,0,none⟩),.agg #[.int .i64 k,.int .i64 l,.slice A r.length cap]]) (by simp only [results,Tryz.results4];go_simp) rfl ⟨g,F,rfl,?_,fun b hb=>by have:=KF.out b hb;omega,bE⟩;have hne: ∀b,F b→b≠w.heap.size+1:=fun b hb=>by have:=KF.out b hb;omega
  exact((((KD2.out.set hne).set hne).set hne).alloc _).drew
def nodes16:List Nd:= [(1,1),(4,2),(7,3)]
theorem reckon_count (w:World) (n:Nat) (hn:n≤9223372036854775807) :Calls Tryz.prog 96 #[.int .u64 n] w fun e w'=>e=.returned (.tuple #[.int .i64 n,.bool true])∧Below w.heap.size w w':=by
 go_enter Tryz.func96,Tryz.ntmps96
 go_wp2_with fail
 go_ret2
 exact⟨rfl,bE⟩
def encD:Enc Nat 1:=⟨fun x=> [.int .i64 x],fun _=>rfl,by intro x u hu;simp at hu;subst hu;rfl⟩
def dg (l:List Nat) (i:Nat) :Nat:=l.getD i 0
def valD:List Nat→Nat
 | []=>0
 |x :: l=>x+1000*valD l
def okD (l:List Nat) :Prop:=∀x∈l,x≤999
def cmpV (x y:Nat) :Int:=if x<y then -1 else if y<x then 1 else 0
theorem cmpV_lt (x y:Nat) : (cmpV x y<0)↔x<y:=by unfold cmpV;split <;> (try split) <;> omega
theorem cmpV_eq {x y:Nat} (h:x=y) :cmpV x y=0:=by unfold cmpV;rw [if_neg (by omega),if_neg (by omega)]
theorem cmpV_less {x y:Nat} (h:x<y) :cmpV x y= -1:=if_pos h
theorem cmpV_more {x y:Nat} (h:y<x) :cmpV x y=1:=by unfold cmpV;rw [if_neg (by omega),if_pos h]

section
variable {a c u d q rh:Nat}
theorem guess_high (hd:d<4294967296) (hu:u<a*4294967296+c) (h:q*a+rh=u) (ht:4294967296≤q∨4294967296*rh+d<q*c) : (u*4294967296+d) / (a*4294967296+c) <q:=by
 rw [Nat.div_lt_iff_lt_mul (by omega)];rcases ht with ht|ht
 ·have h1: (a*4294967296+c) *4294967296≤q* (a*4294967296+c):=by rw [Nat.mul_comm q];exact Nat.mul_le_mul_left _ ht
  omega
 ·have h1:q* (a*4294967296+c) = (q*a) *4294967296+q*c:=by rw [Nat.mul_add,Nat.mul_assoc]
  rw [h1];omega
theorem guess_low (h:q*a+rh=u) (hc:0<a*4294967296+c) (ht:q*c≤4294967296*rh+d) :q≤(u*4294967296+d) / (a*4294967296+c):=by
 rw [Nat.le_div_iff_mul_le hc];have h1:q* (a*4294967296+c) = (q*a) *4294967296+q*c:=by rw [Nat.mul_add,Nat.mul_assoc]
 rw [h1];omega
theorem guess_break (hc:c<4294967296) (hu:u<a*4294967296+c) (h:q*a+rh=u) (hr:4294967296≤rh) :q≤(u*4294967296+d) / (a*4294967296+c):=by
 refine guess_low h (by omega) ?_;have h1:q*a<4294967296*a:=by omega
 have h2:q<4294967296:=Nat.lt_of_mul_lt_mul_right h1;have h3:q*c≤q*4294967296:=Nat.mul_le_mul_left _ (by omega);omega
theorem quot_digit (hd:d<4294967296) (hu:u<a*4294967296+c) : (u*4294967296+d) / (a*4294967296+c) <4294967296:=by
 rw [Nat.div_lt_iff_lt_mul (by omega)];omega
end
theorem two_digits (B Y u x1 x0:Nat) (hY:0<Y) :
 (u* (B*B) + (x1*B+x0)) / Y= (u*B+x1) / Y*B+ ((u*B+x1) % Y*B+x0) / Y∧
 (u* (B*B) + (x1*B+x0)) % Y= ((u*B+x1) % Y*B+x0) % Y:=by
 have h1:=Nat.div_add_mod (u*B+x1) Y;obtain⟨q1,hq⟩ : ∃q,q= (u*B+x1) / Y:=⟨_,rfl⟩;obtain⟨r1,hr⟩ : ∃q,q= (u*B+x1) % Y:=⟨_,rfl⟩;rw [←hq,←hr] at h1⊢
 have e:u* (B*B) + (x1*B+x0) =Y* (q1*B) + (r1*B+x0):=by
  have: (Y*q1+r1) *B= (u*B+x1) *B:=by rw [h1]
  rw [Nat.add_mul,Nat.add_mul,Nat.mul_assoc,Nat.mul_assoc] at this;omega
 rw [e,Nat.mul_add_div hY,Nat.mul_add_mod];exact⟨rfl,rfl⟩
theorem moved_up {B hi lo s t:Nat} (hB:2^s*2^t=B) :
 (hi*2^s+lo / 2^t) *B+lo*2^s % B= (hi*B+lo) *2^s:=by
 have h1:lo*2^s / B=lo / 2^t:=by
  rw [←hB,Nat.mul_comm lo,Nat.mul_div_mul_left _ _ (Nat.two_pow_pos s)]
 have h2:=Nat.div_add_mod (lo*2^s) B;rw [h1,Nat.mul_comm B] at h2
 have h3: (hi*B+lo) *2^s=hi*2^s*B+lo*2^s:=by
  rw [Nat.add_mul,Nat.mul_assoc,Nat.mul_comm B,←Nat.mul_assoc]
 rw [h3,Nat.add_mul];omega
theorem moved_quot {N y s:Nat} :N*2^s / (y*2^s) =N / y∧N*2^s % (y*2^s) / 2^s=N % y:=by
 have hp:=Nat.two_pow_pos s;refine⟨Nat.mul_div_mul_right _ _ hp,?_⟩;rw [Nat.mul_mod_mul_right,Nat.mul_div_cancel _ hp]
theorem wraps_u64 (n:Int) (h₀:0≤n) (h₁:n<2^64) :IntKind.u64.wrap n=n:=by rw [IntKind.wrap_u64];omega
theorem u64_mask (n:Nat) (hn:n<18446744073709551616) :bits .and .u64 (n:Int) 4294967295= ((n % 4294967296:Nat) :Int):=by
 have:=bits_mask .u64 64 (by decide) wraps_u64 32 (by omega) (n:Int) (by omega) (by omega);have e: (2:Int) ^32 - 1=4294967295:=by decide
 rw [e] at this;rw [this];omega
theorem moved_div {y:Nat} (h0:y≠0) (h:y<18446744073709551616) : ∃s Y:Nat,(64:Int) - (Lib.bitLen y:Int) =s∧s≤63∧y*2^s=Y∧9223372036854775808≤Y∧Y<18446744073709551616:=by
 have hb:=Lib.bitLenAux_bounds 64 y (by simpa using h) h0;have h1:2^ (Lib.bitLen y - 1)≤y:=hb.2.1;have h2:y<2^Lib.bitLen y:=hb.2.2;have h3:1≤Lib.bitLen y:=hb.1
 have h4:Lib.bitLen y≤64:=by
  apply Classical.byContradiction
  intro hn;have:=Nat.pow_le_pow_right (n:=2) (by decide) (show 64≤Lib.bitLen y - 1 by omega);omega
 obtain⟨n,hn⟩ : ∃n,n=Lib.bitLen y:=⟨_,rfl⟩;rw [←hn] at h1 h2 h3 h4⊢;refine⟨64 - n,_,by omega,by omega,rfl,?_,?_⟩
 ·have e:2^ (n - 1) *2^ (64 - n) =9223372036854775808:=by rw [←Nat.pow_add,show n - 1+ (64 - n) =63 by omega]
  rw [←e];exact Nat.mul_le_mul_right _ h1
 ·have e:2^n*2^ (64 - n) =18446744073709551616:=by rw [←Nat.pow_add,show n+ (64 - n) =64 by omega]
  rw [←e];exact Nat.mul_lt_mul_of_pos_right h2 (Nat.two_pow_pos _)
structure DivFacts (hi lo y s a c u x1 x0:Nat) :Prop where
 s63:s≤63
 eY:y*2^s=a*4294967296+c
 a1:2147483648≤a
 a2:a<4294967296
 lc:c<4294967296
 eu:u=hi*2^s+lo / 2^ (64 - s)
 uY:u<a*4294967296+c
 et:lo*2^s % 18446744073709551616=x1*4294967296+x0
 l1:x1<4294967296
 l0:x0<4294967296
theorem div_facts {hi lo y s Y:Nat} (hs:s≤63) (hY:y*2^s=Y) (hY1:9223372036854775808≤Y) (hY2:Y<18446744073709551616) (hhi:hi<y) (hlo:lo<18446744073709551616) :
 ∃a c u x1 x0,DivFacts hi lo y s a c u x1 x0:=by
 have h64:2^s*2^ (64 - s) =18446744073709551616:=by rw [←Nat.pow_add,show s+ (64 - s) =64 by omega]
 have hu:hi*2^s+lo / 2^ (64 - s) <Y:=by
  have h1:lo / 2^ (64 - s) <2^s:=by
   apply Nat.div_lt_of_lt_mul
   rw [Nat.mul_comm,h64];exact hlo
  have h2: (hi+1) *2^s≤y*2^s:=Nat.mul_le_mul_right _ hhi;rw [Nat.add_mul,Nat.one_mul] at h2;omega
 have ht:=Nat.mod_lt (lo*2^s) (show 0<18446744073709551616 by decide);obtain⟨t,htt⟩ : ∃t,t=lo*2^s % 18446744073709551616:=⟨_,rfl⟩;rw [←htt] at ht;exact⟨Y / 4294967296,Y % 4294967296,_,t / 4294967296,t % 4294967296,hs,by omega,by omega,by omega,by omega,rfl,by omega,by rw [←htt];omega,by omega,by omega⟩
theorem div_end {hi lo y s a c u x1 x0:Nat} (h:DivFacts hi lo y s a c u x1 x0) :
 (hi*18446744073709551616+lo) / y= (u*4294967296+x1) / (a*4294967296+c) *4294967296+ ((u*4294967296+x1) % (a*4294967296+c) *4294967296+x0) / (a*4294967296+c)∧
 (hi*18446744073709551616+lo) % y= ((u*4294967296+x1) % (a*4294967296+c) *4294967296+x0) % (a*4294967296+c) / 2^s:=by
 have hs:=h.s63;have h64:2^s*2^ (64 - s) =18446744073709551616:=by rw [←Nat.pow_add,show s+ (64 - s) =64 by omega]
 have h1:=moved_up (hi:=hi) (lo:=lo) h64;rw [h.et,←h.eu] at h1;have ha:=h.a1;have h2:=two_digits 4294967296 (a*4294967296+c) u x1 x0 (by omega);simp only [Nat.reduceMul] at h2;rw [h1] at h2;have h3:=moved_quot (N:=hi*18446744073709551616+lo) (y:=y) (s:=s);rw [h.eY] at h3;rw [←h3.1,←h3.2,h2.1,h2.2];exact⟨rfl,rfl⟩
structure Guess (a c u d q rh:Nat) :Prop where
 eq:q*a+rh=u
 ge: (u*4294967296+d) / (a*4294967296+c)≤q
 rh:rh<4294967296
section
variable {a c u d q rh:Nat}
theorem Guess.start (ha1:2147483648≤a) (ha2:a<4294967296) (hc:c<4294967296) (hd:d<4294967296) (hu:u<a*4294967296+c) :Guess a c u d (u / a) (u % a):=by
 have h1:=Nat.div_add_mod u a;have h2:=Nat.mod_lt u (show 0<a by omega);rw [Nat.mul_comm] at h1;obtain⟨q,hq⟩ : ∃q,q=u / a:=⟨_,rfl⟩;obtain⟨r,hr⟩ : ∃r,r=u % a:=⟨_,rfl⟩;rw [←hq,←hr] at h1⊢;rw [←hr] at h2;refine⟨h1,?_,by omega⟩
 apply Nat.le_of_lt_succ
 rw [Nat.div_lt_iff_lt_mul (by omega)];have h4:u<q.succ*a:=by rw [Nat.succ_mul];omega
 have h5:q.succ* (a*4294967296+c) =q.succ*a*4294967296+q.succ*c:=by rw [Nat.mul_add,Nat.mul_assoc]
 rw [h5];omega
theorem Guess.q_le (h:Guess a c u d q rh) (ha1:2147483648≤a) (hc:c<4294967296) (hu:u<a*4294967296+c) :q≤4294967298:=by
 have h1:=h.eq
 apply Classical.byContradiction
 intro hn;have h2:4294967299*a≤q*a:=Nat.mul_le_mul_right _ (by omega);omega
theorem Guess.down (h:Guess a c u d q rh) (hd:d<4294967296) (hu:u<a*4294967296+c) (ht:4294967296≤q∨4294967296*rh+d<q*c) :1≤q∧(u*4294967296+d) / (a*4294967296+c)≤q - 1∧(q - 1) *a+ (rh+a) =u:=by
 have h1:=guess_high hd hu h.eq ht;have h2:=h.eq;obtain⟨T,hT⟩ : ∃T,T= (u*4294967296+d) / (a*4294967296+c):=⟨_,rfl⟩;rw [←hT] at h1⊢;refine⟨by omega,by omega,?_⟩
 have h3:q*a= (q - 1) *a+a:=by
  have:q= (q - 1) +1:=by omega
  conv=>lhs;rw [this,Nat.add_mul,Nat.one_mul]
 omega
theorem Guess.fin (h:Guess a c u d q rh) (ha:0<a) (ht:q*c≤4294967296*rh+d) :q= (u*4294967296+d) / (a*4294967296+c):=
 Nat.le_antisymm (guess_low h.eq (by omega) ht) h.ge
end
theorem left_over {u d a c q r:Nat} (hY:0<a*4294967296+c) (hY2:a*4294967296+c<18446744073709551616) (hq:q= (u*4294967296+d) / (a*4294967296+c)) (hr:r= (u*4294967296+d) % (a*4294967296+c)) :
 IntKind.u64.wrap (IntKind.u64.wrap (IntKind.u64.wrap ((u:Int) *4294967296) + (d:Int)) - IntKind.u64.wrap ((q:Int) * ((a:Int) *4294967296+ (c:Int)))) = (r:Int):=by
 obtain⟨Y,hYe⟩ : ∃Y,Y=a*4294967296+c:=⟨_,rfl⟩;rw [show (a:Int) *4294967296+ (c:Int) = (Y:Int) by omega];rw [←hYe] at hY hY2 hq hr;have h1:=Nat.div_add_mod (u*4294967296+d) Y;have h2:=Nat.mod_lt (u*4294967296+d) hY;rw [←hq] at h1;rw [←hr] at h1 h2;obtain⟨p,hp⟩ : ∃p,p=Y*q:=⟨_,rfl⟩;have e: (q:Int) * (Y:Int) = (p:Int):=by rw [hp,Nat.mul_comm];push_cast;rfl
 rw [←hp] at h1;rw [e];simp only [IntKind.wrap_u64];omega
theorem sub_of_add {m r u:Nat} (h:m+r=u) : (u:Int) - (m:Int) = (r:Int):=by omega
theorem bits_Div64 (w:World) (hi lo y:Nat) (hy:y<18446744073709551616) (hhi:hi<y) (hlo:lo<18446744073709551616) :
 Calls Tryz.prog 161 #[.int .u64 hi,.int .u64 lo,.int .u64 y] w fun e w'=>e=.returned (.tuple #[.int .u64 ((hi*18446744073709551616+lo) / y:Nat),.int .u64 ((hi*18446744073709551616+lo) % y:Nat)])∧Below w.heap.size w w':=by
 by_cases h0:hi=0
 ·subst h0
  have q1: (0:Int)≤(lo:Int) / (y:Int):=Int.ediv_nonneg (by omega) (by omega);have q2: (lo:Int) / (y:Int)≤lo:=Int.ediv_le_self _ (by omega);have q3: (0:Int)≤(lo:Int) % (y:Int):=Int.emod_nonneg _ (by omega);have q4: (lo:Int) % (y:Int) <y:=Int.emod_lt_of_pos _ (by omega);have y1: (1:Int)≤(y:Int):=by omega
  have y0: ((y:Int) == 0) =false:=by simp;omega
  go_enter Tryz.func161,Tryz.ntmps161
  go_wp2_with fail;refine rX (by kernel_rfl) (by kernel_rfl) ?_
  repeat (go_big_quiet_step (fail))
  refine wpQuiet_nil ?_;intro w1 hb1;replace hb1:=bX hb1;have B1:Below w.heap.size w w1:=Below.then_ bE hb1;have s1:=B1.size;go_wp2_with fail
  go_ret2
  exact⟨by simp,bE⟩
 ·obtain⟨s,Y,hs,hs63,hY,hY1,hY2⟩:=moved_div (show y≠0 by omega) hy
  obtain⟨a,c,u,x1,x0,hF⟩:=div_facts hs63 hY hY1 hY2 hhi hlo;have y0: ((y:Int) == 0) =false:=by simp;omega
  have hi0: ((hi:Int) == 0) =false:=by simp;omega
  have e1: (y:Int) *2^s= (a:Int) *4294967296+ (c:Int):=by have:=hF.eY;rw [show (y:Int) *2^s= ((y*2^s:Nat) :Int) by push_cast;rfl,this];omega
  have e2: ((a:Int) *4294967296+ (c:Int)) / 4294967296= (a:Int):=by have:=hF.lc;omega
  have e3:bits .and .u64 ((a:Int) *4294967296+ (c:Int)) 4294967295= (c:Int):=by
   have h1:=hF.lc;have h2:=hF.a2;have:=u64_mask (a*4294967296+c) (by omega);rw [show ((a*4294967296+c:Nat) :Int) = (a:Int) *4294967296+ (c:Int) by omega] at this;rw [this];omega
  have e4:bits .or .u64 (IntKind.u64.wrap ((hi:Int) *2^s)) ((lo:Int) / 2^ (64 - s)) = (u:Int):=by
   have h1:=hF.eu;have h2:=hF.uY;have h3:=hF.lc;have h4:=hF.a2;have h64:2^s*2^ (64 - s) =18446744073709551616:=by rw [←Nat.pow_add,show s+ (64 - s) =64 by omega]
   have h5:lo / 2^ (64 - s) <2^s:=by
    apply Nat.div_lt_of_lt_mul
    rw [Nat.mul_comm,h64];exact hlo
   have p1: (hi:Int) *2^s= ((hi*2^s:Nat) :Int):=by push_cast;rfl
   have p2: (lo:Int) / 2^ (64 - s) = ((lo / 2^ (64 - s) :Nat) :Int):=by push_cast;rfl
   have p3: ((2^s:Nat) :Int) =2^s:=by push_cast;rfl
   have p4: ((hi*2^s:Nat) :Int) % 2^s=0:=by rw [←p1];exact Int.mul_emod_left _ _
   obtain⟨H,hH⟩ : ∃H,H=hi*2^s:=⟨_,rfl⟩;obtain⟨L,hL⟩ : ∃L,L=lo / 2^ (64 - s):=⟨_,rfl⟩;rw [←hH] at p1 p4 h1;rw [←hL] at p2 h1 h5;rw [p1,p2,wraps_u64 _ (by omega) (by omega)];have:=bits_join .u64 64 (by decide) wraps_u64 s (H:Int) (L:Int) (by omega) p4 (by omega) (by omega) (by rw [←p3];omega) (by omega);rw [this,h1];omega
  have e5:IntKind.u64.wrap ((lo:Int) *2^s) = (x1:Int) *4294967296+ (x0:Int):=by
   have h1:=hF.et;rw [show (lo:Int) *2^s= ((lo*2^s:Nat) :Int) by push_cast;rfl,IntKind.wrap_u64];omega
  have e6: ((x1:Int) *4294967296+ (x0:Int)) / 4294967296= (x1:Int):=by have:=hF.l0;omega
  have e7:bits .and .u64 ((x1:Int) *4294967296+ (x0:Int)) 4294967295= (x0:Int):=by
   have h1:=hF.l0;have h2:=hF.l1;have:=u64_mask (x1*4294967296+x0) (by omega);rw [show ((x1*4294967296+x0:Nat) :Int) = (x1:Int) *4294967296+ (x0:Int) by omega] at this;rw [this];omega
  have hlz:Hid (∀W,Calls Tryz.prog 210 #[.int .u64 y] W fun e w'=>e=.returned (.int .i64 s)∧w'=W):=LH fun W=>by
   have:=Tryz.bits_LeadingZeros64 (y:Int) W (by omega) (by omega);rw [Int.toNat_natCast,hs] at this;exact this
  have a1:=hF.a1;have a2:=hF.a2;have c2:=hF.lc;have uY:=hF.uY;have xx1:=hF.l1;have xx0:=hF.l0;have G1:=LH (Guess.start (d:=x1) a1 a2 c2 xx1 uY);have e8: (u:Int) / (a:Int) = ((u / a:Nat) :Int):=by push_cast;rfl
  have e9: ((u / a:Nat) :Int) * (a:Int) = ((u / a*a:Nat) :Int):=by push_cast;rfl
  have e10:u / a*a+u % a=u:=by have:=Nat.div_add_mod u a;rw [Nat.mul_comm];exact this
  obtain⟨q0,hq0⟩ : ∃q,q=u / a:=⟨_,rfl⟩;obtain⟨r0,hr0⟩ : ∃q,q=u % a:=⟨_,rfl⟩;obtain⟨m0,hm0⟩ : ∃q,q=q0*a:=⟨_,rfl⟩;rw [←hq0] at e8 e9 e10;rw [←hq0,←hr0] at G1;rw [←hm0] at e9 e10;rw [←hr0] at e10;have e11: (u:Int) - (m0:Int) = (r0:Int):=sub_of_add e10;have hq0l:q0≤4294967298:=G1.out.q_le a1 c2 uY;have HE:=LH (div_end hF);have s1: (s:Int)≤63:=by omega
  clear hs hs63 hY hY1 hY2 hq0 hr0 hm0 e10 hF
  go_enter Tryz.func161,Tryz.ntmps161
  go_wp2_with fail;refine(hlz.out _).mono ?_;rintro e w1 ⟨rfl,rfl⟩
  go_upto_block 0 with fail
  go_cut [15,16] (fun q rh wx=>∃qn rn:Nat,q=.int .u64 qn∧rh=.int .u64 rn∧qn= (u*4294967296+x1) / (a*4294967296+c)∧w1=wx)
  case first=>
   go_wp2_with fail
   go_loop [15,16] (fun q rh=>∃qn rn:Nat,q=.int .u64 qn∧rh=.int .u64 rn∧Guess a c u x1 qn rn) (fun q _=>(intOf q).toNat)
   case atStart=>exact⟨_,_,rfl,rfl,G1.out⟩
   case round=>
    obtain⟨qn,rn,rfl,rfl,hG⟩:=hrel;have HG:=LH hG;have g1:=hG.q_le a1 c2 uY;have g2:=hG.rh;clear hG;by_cases hq:4294967296≤qn
    ·have HD:=LH (HG.out.down xx1 uY (.inl hq))
     have g3:=HD.out.1;have hq': (4294967296:Int)≤(qn:Int):=by omega
     by_cases hb:4294967296≤rn+a
     ·have HF:=LH (Nat.le_antisymm (guess_break (d:=x1) c2 uY HD.out.2.2 hb) HD.out.2.1)
      have hb': (4294967296:Int)≤(rn:Int) + (a:Int):=by omega
      go_wp2_with fail
      go_meet
      exact⟨qn - 1,rn+a,by go_num,by go_num,HF.out,rfl⟩
     ·have hb': ¬(4294967296:Int)≤(rn:Int) + (a:Int):=by omega
      go_wp2_with fail
      go_round
      case rel=>exact⟨qn - 1,rn+a,by go_num,by go_num,HD.out.2.2,HD.out.2.1,by omega⟩
      case measure=>simp [intOf];omega
    ·have hR:qn*c≤18446744073709551615:=by
      have h1:qn*c≤4294967295*c:=Nat.mul_le_mul_right _ (by omega);omega
     have e12: (qn:Int) * (c:Int) = ((qn*c:Nat) :Int):=by push_cast;rfl
     have hqd:decide ((4294967296:Int)≤(qn:Int)) =false:=by simp;omega
     have hqn:qn≤4294967295:=by omega
     clear hq;obtain⟨R,hRe⟩ : ∃R,R=qn*c:=⟨_,rfl⟩;rw [←hRe] at e12 hR;by_cases ht:4294967296*rn+x1<R
     ·have HD:=LH (HG.out.down xx1 uY (.inr (by rw [←hRe];exact ht)))
      have g3:=HD.out.1;have ht':decide ((4294967296:Int) * (rn:Int) + (x1:Int) < (R:Int)) =true:=by simp;omega
      clear ht;clear hRe;by_cases hb:4294967296≤rn+a
      ·have HF:=LH (Nat.le_antisymm (guess_break (d:=x1) c2 uY HD.out.2.2 hb) HD.out.2.1)
       have hb': (4294967296:Int)≤(rn:Int) + (a:Int):=by omega
       go_wp2_with fail
       go_meet
       exact⟨qn - 1,rn+a,by go_num,by go_num,HF.out,rfl⟩
      ·have hb': ¬(4294967296:Int)≤(rn:Int) + (a:Int):=by omega
       go_wp2_with fail
       go_round
       case rel=>exact⟨qn - 1,rn+a,by go_num,by go_num,HD.out.2.2,HD.out.2.1,by omega⟩
       case measure=>simp [intOf];omega
     ·have HF:=LH (HG.out.fin (by omega) (by rw [←hRe];omega))
      have ht':decide ((4294967296:Int) * (rn:Int) + (x1:Int) < (R:Int)) =false:=by simp;omega
      clear ht;clear hRe;go_wp2_with fail
      go_meet
      exact⟨qn,rn,rfl,rfl,HF.out,rfl⟩
  case rest=>
   obtain⟨qn,rn,rfl,rfl,hq,rfl⟩:=hcut;have HQ:=LH hq;have hqd:=quot_digit xx1 uY;rw [←hq] at hqd;have hqd':qn≤4294967295:=by omega
   obtain⟨r,hr⟩ : ∃r,r= (u*4294967296+x1) % (a*4294967296+c):=⟨_,rfl⟩;have e20:=left_over (by omega) (by omega) hq hr;have rY:r<a*4294967296+c:=by rw [hr];exact Nat.mod_lt _ (by omega)
   have HR:=LH hr;have G2:=LH (Guess.start (d:=x0) a1 a2 c2 xx0 rY);have f8: (r:Int) / (a:Int) = ((r / a:Nat) :Int):=by push_cast;rfl
   have f9: ((r / a:Nat) :Int) * (a:Int) = ((r / a*a:Nat) :Int):=by push_cast;rfl
   have f10:r / a*a+r % a=r:=by have:=Nat.div_add_mod r a;rw [Nat.mul_comm];exact this
   obtain⟨q2,hq2⟩ : ∃q,q=r / a:=⟨_,rfl⟩;obtain⟨r2,hr2⟩ : ∃q,q=r % a:=⟨_,rfl⟩;obtain⟨m2,hm2⟩ : ∃q,q=q2*a:=⟨_,rfl⟩;rw [←hq2] at f8 f9 f10;rw [←hq2,←hr2] at G2;rw [←hm2] at f9 f10;rw [←hr2] at f10;have f11: (r:Int) - (m2:Int) = (r2:Int):=sub_of_add f10;have hq2l:q2≤4294967298:=G2.out.q_le a1 c2 rY;clear hq hqd hr hq2 hr2 hm2 f10 e8 e9 e11
   go_upto_block 2 with fail
   go_cut [18,16] (fun q rh wx=>∃qm rm:Nat,q=.int .u64 qm∧rh=.int .u64 rm∧qm= (r*4294967296+x0) / (a*4294967296+c)∧w1=wx)
   case first=>
    go_wp2_with fail
    go_loop [18,16] (fun q rh=>∃qn rn:Nat,q=.int .u64 qn∧rh=.int .u64 rn∧Guess a c r x0 qn rn) (fun q _=>(intOf q).toNat)
    case atStart=>exact⟨_,_,rfl,rfl,G2.out⟩
    case round=>
     obtain⟨qn,rn,rfl,rfl,hG⟩:=hrel;have HG:=LH hG;have g1:=hG.q_le a1 c2 rY;have g2:=hG.rh;clear hG;by_cases hq:4294967296≤qn
     ·have HD:=LH (HG.out.down xx0 rY (.inl hq))
      have g3:=HD.out.1;have hq': (4294967296:Int)≤(qn:Int):=by omega
      by_cases hb:4294967296≤rn+a
      ·have HF:=LH (Nat.le_antisymm (guess_break (d:=x0) c2 rY HD.out.2.2 hb) HD.out.2.1)
       have hb': (4294967296:Int)≤(rn:Int) + (a:Int):=by omega
       go_wp2_with fail
       go_meet
       exact⟨qn - 1,rn+a,by go_num,by go_num,HF.out,rfl⟩
      ·have hb': ¬(4294967296:Int)≤(rn:Int) + (a:Int):=by omega
       go_wp2_with fail
       go_round
       case rel=>exact⟨qn - 1,rn+a,by go_num,by go_num,HD.out.2.2,HD.out.2.1,by omega⟩
       case measure=>simp [intOf];omega
     ·have hR:qn*c≤18446744073709551615:=by
       have h1:qn*c≤4294967295*c:=Nat.mul_le_mul_right _ (by omega);omega
      have e12: (qn:Int) * (c:Int) = ((qn*c:Nat) :Int):=by push_cast;rfl
      have hqd:decide ((4294967296:Int)≤(qn:Int)) =false:=by simp;omega
      have hqn:qn≤4294967295:=by omega
      clear hq;obtain⟨R,hRe⟩ : ∃R,R=qn*c:=⟨_,rfl⟩;rw [←hRe] at e12 hR;by_cases ht:4294967296*rn+x0<R
      ·have HD:=LH (HG.out.down xx0 rY (.inr (by rw [←hRe];exact ht)))
       have g3:=HD.out.1;have ht':decide ((4294967296:Int) * (rn:Int) + (x0:Int) < (R:Int)) =true:=by simp;omega
       clear ht;clear hRe;by_cases hb:4294967296≤rn+a
       ·have HF:=LH (Nat.le_antisymm (guess_break (d:=x0) c2 rY HD.out.2.2 hb) HD.out.2.1)
        have hb': (4294967296:Int)≤(rn:Int) + (a:Int):=by omega
        go_wp2_with fail
        go_meet
        exact⟨qn - 1,rn+a,by go_num,by go_num,HF.out,rfl⟩
       ·have hb': ¬(4294967296:Int)≤(rn:Int) + (a:Int):=by omega
        go_wp2_with fail
        go_round
        case rel=>exact⟨qn - 1,rn+a,by go_num,by go_num,HD.out.2.2,HD.out.2.1,by omega⟩
        case measure=>simp [intOf];omega
      ·have HF:=LH (HG.out.fin (by omega) (by rw [←hRe];omega))
       have ht':decide ((4294967296:Int) * (rn:Int) + (x0:Int) < (R:Int)) =false:=by simp;omega
       clear ht;clear hRe;go_wp2_with fail
       go_meet
       exact⟨qn,rn,rfl,rfl,HF.out,rfl⟩
   case rest=>
    obtain⟨qm,rm,rfl,rfl,hq,rfl⟩:=hcut;have HQ2:=LH hq;have hqd:=quot_digit xx0 rY;rw [←hq] at hqd;have hqd2:qm≤4294967295:=by omega
    obtain⟨z,hz⟩ : ∃z,z= (r*4294967296+x0) % (a*4294967296+c):=⟨_,rfl⟩;have e21:=left_over (by omega) (by omega) hq hz;have zY:z<a*4294967296+c:=by rw [hz];exact Nat.mod_lt _ (by omega)
    have HZ:=LH hz;clear hq hqd hz f8 f9 f11 e20;go_wp2_with fail
    go_ret2
    have h1:=HE.out;rw [←HQ.out,←HR.out,←HQ2.out,←HZ.out] at h1;refine⟨?_,bE⟩;rw [h1.1,h1.2];simp
def upV (a b c:Nat) :Nat:=a*b / c+if a*b % c=0 then 0 else 1
theorem part_le {a b c:Nat} (hac:a≤c) (hc:1≤c) :a*b / c≤b:=by
 have h1:a*b≤b*c:=by rw [Nat.mul_comm b];exact Nat.mul_le_mul_right _ hac
 exact(Nat.div_le_iff_le_mul_add_pred (by omega)).2 (by rw [Nat.mul_comm c];omega)
theorem part_lt {a b c:Nat} (hac:a≤c) (hc:1≤c) (h:a*b % c≠0) :a*b / c<b:=by
 refine Nat.lt_of_le_of_ne (part_le hac hc) fun e=>h ?_;have h1:a*b≤c*b:=Nat.mul_le_mul_right _ hac;have h2:=Nat.div_mul_le_self (a*b) c;rw [e,Nat.mul_comm b] at h2;rw [Nat.le_antisymm h1 h2];exact Nat.mul_mod_right _ _
theorem up_le {a b c:Nat} (hac:a≤c) (hc:1≤c) :upV a b c≤b:=by
 unfold upV
 split
 ·exact part_le hac hc
 ·rename_i h;exact part_lt hac hc h
theorem reckon_share (w:World) (a b c:Nat) (hb:b≤9223372036854775807) (hc:1≤c) (hc2:c≤9223372036854775807) (hac:a≤c) :
 Calls Tryz.prog 95 #[.int .i64 a,.int .i64 b,.int .i64 c] w fun e w'=>e=.returned (.tuple #[.int .u64 (a*b / c:Nat),.int .u64 (a*b % c:Nat),.bool true])∧Below w.heap.size w w':=by
 have ha:a≤9223372036854775807:=by omega
 have HC:=LH (show decide (0≤(a:Int)∧0≤(b:Int)) =true by simp);have HM:Hid (∀W,Calls Tryz.prog 125 #[.int .u64 a,.int .u64 b] W fun e w'=>e=.returned (.tuple #[.int .u64 (a*b / 18446744073709551616:Nat),.int .u64 (a*b % 18446744073709551616:Nat)])∧w'=W):=LH fun W=>Tryz.bits_Mul64 a b (by omega) (by omega) W;have h1:a*b≤c*9223372036854775807:=Nat.mul_le_mul hac hb;have hhi:a*b / 18446744073709551616<c:=by omega
 have hlo:a*b % 18446744073709551616≤18446744073709551615:=by omega
 have hD:=LH (fun w=>bits_Div64 w (a*b / 18446744073709551616) (a*b % 18446744073709551616) c (by omega) hhi (by omega));rw [Nat.div_add_mod'] at hD;have hr0:a*b % c≤c:=by have:=Nat.mod_lt (a*b) (show c>0 by omega);omega
 have hql:=part_le (b:=b) hac hc;clear h1;generalize a*b / 18446744073709551616=hi at HM hhi hD;generalize a*b % 18446744073709551616=lo at HM hlo hD;generalize a*b / c=q at hD hql⊢;generalize a*b % c=r at hD hr0⊢;have hhi':decide ((c:Int)≤(hi:Int)) =false:=by simp;omega
 go_enter Tryz.func95,Tryz.ntmps95
 go_wp2_with fail;refine(reckon_counts _ a b).mono ?_;rintro e w1 ⟨rfl,hb1⟩;have B1:Below w.heap.size w w1:=Below.then_ bE hb1;have s1:=B1.size;rw [HC.out];go_wp2_with fail;refine(HM.out _).mono ?_;rintro e w2 ⟨rfl,rfl⟩;go_wp2_with fail;refine(hD.out _).mono ?_;rintro e w3 ⟨rfl,hb3⟩;have B3:Below w.heap.size w w3:=Below.then_ bE hb3;have s3:=B3.size;go_wp2_with fail
 go_ret3
 exact⟨rfl,bE⟩
theorem reckon_Part (w:World) (a b c:Nat) (hb:b≤9223372036854775807) (hc:1≤c) (hc2:c≤9223372036854775807) (hac:a≤c) :
 Calls Tryz.prog 123 #[.int .i64 a,.int .i64 b,.int .i64 c] w fun e w'=>e=.returned (.tuple #[.int .i64 (a*b / c:Nat),.bool true])∧Below w.heap.size w w':=by
 have HS:=LH (reckon_share · a b c hb hc hc2 hac);have hql:=part_le (b:=b) hac hc;generalize a*b / c=q at HS hql⊢;generalize a*b % c=r at HS
 go_enter Tryz.func123,Tryz.ntmps123
 go_wp2_with fail;refine(HS.out _).mono ?_;rintro e w1 ⟨rfl,hb1⟩;have B1:Below w.heap.size w w1:=Below.then_ bE hb1;have s1:=B1.size;go_wp2_with fail;refine(reckon_count _ q (by omega)).mono ?_;rintro e w2 ⟨rfl,hb2⟩;have B2:Below w.heap.size w w2:=Below.then_ bE hb2;have s2:=B2.size;go_wp2_with fail
 go_ret2
 exact⟨rfl,B2⟩
theorem reckon_PartUp (w:World) (a b c:Nat) (hb:b≤9223372036854775807) (hc:1≤c) (hc2:c≤9223372036854775807) (hac:a≤c) :
 Calls Tryz.prog 36 #[.int .i64 a,.int .i64 b,.int .i64 c] w fun e w'=>e=.returned (.tuple #[.int .i64 (upV a b c:Nat),.bool true])∧Below w.heap.size w w':=by
 have HS:=LH (reckon_share · a b c hb hc hc2 hac);have hql:=part_le (b:=b) hac hc;have hqr:a*b % c≠0→a*b / c<b:=fun h=>part_lt hac hc h;have hr0:a*b % c≤c:=by have:=Nat.mod_lt (a*b) (show c>0 by omega);omega
 unfold upV;generalize a*b / c=q at HS hql hqr⊢;generalize a*b % c=r at HS hqr hr0⊢;by_cases h:r=0
 ·subst h
  rw [if_pos rfl]
  go_enter Tryz.func36,Tryz.ntmps36
  go_wp2_with fail;refine(HS.out _).mono ?_;rintro e w1 ⟨rfl,hb1⟩;have B1:Below w.heap.size w w1:=Below.then_ bE hb1;have s1:=B1.size;go_wp2_with fail;refine(reckon_count _ q (by omega)).mono ?_;rintro e w2 ⟨rfl,hb2⟩;have B2:Below w.heap.size w w2:=Below.then_ bE hb2;have s2:=B2.size;go_wp2_with fail
  go_ret2
  exact⟨rfl,B2⟩
 ·rw [if_neg h]
  have hq2:=hqr h;have h0: (0:Int) < (r:Int):=by omega
  clear hqr h;have HK:=LH (reckon_count · (q+1) (by omega))
  push_cast at HK⊢
  go_enter Tryz.func36,Tryz.ntmps36
  go_wp2_with fail;refine(HS.out _).mono ?_;rintro e w1 ⟨rfl,hb1⟩;have B1:Below w.heap.size w w1:=Below.then_ bE hb1;have s1:=B1.size;go_wp2_with fail;refine(HK.out _).mono ?_;rintro e w2 ⟨rfl,hb2⟩;have B2:Below w.heap.size w w2:=Below.then_ bE hb2;have s2:=B2.size;go_wp2_with fail
  go_ret2
  exact⟨rfl,B2⟩
def inLow (a b lo hi:Int) :Bool:=decide (a≤lo) && decide (hi≤b)
def inHigh (a b lo hi:Int) :Bool:=decide (lo≤b) && decide (a≤hi)
def betwLow (l:Int) (r:List Nd) (a b:Int) :Int:=weighR l (inLow a b) r
def betwHigh (l:Int) (r:List Nd) (a b:Int) :Int:=weighR l (inHigh a b) r
theorem weighR_one (l:Int) (f:Int→Int→Bool) (x:Nd) :weighR l f [x] =if f (endsOf l x.1).1 (endsOf l x.1).2.1=true then x.2 else 0:=by simp only [weighR];simp
theorem weighR_take {l:Int} {f:Int→Int→Bool} {r:List Nd} {q:Nat} (h:q<r.length) :weighR l f (r.take (q+1)) =weighR l f (r.take q) +if f (endsOf l r[q].1).1 (endsOf l r[q].1).2.1=true then r[q].2 else 0:=by
 rw [List.take_succ_eq_append_getElem h,weighR_append,weighR_one]
theorem le_or_dec (a b:Int) :a≤b∨decide (a≤b) =false:=by
 by_cases h:a≤b
 ·exact .inl h
 ·exact .inr (decide_eq_false h)
theorem reach_Between1 (w:World) (id l a b:Int) (p q s:Nat) (hid:id≤9223372036854775807) (h1:w.cell? ⟨p,0,none⟩ =some (.int .i64 l)) (h2:w.cell? ⟨q,0,none⟩ =some (.int .i64 a)) (h3:w.cell? ⟨s,0,none⟩ =some (.int .i64 b)) :
 Calls Tryz.prog 31 #[.int .i64 id,.pointer (some ⟨p,0,none⟩),.pointer (some ⟨q,0,none⟩),.pointer (some ⟨s,0,none⟩)] w fun e w'=>e=.returned (.tuple #[.bool (inLow a b (endsOf l id).1 (endsOf l id).2.1),.bool (inHigh a b (endsOf l id).1 (endsOf l id).2.1)])∧Below w.heap.size w w':=by
 have HE:=LH (twig_Ends · l id hid);have zq:=lt_of_cell h2;have zs:=lt_of_cell h3;generalize endsOf l id=t at HE⊢;obtain⟨lo,hi,ok⟩:=t;unfold endsV at HE;simp only [inLow,inHigh];have H2:=LH h2;have H3:=LH h3;clear h2 h3;rcases le_or_dec a lo with k1|k1
 all_goals rcases le_or_dec lo b with k2|k2
 all_goals (
  go_enter Tryz.func31,Tryz.ntmps31
  go_wp2_with fail;refine(HE.out _).mono ?_;rintro e w1 ⟨rfl,hb1⟩;have B1:Below w.heap.size w w1:=Below.then_ bE hb1;have s1:=B1.size;have c2:=(hb1.cell (p:=⟨q,0,none⟩) zq).trans H2.out;have c3:=(hb1.cell (p:=⟨s,0,none⟩) zs).trans H3.out;have z2:=Nat.lt_of_lt_of_le zq s1;have z3:=Nat.lt_of_lt_of_le zs s1;go_wp2_with fail;refine rX (by kernel_rfl) (by kernel_rfl) ?_
  repeat (go_big_quiet_step (fail))
  refine wpQuiet_nil ?_;intro w2 hb2;replace hb2:=bX hb2;have B2:Below w.heap.size w w2:=Below.then_ bE hb2;have s2:=B2.size;go_wp2_with fail
  go_ret2
  exact⟨by simp [k1,k2],B2⟩)
def bothAt (w:World) (b:Nat) (lo hi:Int) :Prop:=w.heap[b]? =some (.cells #[.int .i64 lo,.int .i64 hi] 40 (0,0))
theorem bothAt.below {w w':World} {b:Nat} {lo hi:Int} (h:bothAt w b lo hi) (hb:Below w.heap.size w w') :bothAt w' b lo hi:=bB h hb
theorem bothAt.alloc {w:World} {b:Nat} {lo hi:Int} (h:bothAt w b lo hi) (o:Obj) :bothAt (w.alloc o) b lo hi:=h.below ((Below.refl _ _).alloc (Nat.le_refl _) o)
theorem bothAt.set0 {w:World} {b:Nat} {lo hi:Int} (h:bothAt w b lo hi) (x:Int) :bothAt (w.setCell ⟨b,0,none⟩ (.int .i64 x)) b x hi:=zH (i:=0) h _
theorem bothAt.set1 {w:World} {b:Nat} {lo hi:Int} (h:bothAt w b lo hi) (x:Int) :bothAt (w.setCell ⟨b,1,none⟩ (.int .i64 x)) b lo x:=zH (i:=1) h _
theorem bothAt.set {w:World} {b q o:Nat} {lo hi:Int} (h:bothAt w b lo hi) (hne:b≠q) (u:Value) :bothAt (w.setCell ⟨q,o,none⟩ u) b lo hi:=(Below.heap_setCell _ _ _ _ hne).trans h
theorem bothAt.new (w:World) (lo hi:Int) :bothAt (w.alloc (.cells #[.int .i64 lo,.int .i64 hi] 40)) w.heap.size lo hi:=heap_alloc_new _ _
theorem sum_Between (w:World) (g K l:Nat) (k:Int) (r:List Nd) (F:Nat→Prop) (a b:Int) (p q s:Nat) (h:DigAt w g K l k r F) (hn:r.length≤67108864) (h1:w.cell? ⟨p,0,none⟩ =some (.int .i64 l)) (h2:w.cell? ⟨q,0,none⟩ =some (.int .i64 a)) (h3:w.cell? ⟨s,0,none⟩ =some (.int .i64 b)) :
 Calls Tryz.prog 30 #[.pointer (some ⟨g,0,none⟩),.func (.func 31) #[] #[.pointer (some ⟨p,0,none⟩),.pointer (some ⟨q,0,none⟩),.pointer (some ⟨s,0,none⟩)]] w fun e w'=>e=.returned (.agg #[.int .i64 (betwLow l r a b),.int .i64 (betwHigh l r a b)])∧Below w.heap.size w w':=by
 have hf:=h.fits;have hll:=h.l_le;have HD:=LH h;have z1:=lt_of_cell h1;have z2:=lt_of_cell h2;have z3:=lt_of_cell h3;have H1:=LH h1;have H2:=LH h2;have H3:=LH h3;clear h h1 h2 h3
 go_enter Tryz.func30,Tryz.ntmps30
 go_wp2_with fail;have B0:Below w.heap.size w ((w.alloc (.cells #[.int .i64 0,.int .i64 0] 40)).alloc (.cells #[.int .i64 0,.int .i64 0] 40)):=bE;have K0:=LH ((bothAt.new w 0 0).alloc (.cells #[.int .i64 0,.int .i64 0] 40));have K1:=LH (bothAt.new (w.alloc (.cells #[.int .i64 0,.int .i64 0] 40)) 0 0);simp only [World.size_alloc] at K1;refine(digest_Nodes _ g K l k r F (HD.out.below B0) hn).mono ?_;rintro e w2 ⟨v,rfl,ho,hb2⟩;have B2:Below w.heap.size w w2:=Below.then_ bE hb2;have s2:=B2.size;have HO:=LH ho;simp only [World.size_alloc] at HO;have M0:=LH (K0.out.below hb2);have M1:=LH (K1.out.below hb2);have z0:w.heap.size+2≤w2.heap.size:=by have:=hb2.size;simp at this;omega
 obtain⟨A,cap,rfl,_⟩:=ho.form;clear ho K0 K1 hb2 B0;go_wp2_with fail
 go_loopw [13] (fun i wr=>∃q:Nat,q≤r.length∧i=.int .i64 q∧bothAt wr w.heap.size 0 0∧bothAt wr (w.heap.size+1) (betwLow l (r.take q) a b) (betwHigh l (r.take q) a b)∧Own wr (w.heap.size+1+1) 77 encN (.slice A r.length cap) r∧Below w.heap.size w wr) (fun i _=>r.length - (intOf i).toNat)
 case atStart=>exact⟨0,Nat.zero_le _,rfl,M0.out,M1.out,HO.out,B2⟩
 case round=>
  obtain⟨j,hj,rfl,hm0,hm1,hown,hB⟩:=hrel;have KO:=LH hown;have N0:=LH hm0;have N1:=LH hm1;have hs:=hB.size;have zn1:=lB hm1;clear hown hm0;by_cases hlt:j<r.length
  ·obtain⟨c,off,rfl,hc,hcl⟩:=KO.out.sl.at_ hlt
   have d0:=hcl 0 (.int .i64 r[j].1) rfl;have d1:=hcl 1 (.int .i64 r[j].2) rfl;simp only [Nat.add_zero] at d0;have hx:=hf.roll.2 _ (List.getElem_mem hlt);have hxl:=hf.lt _ (List.getElem_mem hlt);have e1:=sumR_take_succ hlt;have e2:=sumR_take_le hf.roll (j+1);have e3:=hf.sum;have e5:=weighR_le (l:=l) (f:=inLow a b) (hf.roll.take j);have e6:=weighR_le (l:=l) (f:=inHigh a b) (hf.roll.take j);have E7:betwLow l (r.take (j+1)) a b=_:=weighR_take hlt;have E8:betwHigh l (r.take (j+1)) a b=_:=weighR_take hlt;have hp:=pow_48 (n:=l) hll.2;unfold betwLow at hm1 N1 E7⊢;unfold betwHigh at hm1 N1 E8⊢;obtain⟨x,hxe⟩ : ∃x,x=r[j]:=⟨_,rfl⟩;rw [←hxe] at d0 d1 hx hxl e1 E7 E8;have n2:weighR l (inLow a b) (r.take j) +x.2≤72057594037927935:=by omega
   have n3:weighR l (inHigh a b) (r.take j) +x.2≤72057594037927935:=by omega
   have n0:=e5.1;have n1:=e6.1;have hx1:x.1≤562949953421312:=by omega
   have hx2:=hx.2;have HC:=LH (fun W=>reach_Between1 W x.1 l a b p q s (by omega));generalize weighR l (inLow a b) (r.take j) =m at n0 n2 E7 hm1 N1;generalize weighR l (inHigh a b) (r.take j) =n at n1 n3 E8 hm1 N1;generalize inLow a b (endsOf l x.1).1 (endsOf l x.1).2.1=bl at E7 HC;generalize inHigh a b (endsOf l x.1).1 (endsOf l x.1).2.1=bh at E8 HC;have E7:=LH E7;have E8:=LH E8;clear hcl e1 e2 e3 e5 e6 hxe hxl hp hx hm1;go_wp2_with fail;have W3:Below w.heap.size w (wr.alloc (.cells #[.int .i64 x.1,.int .i64 x.2] 77)):=hB.alloc hs _;refine(HC.out _ ((W3.cell (p:=⟨p,0,none⟩) z1).trans H1.out) ((W3.cell (p:=⟨q,0,none⟩) z2).trans H2.out) ((W3.cell (p:=⟨s,0,none⟩) z3).trans H3.out)).mono ?_;rintro e w4 ⟨rfl,hb4⟩;have B4:Below w.heap.size w w4:=Below.then_ bE hb4;have s4:=B4.size;have z4_0:wr.heap.size<w4.heap.size:=by have:=hb4.size;(try simp at this);omega
   have y4_0:wr.heap.size≤w4.heap.size:=Nat.le_of_lt z4_0;have c4_0:=czB hb4 (wr.heap.size);have f4_0:=fzB hb4 (wr.heap.size);have L0:=LH ((N0.out.alloc _).below hb4);have l1:=(N1.out.alloc _).below hb4;have L1:=LH l1;have LO:=LH ((KO.out.alloc _).below hb4);have cc:=bC l1;have cf:=bF l1;have zz:=lB l1;have hne:w.heap.size≠w.heap.size+1:=by omega
   clear l1 hb4
   cases bl
   all_goals cases bh
   all_goals (
    go_wp2_with fail;go_roundw
    case rel=>
     have F7:=E7.out;have F8:=E8.out;simp only [Bool.false_eq_true,if_false,if_true,Int.add_zero,reduceIte] at F7 F8;refine⟨j+1,by omega,by go_num,?_,?_,?_,bE⟩
     ·first
       |exact L0.out
       |exact L0.out.set hne _
       |exact(L0.out.set hne _).set hne _
     ·rw [F7,F8]
      first
       |exact L1.out
       |exact L1.out.set0 _
       |exact L1.out.set1 _
       |exact(L1.out.set0 _).set1 _
     ·first
       |exact LO.out
       |exact LO.out.setCellB (by simp only;omega)
       |exact(LO.out.setCellB (by simp only;omega)).setCellB (by simp only;omega)
    case measure=>simp [intOf];omega)
  ·obtain rfl:j=r.length:=by omega
   rw [List.take_length] at N1 hm1;have cc:=bC hm1;have cf0:=bF N0.out;have cc0:=bC N0.out;have zn0:=lB N0.out;clear hm1;go_wp2_with fail;exact bR (v:=.agg #[.int .i64 (betwLow l r a b),.int .i64 (betwHigh l r a b)]) (by simp only [results,Tryz.results30];go_simp) rfl ⟨rfl,bE⟩
def betw (l:Int) (r:List Nd) (a b:Int) :Int×Int×Int:=if b<a then (0,0,2) else (betwLow l r a b,betwHigh l r a b,0)
def share (l:Int) (r:List Nd) (a b d:Int) :Int×Int×Int:=
 if sumR r=0 then (0,0,7) else if d<1∨b<a then (0,0,2) else (((betwLow l r a b).toNat*d.toNat / (sumR r).toNat:Nat),(upV (betwHigh l r a b).toNat d.toNat (sumR r).toNat:Nat),0)
def bothV (t:Int×Int×Int) :Value:=.tuple #[.agg #[.int .i64 t.1,.int .i64 t.2.1],.int .i64 t.2.2]
theorem betw_no {l a b:Int} {r:List Nd} (h:b<a) :bothV (betw l r a b) =.tuple #[.agg #[.int .i64 0,.int .i64 0],.int .i64 2]:=by unfold betw;rw [if_pos h];rfl
theorem betw_yes {l a b:Int} {r:List Nd} (h: ¬b<a) :bothV (betw l r a b) =.tuple #[.agg #[.int .i64 (betwLow l r a b),.int .i64 (betwHigh l r a b)],.int .i64 0]:=by unfold betw;rw [if_neg h];rfl
theorem reach_Between (w:World) (g K l:Nat) (k:Int) (r:List Nd) (F:Nat→Prop) (a b:Int) (h:DigAt w g K l k r F) (hn:r.length≤67108864) :
 Calls Tryz.prog 8 #[.pointer (some ⟨g,0,none⟩),.int .i64 a,.int .i64 b] w fun e w'=>e=.returned (bothV (betw l r a b))∧Below w.heap.size w w':=by
 have HD:=LH h;clear h;by_cases hab:b<a
 ·rw [betw_no hab]
  go_enter Tryz.func8,Tryz.ntmps8
  go_wp2_with fail;exact bR (v:=.tuple #[.agg #[.int .i64 0,.int .i64 0],.int .i64 2]) (by simp only [results,Tryz.results8];go_simp) rfl ⟨rfl,bE⟩
 ·rw [betw_yes hab]
  have h1:decide (b<a) =false:=by simpa using hab
  have hba:a≤b:=by omega
  clear hab
  go_enter Tryz.func8,Tryz.ntmps8
  go_wp2_with fail;have B0:Below w.heap.size w (((w.alloc (.cells #[.int .i64 a] 3)).alloc (.cells #[.int .i64 b] 3)).alloc (.cells #[.int .i64 0,.int .i64 0] 40)):=bE;have ca: (((w.alloc (.cells #[.int .i64 a] 3)).alloc (.cells #[.int .i64 b] 3)).alloc (.cells #[.int .i64 0,.int .i64 0] 40)).cell? ⟨w.heap.size,0,none⟩ =some (.int .i64 a):=by go_simp
  have cb: (((w.alloc (.cells #[.int .i64 a] 3)).alloc (.cells #[.int .i64 b] 3)).alloc (.cells #[.int .i64 0,.int .i64 0] 40)).cell? ⟨w.heap.size+1,0,none⟩ =some (.int .i64 b):=by go_simp
  have HA:=LH ca;have HB:=LH cb;clear ca cb;refine(digest_Conf _ g K l k r F (HD.out.below B0)).mono ?_;rintro e w1 ⟨rfl,hb1⟩;have B1:Below w.heap.size w w1:=Below.then_ bE hb1;have s1:=B1.size;have z1_0:w.heap.size<w1.heap.size:=by have:=hb1.size;(try simp at this);omega
  have y1_0:w.heap.size≤w1.heap.size:=Nat.le_of_lt z1_0;have c1_0:=czB hb1 (w.heap.size);have f1_0:=fzB hb1 (w.heap.size);have z1_1:w.heap.size+1<w1.heap.size:=by have:=hb1.size;(try simp at this);omega
  have y1_1:w.heap.size+1≤w1.heap.size:=Nat.le_of_lt z1_1;have c1_1:=czB hb1 (w.heap.size+1);have f1_1:=fzB hb1 (w.heap.size+1);have z1_2:w.heap.size+1+1<w1.heap.size:=by have:=hb1.size;(try simp at this);omega
  have y1_2:w.heap.size+1+1≤w1.heap.size:=Nat.le_of_lt z1_2;have c1_2:=czB hb1 (w.heap.size+1+1);have f1_2:=fzB hb1 (w.heap.size+1+1);have KD:=LH ((HD.out.below B1).below ((Below.refl w1.heap.size w1).alloc (Nat.le_refl _) (.cells #[.int .i64 l] 3)));have WA:=(Below.refl w1.heap.size w1).alloc (Nat.le_refl _) (.cells #[.int .i64 l] 3);have ca:=(WA.cell (p:=⟨w.heap.size,0,none⟩) z1_0).trans ((c1_0 0).trans HA.out);have cb:=(WA.cell (p:=⟨w.heap.size+1,0,none⟩) z1_1).trans ((c1_1 0).trans HB.out);have HA1:=LH ca;have HB1:=LH cb;clear ca cb WA hb1;go_wp2_with fail;refine(sum_Between _ g K l k r F a b w1.heap.size w.heap.size (w.heap.size+1) KD.out hn (by go_simp) HA1.out HB1.out).mono ?_;rintro e w2 ⟨rfl,hb2⟩;have B2:Below w.heap.size w w2:=Below.then_ bE hb2;have s2:=B2.size;have z2_0:w.heap.size+1+1<w2.heap.size:=by have:=hb2.size;(try simp at this);omega
  have y2_0:w.heap.size+1+1≤w2.heap.size:=Nat.le_of_lt z2_0;have c2_0:=czB hb2 (w.heap.size+1+1);have f2_0:=fzB hb2 (w.heap.size+1+1);go_wp2_with fail;exact bR (v:=.tuple #[.agg #[.int .i64 (betwLow l r a b),.int .i64 (betwHigh l r a b)],.int .i64 0]) (by simp only [results,Tryz.results8];go_simp) rfl ⟨rfl,bE⟩
theorem weighR_mono {l:Int} {f g:Int→Int→Bool} {r:List Nd} (h:Roll r) (hfg: ∀x∈r,f (endsOf l x.1).1 (endsOf l x.1).2.1=true→g (endsOf l x.1).1 (endsOf l x.1).2.1=true) :weighR l f r≤weighR l g r:=by
 induction r with
 |nil=>simp [weighR]
 |cons x r ih=>
  have hx:=h.2 x (by simp);have h1:=hfg x (by simp);have h2:=ih h.tail fun y hy=>hfg y (by simp [hy]);simp only [weighR];by_cases hf:f (endsOf l x.1).1 (endsOf l x.1).2.1=true
  ·rw [if_pos hf,if_pos (h1 hf)];omega
  ·rw [if_neg hf];split <;> omega
theorem weighR_all {l:Int} {f:Int→Int→Bool} {r:List Nd} (h: ∀x∈r,f (endsOf l x.1).1 (endsOf l x.1).2.1=true) :weighR l f r=sumR r:=by
 induction r with
 |nil=>rfl
 |cons x r ih=>
  simp only [weighR,sumR];rw [if_pos (h x (by simp)),ih fun y hy=>h y (by simp [hy])]
theorem weighR_none {l:Int} {f:Int→Int→Bool} {r:List Nd} (h: ∀x∈r,f (endsOf l x.1).1 (endsOf l x.1).2.1=false) :weighR l f r=0:=by
 induction r with
 |nil=>rfl
 |cons x r ih=>
  simp only [weighR];rw [if_neg (by rw [h x (by simp)];simp),ih fun y hy=>h y (by simp [hy])];rfl
theorem ends_bounds {l:Nat} {id:Int} (h:isNode l id=true) :0≤(endsOf l id).1∧(endsOf l id).1≤(endsOf l id).2.1∧(endsOf l id).2.1≤2^l - 1:=by
 obtain⟨n,x,hn,rfl,hn1,hn2,hx1,hx2⟩:=isNode_nat h;obtain rfl:n=l:=by omega
 obtain⟨d,b,t,hd,hb,hdb,hxt,htd,hprod⟩:=node_facts hn2 hx1 hx2
 have e1:endsOf n x= ((t:Int) *2^b,(t:Int) *2^b+2^b - 1,true):=by
  simp only [endsOf,h,if_true,Int.toNat_natCast,hd,hb];have: (x:Int) - 2^d=t:=by rw [hxt];push_cast;omega
  rw [this]
 rw [e1];have q3:=pow_pos' b
 have q8: (t:Int) *2^b+2^b≤2^n:=by
  have h: (((t+1) *2^b:Nat) :Int)≤((2^n:Nat) :Int):=by exact_mod_cast hprod
  push_cast at h
  rw [Int.add_mul,Int.one_mul] at h;exact h
 have q9:0≤(t:Int) *2^b:=Int.mul_nonneg (by omega) (by omega);simp only;omega
theorem right_node {l:Int} {r:List Nd} (h:rightOf l r=true) : ∀x∈r,isNode l x.1=true:=by
 simp only [rightOf,Bool.and_eq_true] at h;intro x hx;exact((rises_roll h.1.1).1 x hx).2.1
theorem low_high {l:Nat} {r:List Nd} (h:Roll r) (hr:rightOf l r=true) (a:Int) :lowOf l r a≤highOf l r a:=weighR_mono h fun x hx h1=>by
 have:=ends_bounds (right_node hr x hx);simp at h1⊢;omega
theorem low_top {l:Nat} {r:List Nd} (hr:rightOf l r=true) {a:Int} (ha:2^l - 1≤a) :lowOf l r a=sumR r:=weighR_all fun x hx=>by
 have:=ends_bounds (right_node hr x hx);simp;omega
def rightE (l:Nat) (p:Int) :List Int→Bool
 | []=>true
 |x :: r=>(decide (0≤x) && decide (x<2^l) && decide (p<x)) && rightE l x r
def prevE (es:List Int) (q:Nat) :Int:=if q=0 then -1 else es.getD (q - 1) 0
theorem prevE_succ {es:List Int} {q:Nat} (h:q<es.length) :prevE es (q+1) =es[q]:=by
 unfold prevE;rw [if_neg (by omega),Nat.add_sub_cancel,List.getD_eq_getElem?_getD,List.getElem?_eq_getElem h];rfl
theorem prevE_at {es:List Int} {q:Nat} (h:q<es.length) (h0:0<q) :prevE es q=es[q - 1]:=by
 unfold prevE;rw [if_neg (by omega),List.getD_eq_getElem?_getD,List.getElem?_eq_getElem (by omega)];rfl
theorem rightE_drop {l:Nat} {es:List Int} {q:Nat} (h:q<es.length) :rightE l (prevE es q) (es.drop q) = ((decide (0≤es[q]) && decide (es[q] <2^l) && decide (prevE es q<es[q])) && rightE l (prevE es (q+1)) (es.drop (q+1))):=by
 rw [List.drop_eq_getElem_cons h,prevE_succ h];rfl
def lowN (l:Int) (r:List Nd) (es:List Int) :Nat→Int
 |0=>0
 |q+1=>if h:q<es.length then lowOf l r es[q] else sumR r
def binAt (l:Int) (r:List Nd) (es:List Int) (q:Nat) :Int:=lowN l r es (q+1) - lowN l r es q
def binsL (l:Int) (r:List Nd) (es:List Int) :List Int:=(List.range (es.length+1)).map (binAt l r es)
def runAt (l:Nat) (es:List Int) (q:Nat) :Int×Int:=(if q=0 then 0 else es.getD (q - 1) 0+1,if q<es.length then es.getD q 0 else 2^l - 1)
def runsL (l:Nat) (es:List Int) :List (Int×Int):=(List.range (es.length+1)).map (runAt l es)
theorem runsL_len (l:Nat) (es:List Int) : (runsL l es).length=es.length+1:=by simp [runsL]
theorem map_range_succ {α:Type} (f:Nat→α) (q:Nat) : (List.range (q+1)).map f= (List.range q).map f ++ [f q]:=by rw [List.range_succ,List.map_append];rfl
def binStep (l:Int) (r:List Nd) (a:List Int×Int) (p:Int×Int) :List Int×Int:=(a.1 ++ [lowOf l r p.2 - a.2],lowOf l r p.2)
def binFold (l:Int) (r:List Nd) (ps:List (Int×Int)) :List Int×Int:=ps.foldl (binStep l r) ([],0)
theorem binFold_snoc (l:Int) (r:List Nd) (ps:List (Int×Int)) (p:Int×Int) :binFold l r (ps ++ [p]) =binStep l r (binFold l r ps) p:=by
 unfold binFold;rw [List.foldl_append];rfl
theorem binFold_len (l:Int) (r:List Nd) (ps:List (Int×Int)) : (binFold l r ps).1.length=ps.length:=by
 suffices h: ∀(a:List Int×Int),(ps.foldl (binStep l r) a).1.length=a.1.length+ps.length by
  have:=h ([],0);unfold binFold
  simpa using this
 induction ps with
 |nil=>intro a;simp
 |cons p ps ih=>intro a;rw [List.foldl_cons,ih];simp [binStep];omega
theorem binFold_range {l:Nat} {r:List Nd} (hr:rightOf l r=true) (es:List Int) (q:Nat) (hq:q≤es.length+1) :binFold l r ((List.range q).map (runAt l es)) = ((List.range q).map (binAt l r es),lowN l r es q):=by
 induction q with
 |zero=>rfl
 |succ q ih=>
  rw [map_range_succ,binFold_snoc,ih (by omega),map_range_succ]
  have e:lowOf l r (runAt l es q).2=lowN l r es (q+1):=by
   unfold runAt;simp only [lowN];by_cases h:q<es.length
   ·rw [dif_pos h,if_pos h,List.getD_eq_getElem?_getD,List.getElem?_eq_getElem h];rfl
   ·rw [dif_neg h,if_neg h]
    exact low_top hr (by omega)
  simp only [binStep,binAt,e]
theorem binFold_runs {l:Nat} {r:List Nd} (hr:rightOf l r=true) (es:List Int) : (binFold l r (runsL l es)).1=binsL l r es:=by
 unfold runsL;rw [binFold_range hr es _ (Nat.le_refl _)];rfl
def lessE (es:List Int) (at_:Nat) :List Int:=es.take at_ ++ es.drop (at_+1)
section
attribute [local go_sem] Oper.semAt_some
theorem bins_runs (w:World) (l:Int) (A:Option Addr) (n cap:Nat) :Calls Tryz.prog 34 #[.int .i64 l,.slice A n cap] w fun e w'=>e=.returned (.func (.func 92) #[] #[.pointer (some ⟨w.heap.size+1,0,none⟩),.pointer (some ⟨w.heap.size,0,none⟩)])∧(w.alloc (.cells #[.int .i64 l] 3)).alloc (.cells #[.slice A n cap] 45) =w':=by
 go_enter Tryz.func34,Tryz.ntmps34
 go_wp2_with fail;go_ret;exact⟨rfl,rfl⟩
theorem runAt_fst_succ {l:Nat} {es:List Int} {q:Nat} (h:q<es.length) : (runAt l es (q+1)).1=es[q] +1:=by
 unfold runAt;simp only;rw [if_neg (by omega),Nat.add_sub_cancel,List.getD_eq_getElem?_getD,List.getElem?_eq_getElem h];rfl
theorem runAt_in {l:Nat} {es:List Int} {q:Nat} (h:q<es.length) : (runAt l es q).2=es[q]:=by
 unfold runAt;simp only;rw [if_pos h,List.getD_eq_getElem?_getD,List.getElem?_eq_getElem h];rfl
theorem runAt_last (l:Nat) (es:List Int) : (runAt l es es.length).2=2^l - 1:=by
 unfold runAt;simp
theorem runs_take (l:Nat) (es:List Int) {q:Nat} (h:q≤es.length) : (runsL l es).take q ++ [((runAt l es q).1,(runAt l es q).2)] = (runsL l es).take (q+1):=by
 have hq:q< (runsL l es).length:=by rw [runsL_len];omega
 rw [List.take_succ_eq_append_getElem hq]
 congr 1
 simp [runsL]
theorem runs_stops (n be bl z:Nat) (X:Nat→Prop) (l:Nat) (A:Option Addr) (cap:Nat) (es:List Int) (w:World) (hn:1≤n) (hl:1≤l∧l≤48) (hz:z≤w.heap.size)
 (hbe:w.heap[be]? =some (.cells #[.slice A es.length cap] 45 (0,0))) (hbl:w.heap[bl]? =some (.cells #[.int .i64 l] 3 (0,0))) (hS:SlX w z X A es) (be1:be<z) (be2: ¬X be) (bl1:bl<z) (bl2: ¬X bl) (hes: ∀x∈es,x≤281474976710656) (hes0: ∀x∈es,0≤x) (hlen:es.length≤67108864) :
 SeqStopsK Fence.wide n Tryz.prog 92 #[.pointer (some ⟨be,0,none⟩),.pointer (some ⟨bl,0,none⟩)] (fun x:Int×Int=> #[Value.int .i64 x.1,Value.int .i64 x.2]) (KeepX z X) (fun ys=>ys=runsL l es) (fun pre=>pre <+: runsL l es) (runsL l es).length w:=fun q J Jx W hW hJ hJx hY h0=>by
 have hWz:Below z w W:=hW.mono hz;have ke:=LH (bB hbe hW);have kl:=LH (bB hbl hW);have KS:=LH (hS.below hWz);have ce:=bC ke.out;have HY:=LH hY;have H0:=LH h0;have HES:=LH (And.intro hes hes0);have p1:=pow_pos' l;have p2:=pow_48 hl.2;clear hbe hbl hS hY hJ hJx h0 hes hes0;refine callsIn_of_wp Tryz.func92 rfl trivial ?_ rfl;simp only [Tryz.ntmps92,List.size_toArray,List.length_cons,List.length_nil,Nat.reduceAdd,Nat.reduceSub,Array.replicate_succ,Array.replicate_zero,List.push_toArray,List.append_toArray,List.nil_append,List.cons_append]
 gi_wp2_with fail
 gi_loopw [4,9] (fun f i wr=>∃k:Nat,k≤es.length∧i=.int .i64 k∧f=.int .i64 (runAt l es k).1∧J ((runsL l es).take k) wr∧KeepX z X W wr) (fun _ i _=>es.length - (intOf i).toNat)
 case atStart=>exact⟨0,Nat.zero_le _,rfl,rfl,H0.out,KeepX.refl _⟩
 case round=>
  obtain⟨k,hk,rfl,rfl,hJk,hK⟩:=hrel;have KJ:=LH hJk;have KK:=LH hK;have hT:=runs_take l es hk;have HT:=LH hT;by_cases hlt:k<es.length
  ·obtain⟨b,off,rfl,hb,hc⟩:=(KS.out.keep hK).at_ hlt
   have e1:=runAt_in (l:=l) hlt;have e2:=runAt_fst_succ (l:=l) hlt;have hx1:=HES.out.1 _ (List.getElem_mem hlt);have hx0:=HES.out.2 _ (List.getElem_mem hlt);rw [e1] at hT;obtain⟨x,hx⟩ : ∃x,x=es[k]:=⟨_,rfl⟩;rw [←hx] at hc e1 e2 hx1 hx0 hT;have E2:=LH e2;obtain⟨fn,tmps,assign,body,hy,hR⟩:=HY.out _ ((runAt l es k).1,x) _ KJ.out (by rw [List.length_take,runsL_len];omega);rw [hT] at hR;clear hx e1 e2 hT hJk hK
   gi_wp2_with fail
   refine hR.mono ?_;rintro e w3 (⟨rfl,hJ3,hk3⟩ | ⟨rfl,hJx3⟩)
   ·have K3:=LH (keepX_t KK.out hk3)
    have J3:=LH hJ3;clear hJ3 hk3
    gi_wp2_with fail
    go_roundw
    case rel=>exact⟨k+1,by omega,by go_num,by rw [E2.out],J3.out,K3.out⟩
    case measure=>simp [intOf];omega
   ·have J3:=LH hJx3
    clear hJx3
    gi_wp2_with fail
    refine bR (results_none rfl _ _ _) rfl ?_;exact⟨⟨_,rfl⟩,.inr ⟨_,List.take_prefix _ _,J3.out⟩⟩
  ·obtain rfl:k=es.length:=by omega
   have cl:=hK.cell bl1 bl2 (bC kl.out 0);have e1:=runAt_last l es;rw [e1] at hT;obtain⟨fn,tmps,assign,body,hy,hR⟩:=HY.out _ ((runAt l es es.length).1,2^l - 1) _ KJ.out (by rw [List.length_take,runsL_len];omega);rw [hT,show es.length+1= (runsL l es).length by rw [runsL_len],List.take_length] at hR;clear hT hJk hK e1
   gi_wp2_with fail
   refine hR.mono ?_;rintro e w3 (⟨rfl,hJ3,hk3⟩ | ⟨rfl,hJx3⟩)
   ·have J3:=LH hJ3
    clear hJ3 hk3
    gi_wp2_with fail
    go_end0
    exact⟨⟨_,rfl⟩,.inl ⟨_,rfl,J3.out⟩⟩
   ·have J3:=LH hJx3
    clear hJx3
    gi_wp2_with fail
    go_end0
    exact⟨⟨_,rfl⟩,.inr ⟨_,List.prefix_refl _,J3.out⟩⟩
end

theorem three (p q:Prop) [Decidable p] [Decidable q] : (p∧q)∨(p∧decide q=false)∨decide p=false:=by
 by_cases hp:p
 ·by_cases hq:q
  ·exact .inl ⟨hp,hq⟩
  ·exact .inr (.inl ⟨hp,decide_eq_false hq⟩)
 ·exact .inr (.inr (decide_eq_false hp))
theorem isNode_one {l:Nat} (h1:1≤l) (h2:l≤48) :isNode l 1=true:=by
 have:=pow_pos' l;simp only [isNode,decide_eq_true_eq,Int.toNat_natCast];omega
theorem right_step {l:Nat} {es:List Int} {q:Nat} (h:q<es.length) :
 (isVal l es[q] =true∧(q=0∨prevE es q<es[q])→rightE l (prevE es q) (es.drop q) =rightE l (prevE es (q+1)) (es.drop (q+1)))∧
 (isVal l es[q] =false∨(0<q∧es[q]≤prevE es q)→rightE l (prevE es q) (es.drop q) =false):=by
 rw [rightE_drop h];unfold isVal
 constructor
 ·rintro⟨h1,h2⟩
  simp only [Bool.and_eq_true,decide_eq_true_eq] at h1
  have:prevE es q<es[q]:=by
   rcases h2 with rfl|h2
   ·unfold prevE;simp;omega
   ·exact h2
  simp [h1.1,h1.2,this]
 ·rintro(h1| ⟨h1,h2⟩)
  ·rw [h1];simp
  ·have:decide (prevE es q<es[q]) =false:=by simp;omega
   rw [this];simp
theorem bins_Right (w:World) (l:Nat) (A:Option Addr) (cap:Nat) (es:List Int) (h1:1≤l) (h2:l≤48) (hS:Sl w w.heap.size encZ A es) (hm:es.length≤67108864) :
 Calls Tryz.prog 91 #[.int .i64 l,.slice A es.length cap] w fun e w'=>e=.returned (.bool (rightE l (-1) es))∧Below w.heap.size w w':=by
 have HS:=LH hS;have HL:=LH (twig_Leaf · l · h1 h2);have HU:=LH (isNode_one h1 h2);have HR:=LH (show rightE l (-1) es=rightE l (prevE es 0) (es.drop 0) by simp [prevE]);clear hS
 go_enter Tryz.func91,Tryz.ntmps91
 go_wp2_with fail
 go_loopw [11] (fun i wr=>∃q:Nat,q≤es.length∧i=.int .i64 q∧rightE l (-1) es=rightE l (prevE es q) (es.drop q)∧Below w.heap.size w wr) (fun i _=>es.length - (intOf i).toNat)
 case atStart=>exact⟨0,Nat.zero_le _,rfl,HR.out,Below.refl _ _⟩
 case round=>
  obtain⟨q,hq,rfl,hr,hB⟩:=hrel;have hsz:=hB.size;by_cases hlt:q<es.length
  ·obtain⟨b,off,rfl,hb,hc⟩:=HS.out.at_ hlt
   have d0:=(hB.cell (p:=⟨b,off+q,none⟩) hb).trans (by have:=hc 0 (.int .i64 es[q]) rfl;simpa using this);have lb:b<wr.heap.size:=Nat.lt_of_lt_of_le hb hsz;obtain⟨g1,g2⟩:=right_step (l:=l) hlt
   have dp:0<q→wr.cell? ⟨b,off+ (q - 1),none⟩ =some (.int .i64 (prevE es q)):=fun h0=>by
    rcases HS.out with h| ⟨b',off',hA,_,hc'⟩
    ·subst h;simp at hlt
    cases hA
    rw [prevE_at (by omega) h0];exact(hB.cell (p:=⟨b,off+ (q - 1),none⟩) hb).trans (by have:=hc' (q - 1) _ (List.getElem?_eq_getElem (show q - 1<es.length by omega)) 0 (.int .i64 es[q - 1]) rfl;simpa using this)
   obtain⟨x,hx⟩ : ∃x,x=es[q]:=⟨_,rfl⟩;rw [←hx] at d0 g1 g2;have HX:=LH (HL.out · x);have G1:=LH (fun h=>hr.trans (g1 h));have G2:=LH (fun h=>hr.trans (g2 h));clear hc hx hr g1 g2
   cases hv:isVal l x
   ·have HF:=LH (G2.out (.inl hv))
    rw [leafV_no hv] at HX;clear hv dp;go_wp2_with fail;refine(HX.out _).mono ?_;rintro e w1 ⟨rfl,hb1⟩;have B1:Below w.heap.size w w1:=Below.then_ bE hb1;have s1:=B1.size;go_wp2_with fail;go_ret;exact⟨by rw [HF.out];rfl,bE⟩
   ·rw [leafV_yes hv] at HX
    rcases Nat.eq_zero_or_pos q with rfl|h0
    ·have HF:=LH (G1.out ⟨hv,.inl rfl⟩)
     simp only [Nat.add_zero] at d0;clear hv dp;go_wp2_with fail;refine(HX.out _).mono ?_;rintro e w1 ⟨rfl,hb1⟩;have B1:Below w.heap.size w w1:=Below.then_ bE hb1;have s1:=B1.size;go_wp2_with fail;go_roundw
     case rel=>exact⟨1,by omega,by go_num,HF.out,bE⟩
     case measure=>simp [intOf];omega
    ·have d1:=dp h0
     have i0: (0:Int) < (q:Int):=by omega
     have i1: (q:Int) - 1= ((q - 1:Nat) :Int):=by omega
     have i2: ((q:Int) - 1) < (es.length:Int):=by omega
     have i3:0≤(q:Int) - 1:=by omega
     obtain⟨q',rfl⟩ : ∃q',q=q'+1:=⟨q - 1,by omega⟩;simp only [Nat.add_sub_cancel] at d1;have hql:q'+1<67108864:=by omega
     by_cases hle:x≤prevE es (q'+1)
     ·have HF:=LH (G2.out (.inr ⟨h0,hle⟩))
      clear hv dp;generalize prevE es (q'+1) =p at d1 hle;go_wp2_with fail;refine(HX.out _).mono ?_;rintro e w1 ⟨rfl,hb1⟩;have B1:Below w.heap.size w w1:=Below.then_ bE hb1;have s1:=B1.size;have d2:=(hb1.cell (p:=⟨b,off+q',none⟩) lb).trans d1;have lb2:=Nat.lt_of_lt_of_le lb hb1.size;go_wp2_with fail;go_ret;exact⟨by rw [HF.out];rfl,bE⟩
     ·have HF:=LH (G1.out ⟨hv,.inr (by omega)⟩)
      have hn:decide (x≤prevE es (q'+1)) =false:=by simpa using hle
      clear hv dp;generalize prevE es (q'+1) =p at d1 hle hn;go_wp2_with fail;refine(HX.out _).mono ?_;rintro e w1 ⟨rfl,hb1⟩;have B1:Below w.heap.size w w1:=Below.then_ bE hb1;have s1:=B1.size;have d2:=(hb1.cell (p:=⟨b,off+q',none⟩) lb).trans d1;have lb2:=Nat.lt_of_lt_of_le lb hb1.size;go_wp2_with fail;go_roundw
      case rel=>exact⟨q'+1+1,by omega,by go_num,HF.out,bE⟩
      case measure=>simp [intOf];omega
  ·obtain rfl:q=es.length:=by omega
   rw [List.drop_length] at hr;have HF:=LH (show rightE l (-1) es=true from hr);clear hr;go_wp2_with fail;refine(twig_Right _ l 1).mono ?_;rintro e w1 ⟨rfl,hb1⟩;have B1:Below w.heap.size w w1:=Below.then_ bE hb1;have s1:=B1.size;rw [HU.out];go_wp2_with fail;go_ret;exact⟨by rw [HF.out];rfl,bE⟩
def binErr (l:Nat) (es:List Int) :Int:=if rightE l (-1) es=true then 0 else 8
theorem bins_wrong (w:World) (g K l:Nat) (k:Int) (r:List Nd) (F:Nat→Prop) (A:Option Addr) (cap:Nat) (es:List Int) (h:DigAt w g K l k r F) (hS:Sl w w.heap.size encZ A es) (hm:es.length≤67108864) :
 Calls Tryz.prog 33 #[.pointer (some ⟨g,0,none⟩),.slice A es.length cap] w fun e w'=>e=.returned (.int .i64 (binErr l es))∧Below w.heap.size w w':=by
 have hl:=h.l_le;have HD:=LH h;have HS:=LH hS;have HR:=LH (bins_Right · l A cap es hl.1 hl.2 · hm);unfold binErr;clear h hS
 cases hr:rightE l (-1) es
 all_goals (
  rw [hr] at HR;clear hr
  go_enter Tryz.func33,Tryz.ntmps33
  go_wp2_with fail;refine(digest_Conf _ g K l k r F HD.out).mono ?_;rintro e w1 ⟨rfl,hb1⟩;have B1:Below w.heap.size w w1:=Below.then_ bE hb1;have s1:=B1.size;go_wp2_with fail;refine(HR.out _ (HS.out.keep s1 fun p hp=>B1.cell hp)).mono ?_;rintro e w2 ⟨rfl,hb2⟩;have B2:Below w.heap.size w w2:=Below.then_ bE hb2;have s2:=B2.size;go_wp2_with fail;go_ret;exact⟨rfl,bE⟩)
section
variable {α:Type} [Inhabited α] {size:Nat}
theorem flatK_get (E:Enc α size) (l:List α) (j:Nat) (h:j<l.length*size) : (Go.Sort.flatK E.enc size l.toArray)[j]! = (l.flatMap E.enc)[j]! ∧(l.flatMap E.enc)[j]? =some (Go.Sort.flatK E.enc size l.toArray)[j]! :=by
 have hs:0<size:=Nat.pos_of_ne_zero (by rintro rfl;simp at h);have hk:j / size<l.length:=Nat.div_lt_of_lt_mul (by rwa [Nat.mul_comm] at h);have hq:j % size<size:=Nat.mod_lt _ hs;have e:=Go.Sort.get_flatK E.enc size l.toArray j (by simpa using h);have hx:l[j / size]? =some l[j / size]:=List.getElem?_eq_getElem hk
 have hu: (E.enc l[j / size])[j % size]? =some (E.enc l[j / size])[j % size]! :=by
  rw [getElem!_pos _ _ (by rw [E.len];exact hq)];exact List.getElem?_eq_getElem _
 have hj:j / size*size+j % size=j:=by rw [Nat.mul_comm];exact Nat.div_add_mod j size
 have:=flat_get E l (j / size) (j % size) _ _ hx hu;rw [hj] at this
 have e2:l.toArray[j / size]! =l[j / size]:=by
  rw [getElem!_pos _ _ (by simpa using hk)];simp
 rw [e2] at e;rw [e,this];exact⟨by rw [getElem!_pos _ j (List.getElem?_eq_some_iff.1 this).1];exact(List.getElem?_eq_some_iff.1 this).2.symm,rfl⟩
theorem Own.holdsK {w:World} {base e:Nat} {E:Enc α size} {g off cap:Nat} {l:List α} (h:Own w base e E (.slice (some ⟨g,off,none⟩) l.length cap) l) :Go.Sort.HoldsK E.enc size w g off l.toArray:=by
 intro j hj;have hj:j<l.length*size:=by simpa using hj
 rcases h with ⟨h,_⟩ | ⟨g',off',cap',cur,hv,hb,hh,h1,h2,h3,hc⟩
 ·cases h
 ·injection hv with hv _ _
  injection hv with hv
  injection hv with e1 e2
  subst e1 e2;have h4:=(flatK_get E l j hj).2;rw [bC hh,bF hh];exact⟨hc j _ h4,rfl⟩
theorem Own.sorted {w:World} {base e:Nat} {E:Enc α size} {g off cap:Nat} {l:List α} (h:Own w base e E (.slice (some ⟨g,off,none⟩) l.length cap) l) (d:Array α) (hd:d.size=l.length) (n:Nat) (os:Array Obj) :
 Own (Go.Proofs.sortWorldK E.enc size w g off n d os) base e E (.slice (some ⟨g,off,none⟩) l.length cap) d.toList∧Turn (fun b=>b=g) w (Go.Proofs.sortWorldK E.enc size w g off n d os):=by
 have hl:d.toList.length=l.length:=by simpa using hd
 rcases h with ⟨h,_⟩ | ⟨g',off',cap',cur,hv,hb,hh,h1,h2,h3,hc⟩
 ·cases h
 ·injection hv with hv _ hcap
  injection hv with hv
  injection hv with e1 e2
  subst e1 e2 hcap;have hlt:g<w.heap.size:=lB hh
  have hg: (Go.Proofs.sortWorldK E.enc size w g off n d os).heap[g]? =some (.cells (Go.Sort.putCells id off (Go.Sort.flatK E.enc size d) cur) e (0,0)):=by
   unfold Go.Proofs.sortWorldK;rw [Go.Sort.heap_grow_old _ _ (by simp [Go.Sort.putRowK];exact hlt)];simp [Go.Sort.putRowK,Go.Sort.putRow,Go.Sort.mapBlock,Array.getElem?_modify,Go.Sort.onCells,hh]
  refine⟨.inr ⟨g,off,cap,_,by rw [hl],hb,hg,by omega,h2,by simpa [Go.Sort.putCells] using h3,fun j u hj=> ?_⟩,⟨rfl,rfl,rfl,?_,fun b hlb hn=> ?_⟩⟩
  ·have hjl:j<d.toList.length*size:=by rw [←flat_len E];exact(List.getElem?_eq_some_iff.1 hj).1
   have h4:=(flatK_get E d.toList j hjl).2;rw [hj] at h4;have hle:l.length*size≤cap*size:=Nat.mul_le_mul_right _ h1;rw [hl] at hjl;have hcur:cur[off+j]? =some cur[off+j]:=Array.getElem?_eq_getElem (by omega);simp only [Go.Sort.putCells,Array.getElem?_mapIdx,hcur,Option.map_some];rw [if_pos ⟨by omega,by simp [hd];omega⟩,h4];simp
  ·unfold Go.Proofs.sortWorldK
   simp [Go.Sort.putRowK]
  ·unfold Go.Proofs.sortWorldK
   rw [Go.Sort.heap_grow_old _ _ (by simp [Go.Sort.putRowK];exact hlb)];simp only [Go.Sort.putRowK,Go.Sort.putRow,Go.Sort.mapBlock,Array.getElem?_modify];rw [if_neg (by intro h;exact hn h.symm)]
   rfl
theorem perm_of_in {d d':Array α} (h:Go.Sort.PermIn 0 d.size d d') :d'.toList.Perm d.toList:=by
 have e1: (d.extract 0 d.size).toList=d.toList:=by simp
 have e2: (d'.extract 0 d.size).toList=d'.toList:=by rw [←h.1];simp
 rw [←e1,←e2];exact h.2.2
theorem pairwise_of_in {lt:α→α→Bool} {d:Array α} {n:Nat} (hn:n=d.size) (h:Go.Sort.SortedIn lt 0 n d) :d.toList.Pairwise fun a b=>lt b a=false:=by
 rw [List.pairwise_iff_getElem];intro i j hi hj hij;have hj':j<d.size:=by simpa using hj
 have:=h i j (Nat.zero_le _) hij (by omega);rw [getElem!_pos d j hj',getElem!_pos d i (by omega)] at this
 simpa using this
def SortPost {w:World} (base e:Nat) (E:Enc α size) (v:Value) (lt:α→α→Bool) (l:List α) (w:World) (en:Ending) (w':World) :Prop:=
 en=.returned (.tuple #[])∧∃l':List α,l'.Perm l∧l'.Pairwise (fun a b=>lt b a=false)∧Own w' base e E v l'∧Turn (fun b=>v.ownBlock=some b) w w'
theorem sortFunc_own {P:Program} {ρ:Go.Shelf.Ren} (L:Go.Proofs.SlLaysF0.n6 P ρ) (E:Enc α size) (aE: ∀w,(isAgg (ρ.t 24)).run P w=.ok true w) (zE: ∀w,(Go.sizeOf (ρ.t 24)).run P w=.ok size w) (cf:α→α→Int) (hO:Go.Sort.SWO (Go.Proofs.ltOf cf))
 (g:Nat) (cb:Array Value) (eg: ∀args w,(callFunc g args).run P w=.ok (.enter g args) w) (w:World) (base e:Nat) (v:Value) (l:List α) (ho:Own w base e E v l) (hl:l.length<4611686018427387904)
 (hcmp: ∀W,Turn (fun b=>v.ownBlock=some b) w W→∀x y:α,Calls P g (#[.agg (E.enc x).toArray,.agg (E.enc y).toArray] ++ cb) W fun e W'=>e=.returned (.int .i64 (cf x y))∧∃q os',W'=Go.Sort.grow (W.drewN q) os') :
 Calls P (ρ.f 6) #[v,.func (.func g) #[] cb] w (SortPost (w:=w) base e E v (Go.Proofs.ltOf cf) l w):=by
 have ho':=ho;rcases ho' with ⟨rfl,rfl⟩ | ⟨b,off,cap,cur,rfl,hb,hh,h1,h2,h3,hc⟩
 ·refine(Go.Proofs.AnyF.slices_SortFunc_none L none 0 (.func (.func g) #[] cb) w).mono ?_
  rintro e' w' ⟨rfl,rfl⟩;exact⟨rfl, [],.refl _,.nil,ho,Turn.refl _ _⟩
 ·have hC:Go.Proofs.CmpLays P g cb E.enc size cf b off l.toArray.size w:=fun m os dk hs x y=>hcmp _ (((ho.sorted dk (by simpa using hs) m os).2).mono fun c _ h=>by subst h;rfl) x y
  refine(Go.Proofs.AnyQ.slices_SortFunc L size aE zE E.enc E.len E.one cf hO g cb b off cap l.toArray w eg hC ho.holdsK (lB hh) (by simpa using hl)).mono ?_;rintro e' w' ⟨rfl,d',n,os,hp,hs,rfl⟩;have hsz:d'.size=l.length:=by simpa using hp.1
  obtain⟨o1,o2⟩:=ho.sorted d' hsz n os;refine⟨rfl,d'.toList,by simpa using perm_of_in hp,pairwise_of_in (by simp [hsz]) hs,o1,o2.mono fun c _ h=>by subst h;rfl⟩
end
def wUp:List Nd→Int→Int
 | [],_=>0
 |y :: l,x=>(if y.1≤x then y.2 else 0) +wUp l x
theorem wUp_append (a b:List Nd) (x:Int) :wUp (a ++ b) x=wUp a x+wUp b x:=by
 induction a with
 |nil=>simp [wUp]
 |cons y a ih=>simp only [List.cons_append,wUp,ih];omega
theorem wUp_perm {a b:List Nd} (h:a.Perm b) (x:Int) :wUp a x=wUp b x:=by
 induction h with
 |nil=>rfl
 |cons y _ ih=>simp only [wUp,ih]
 |swap y z l=>simp only [wUp];omega
 |trans _ _ h1 h2=>exact h1.trans h2
theorem wUp_all {l:List Nd} {x:Int} (h: ∀y∈l,y.1≤x) :wUp l x=sumR l:=by
 induction l with
 |nil=>rfl
 |cons y l ih=>
  simp only [wUp,sumR];rw [if_pos (h y (by simp)),ih fun z hz=>h z (by simp [hz])]
theorem wUp_none {l:List Nd} {x:Int} (h: ∀y∈l,x<y.1) :wUp l x=0:=by
 induction l with
 |nil=>rfl
 |cons y l ih=>
  simp only [wUp];have:=h y (by simp);rw [if_neg (by omega),ih fun z hz=>h z (by simp [hz])];rfl
theorem wUp_same {l:List Nd} {x z:Int} (h: ∀y∈l,(y.1≤x↔y.1≤z)) :wUp l x=wUp l z:=by
 induction l with
 |nil=>rfl
 |cons y l ih=>
  simp only [wUp];have h1:=h y (by simp);rw [ih fun z hz=>h z (by simp [hz])]
  congr 1
  by_cases h2:y.1≤x
  ·rw [if_pos h2,if_pos (h1.1 h2)]
  ·rw [if_neg h2,if_neg (fun h=>h2 (h1.2 h))]
theorem sumR_perm {a b:List Nd} (h:a.Perm b) :sumR a=sumR b:=by
 induction h with
 |nil=>rfl
 |cons y _ ih=>simp only [sumR,ih]
 |swap y z l=>simp only [sumR];omega
 |trans _ _ h1 h2=>exact h1.trans h2
structure Tab (l t:List Nd) :Prop where
 rise:t.Pairwise fun a b=>a.1<b.1
 up: ∀z∈t,z.2=wUp l z.1
 all: ∀y∈l,∃z∈t,z.1=y.1
 of: ∀z∈t,∃y∈l,y.1=z.1
theorem Tab.perm {l l' t:List Nd} (h:Tab l t) (hp:l.Perm l') :Tab l' t:=
 ⟨h.rise,fun z hz=>(h.up z hz).trans (wUp_perm hp _),fun y hy=>h.all y (hp.mem_iff.2 hy),fun z hz=>by obtain⟨y,hy,e⟩:=h.of z hz;exact⟨y,hp.mem_iff.1 hy,e⟩⟩
theorem Tab.nil:Tab [] []:=⟨.nil,by simp,by simp,by simp⟩
theorem Tab.same {p t:List Nd} {y:Nd} {s:Int} (h:Tab p (t ++ [(y.1,s)])) (hy: ∀z∈p,z.1≤y.1) :Tab (p ++ [y]) (t ++ [(y.1,sumR p+y.2)]):=by
 have hr:=List.pairwise_append.1 h.rise;refine⟨List.pairwise_append.2 ⟨hr.1,List.pairwise_singleton _ _,fun a ha b hb=> ?_⟩,fun z hz=> ?_,fun z hz=> ?_,fun z hz=> ?_⟩
 ·simp at hb;subst hb;exact hr.2.2 a ha (y.1,s) (by simp)
 ·rw [wUp_append]
  rcases List.mem_append.1 hz with hz|hz
  ·have h1:=hr.2.2 z hz (y.1,s) (by simp)
   have h2:=h.up z (List.mem_append_left _ hz);simp only at h1;simp only [wUp];rw [if_neg (by omega)];omega
  ·simp at hz;subst hz
   simp only [wUp,wUp_all hy];simp
 ·rcases List.mem_append.1 hz with hz|hz
  ·obtain⟨u,hu,e⟩:=h.all z hz
   rcases List.mem_append.1 hu with hu|hu
   ·exact⟨u,List.mem_append_left _ hu,e⟩
   ·simp at hu;subst hu;exact⟨(y.1,sumR p+y.2),by simp,e⟩
  ·simp at hz;subst hz;exact⟨(z.1,sumR p+z.2),by simp,rfl⟩
 ·rcases List.mem_append.1 hz with hz|hz
  ·obtain⟨u,hu,e⟩:=h.of z (List.mem_append_left _ hz)
   exact⟨u,List.mem_append_left _ hu,e⟩
  ·simp at hz;subst hz;exact⟨y,by simp,rfl⟩
theorem Tab.more {p t:List Nd} {y:Nd} (h:Tab p t) (hy: ∀z∈p,z.1≤y.1) (hn: ∀z∈t,z.1≠y.1) :Tab (p ++ [y]) (t ++ [(y.1,sumR p+y.2)]):=by
 have hlt: ∀z∈t,z.1<y.1:=fun z hz=>by
  obtain⟨u,hu,e⟩:=h.of z hz;have:=hy u hu;have:=hn z hz;omega
 refine⟨List.pairwise_append.2 ⟨h.rise,List.pairwise_singleton _ _,fun a ha b hb=> ?_⟩,fun z hz=> ?_,fun z hz=> ?_,fun z hz=> ?_⟩
 ·simp at hb;subst hb;exact hlt a ha
 ·rw [wUp_append]
  rcases List.mem_append.1 hz with hz|hz
  ·have h1:=hlt z hz
   have h2:=h.up z hz;simp only [wUp];rw [if_neg (by omega)];omega
  ·simp at hz;subst hz
   simp only [wUp,wUp_all hy];simp
 ·rcases List.mem_append.1 hz with hz|hz
  ·obtain⟨u,hu,e⟩:=h.all z hz
   exact⟨u,List.mem_append_left _ hu,e⟩
  ·simp at hz;subst hz;exact⟨(z.1,sumR p+z.2),by simp,rfl⟩
 ·rcases List.mem_append.1 hz with hz|hz
  ·obtain⟨u,hu,e⟩:=h.of z hz
   exact⟨u,List.mem_append_left _ hu,e⟩
  ·simp at hz;subst hz;exact⟨y,by simp,rfl⟩
theorem Tab.last_ne {p t:List Nd} {a:Nd} {y:Nd} (h:Tab p (t ++ [a])) (hy: ∀z∈p,z.1≤y.1) (hn:a.1≠y.1) : ∀z∈t ++ [a],z.1≠y.1:=by
 have hr:=List.pairwise_append.1 h.rise;intro z hz;rcases List.mem_append.1 hz with hz|hz
 ·have h1:=hr.2.2 z hz a (by simp)
  obtain⟨u,hu,e⟩:=h.of a (by simp);have:=hy u hu;omega
 ·simp at hz;subst hz;exact hn
theorem count_boundary (p:Nat→Bool) (k:Nat) : ∀n,k≤n→(∀i,i<k→p i=true)→(∀i,k≤i→i<n→p i=false)→(List.range n).countP p=k
 |0,hk,_,_=>by have:k=0:=by omega
               subst this;rfl
 |n+1,hk,h1,h2=>by
  rw [List.range_succ,List.countP_append];by_cases h:k=n+1
  ·subst h
   rw [count_boundary p n n (Nat.le_refl _) (fun i hi=>h1 i (by omega)) (fun i h3 h4=>by omega)];simp [h1 n (by omega)]
  ·rw [count_boundary p k n (by omega) h1 fun i h3 h4=>h2 i h3 (by omega)]
   simp [h2 n (by omega) (by omega)]
theorem rise_boundary {t:List Nd} (h:t.Pairwise fun a b=>a.1<b.1) (x:Int) : ∃k,k≤t.length∧(∀i (hi:i<t.length),i<k→t[i].1≤x)∧∀i (hi:i<t.length),k≤i→x<t[i].1:=by
 induction t with
 |nil=>exact⟨0,Nat.le_refl _,fun i hi=>absurd hi (Nat.not_lt_zero _),fun i hi=>absurd hi (Nat.not_lt_zero _)⟩
 |cons a t ih=>
  obtain⟨h1,h2⟩:=List.pairwise_cons.1 h;obtain⟨k,hk,h3,h4⟩:=ih h2;by_cases ha:a.1≤x
  ·refine⟨k+1,by simp;omega,fun i hi hlt=> ?_,fun i hi hle=> ?_⟩
   ·cases i with
    |zero=>exact ha
    |succ i=>exact h3 i (by simpa using hi) (by omega)
   ·cases i with
    |zero=>omega
    |succ i=>exact h4 i (by simpa using hi) (by omega)
  ·refine⟨0,Nat.zero_le _,fun i hi hlt=>by omega,fun i hi _=> ?_⟩
   cases i with
   |zero=>simp;omega
   |succ i=>
    have hi':i<t.length:=by simpa using hi
    have:=h1 t[i] (List.getElem_mem hi');simp only [List.getElem_cons_succ];omega
def atMost (t:List Nd) (x:Int) :Nat:=(List.range t.length).countP fun i=> !decide (x< (t.getD i (0,0)).1)
theorem atMost_le (t:List Nd) (x:Int) :atMost t x≤t.length:=by
 have:=List.countP_le_length (p:=fun i=> !decide (x< (t.getD i (0,0)).1)) (l:=List.range t.length)
 simpa [atMost] using this
theorem getD_at {t:List Nd} {i:Nat} (hi:i<t.length) :t.getD i (0,0) =t[i]:=by rw [List.getD_eq_getElem?_getD,List.getElem?_eq_getElem hi];rfl
theorem atMost_boundary {t:List Nd} (h:t.Pairwise fun a b=>a.1<b.1) (x:Int) : (∀i (hi:i<t.length),i<atMost t x→t[i].1≤x)∧∀i (hi:i<t.length),atMost t x≤i→x<t[i].1:=by
 obtain⟨k,hk,h1,h2⟩:=rise_boundary h x
 have e:atMost t x=k:=by
  refine count_boundary _ k _ hk (fun i hi=> ?_) (fun i h3 h4=> ?_)
  ·have:=h1 i (by omega) hi
   rw [getD_at (by omega)];simp;omega
  ·have:=h2 i h4 h3
   rw [getD_at h4];simp;omega
 rw [e];exact⟨h1,h2⟩
theorem Tab.none {l t:List Nd} (h:Tab l t) {x:Int} (h0:atMost t x=0) :wUp l x=0:=by
 have hb:=(atMost_boundary h.rise x).2;rw [h0] at hb;refine wUp_none fun y hy=> ?_;obtain⟨z,hz,e⟩:=h.all y hy;obtain⟨i,hi,rfl⟩:=List.getElem_of_mem hz;have:=hb i hi (Nat.zero_le _);omega
theorem Tab.some {l t:List Nd} (h:Tab l t) {x:Int} (h0:atMost t x≠0) (hi:atMost t x - 1<t.length) :t[atMost t x - 1].2=wUp l x:=by
 have hb:=atMost_boundary h.rise x;rw [h.up _ (List.getElem_mem hi)];refine wUp_same fun y hy=> ?_;obtain⟨z,hz,e⟩:=h.all y hy;obtain⟨i,hi2,rfl⟩:=List.getElem_of_mem hz;have h1:=hb.1 _ hi (by omega)
 constructor
 ·intro h2;omega
 ·intro h2
  by_cases h3:i<atMost t x
  ·rcases Nat.lt_or_ge i (atMost t x - 1) with h4|h4
   ·have:=List.pairwise_iff_getElem.1 h.rise i (atMost t x - 1) hi2 hi h4;omega
   ·obtain rfl:i=atMost t x - 1:=by omega
    omega
  ·have:=hb.2 i hi2 (by omega);omega
abbrev Rdg:={x:Nd // 0≤x.1∧x.1≤281474976710655}
instance:Inhabited Rdg:=⟨⟨(0,0),by decide⟩⟩
def encQ:Enc Rdg 2:=⟨fun x=> [.int .i64 x.1.1,.int .i64 x.1.2],fun _=>rfl,by intro x u hu;simp at hu;rcases hu with rfl|rfl <;> rfl⟩
theorem flat_Q (l:List Rdg) :l.flatMap encQ.enc= (l.map (·.1)).flatMap encN.enc:=by
 induction l with
 |nil=>rfl
 |cons x l ih=>rw [List.flatMap_cons,List.map_cons,List.flatMap_cons,ih];rfl
theorem own_Q {w:World} {base e:Nat} {v:Value} {l:List Rdg} :Own w base e encQ v l↔Own w base e encN v (l.map (·.1)):=by
 unfold Own;rw [flat_Q];simp
theorem made_cmp (W:World) (x y:Rdg) :Calls Tryz.prog 88 #[.agg #[.int .i64 x.1.1,.int .i64 x.1.2],.agg #[.int .i64 y.1.1,.int .i64 y.1.2]] W fun e W'=>e=.returned (.int .i64 (x.1.1 - y.1.1))∧∃q os',W'=Go.Sort.grow (W.drewN q) os':=by
 obtain⟨x,hx1,hx2⟩:=x;obtain⟨y,hy1,hy2⟩:=y
 go_enter Tryz.func88,Tryz.ntmps88
 go_wp2_with fail;go_ret;refine⟨rfl,0, #[.cells #[.int .i64 x.1,.int .i64 x.2] 81,.cells #[.int .i64 y.1,.int .i64 y.2] 81],?_⟩;rw [Go.Sort.alloc_eq_grow,Go.Sort.alloc_eq_grow,Go.Sort.grow_grow]
 rfl
theorem swo_Q:Go.Sort.SWO (Go.Proofs.ltOf fun x y:Rdg=>x.1.1 - y.1.1) where
 irrefl x:=by simp [Go.Proofs.ltOf]
 trans x y z h1 h2:=by simp only [Go.Proofs.ltOf,decide_eq_true_eq] at*;omega
 ntrans x y z h1 h2:=by simp only [Go.Proofs.ltOf,decide_eq_false_iff_not] at*;omega
theorem enters_made: ∀args W,(callFunc 88 args).run Tryz.prog W=.ok (.enter 88 args) W:=enters_of Tryz.func88 (by kernel_rfl) rfl
theorem made_sort (w:World) (base:Nat) (v:Value) (l:List Nd) (ho:Own w base 81 encN v l) (hl: ∀x∈l,0≤x.1∧x.1≤281474976710655) (hm:l.length≤67108864) :
 Calls Tryz.prog 87 #[v,.func (.func 88) #[] #[]] w fun en w'=>en=.returned (.tuple #[])∧∃l',l'.Perm l∧l'.Pairwise (fun a b=>a.1≤b.1)∧Own w' base 81 encN v l'∧Turn (fun b=>v.ownBlock=some b) w w':=by
 obtain⟨lq,rfl⟩ : ∃lq:List Rdg,l=lq.map (·.1):=⟨l.pmap (fun x h=>⟨x,h⟩) hl,by rw [List.map_pmap];simp⟩;have:=sortFunc_own Tryz.sortReading encQ (by intro w;kernel_rfl) (by intro w;kernel_rfl) (fun x y:Rdg=>x.1.1 - y.1.1) swo_Q 88 #[] enters_made w base 81 v lq (own_Q.2 ho) (by simp at hm;omega) (fun W _ x y=>made_cmp W x y);refine Calls.mono this ?_;rintro e w' ⟨rfl,l',hp,hs,ho',hT⟩;refine⟨rfl,l'.map (·.1),hp.map _,?_,own_Q.1 ho',hT⟩;rw [List.pairwise_map];exact hs.imp fun {a b} h=>by simp only [Go.Proofs.ltOf,decide_eq_false_iff_not] at h;omega
def Sep (u v:Value) :Prop:=∀g,u.ownBlock=some g→v.ownBlock≠some g
theorem Sep.symm {u v:Value} (h:Sep u v) :Sep v u:=fun g h1 h2=>h g h2 h1
theorem turn_then {F:Nat→Prop} {w wa w1 w':World} (hA:Below w.heap.size w wa) (hT:Turn F wa w1) (hB:Below w.heap.size w1 w') :Turn F w w':=
 ⟨hB.os.trans (hT.os.trans hA.os),hB.tape.trans (hT.tape.trans hA.tape),hB.output.trans (hT.output.trans hA.output),Nat.le_trans hA.size (Nat.le_trans hT.size hB.size),fun b hb hn=>(hB.block b hb).trans ((hT.block b (Nat.lt_of_lt_of_le hb hA.size) hn).trans (hA.block b hb))⟩
def MadePost (v:Value) (l:List Nd) (w:World) (e:Ending) (w':World) :Prop:=
 ∃t A1 c1 A2 c2,e=.returned (.agg #[.slice A1 t.length c1,.slice A2 t.length c2])∧Tab l t∧t.length≤l.length∧Own w' w.heap.size 3 encZ (.slice A1 t.length c1) (t.map (·.1))∧Own w' w.heap.size 3 encZ (.slice A2 t.length c2) (t.map (·.2))∧Turn (fun b=>v.ownBlock=some b) w w'
def sumsAt (w:World) (b:Nat) (v1 v2:Value) :Prop:=w.heap[b]? =some (.cells #[v1,v2] 83 (0,0))
theorem sumsAt.ty {w:World} {b:Nat} {v1 v2:Value} (h:sumsAt w b v1 v2) :TypeAt w b 83:=.of h
structure TwoSt (w:World) (base B b0 bs:Nat) (vl:Value) (ll:List Nd) (V1 V2:Value) (W:World) (U1:Value) (L1:List Int) (U2:Value) (L2:List Int) :Prop where
 lst:Own W 0 81 encN vl ll
 sums:sumsAt W bs V1 V2
 zero:sumsAt W b0 (.slice none 0 0) (.slice none 0 0)
 own1:Own W B 3 encZ U1 L1
 own2:Own W B 3 encZ U2 L2
 sep:Sep U1 U2
 blw:Below base w W
 size:B≤W.heap.size
 h0:b0<bs
 h1:bs<B
 hb0:base≤b0
section
variable {w:World} {base B b0 bs:Nat} {vl:Value} {ll:List Nd} {V1 V2:Value} {W W':World} {U1 U1':Value} {L1 L1':List Int} {U2 U2':Value} {L2 L2':List Int}
theorem TwoSt.below (h:TwoSt w base B b0 bs vl ll V1 V2 W U1 L1 U2 L2) (hb:Below W.heap.size W W') :TwoSt w base B b0 bs vl ll V1 V2 W' U1 L1 U2 L2:=
 ⟨h.lst.below hb,bB h.sums hb,bB h.zero hb,h.own1.below hb,h.own2.below hb,h.sep,h.blw.trans (hb.mono (by have:=h.h0;have:=h.h1;have:=h.hb0;have:=h.size;omega)),Nat.le_trans h.size hb.size,h.h0,h.h1,h.hb0⟩
theorem TwoSt.alloc (h:TwoSt w base B b0 bs vl ll V1 V2 W U1 L1 U2 L2) (o:Obj) :TwoSt w base B b0 bs vl ll V1 V2 (W.alloc o) U1 L1 U2 L2:=h.below ((Below.refl _ _).alloc (Nat.le_refl _) o)
theorem TwoSt.drew (h:TwoSt w base B b0 bs vl ll V1 V2 W U1 L1 U2 L2) :TwoSt w base B b0 bs vl ll V1 V2 W.drew U1 L1 U2 L2:=h.below (Below.refl _ _).drew
theorem TwoSt.app1 (h:TwoSt w base B b0 bs vl ll V1 V2 W U1 L1 U2 L2) (hg:W.grownBy W' U1.ownBlock) (ho:Own W' B 3 encZ U1' L1') (hl:U1'.ownBlock=U1.ownBlock∨U1'.ownBlock=some W.heap.size) (hb:Below B W W') :
 TwoSt w base B b0 bs vl ll V1 V2 W' U1' L1' U2 L2:=
 ⟨h.lst.kept hg (own_ne h.lst h.own1 (by decide)),blk_grown h.sums h.own1 hg (by decide),blk_grown h.zero h.own1 hg (by decide),ho,h.own2.kept hg (by
  cases e:U2.ownBlock with
  |none=>exact .inl rfl
  |some g=>exact .inr fun he=>h.sep g (by rw [←he]) e),fun g h1 h2=>by
   rcases hl with hl|hl
   ·exact h.sep g (hl ▸ h1) h2
   ·rw [hl] at h1;cases h1;exact absurd (h.own2.lt _ h2).2 (Nat.lt_irrefl _),h.blw.trans (hb.mono (by have:=h.h0;have:=h.h1;have:=h.hb0;omega)),Nat.le_trans h.size hb.size,h.h0,h.h1,h.hb0⟩
theorem TwoSt.app2 (h:TwoSt w base B b0 bs vl ll V1 V2 W U1 L1 U2 L2) (hg:W.grownBy W' U2.ownBlock) (ho:Own W' B 3 encZ U2' L2') (hl:U2'.ownBlock=U2.ownBlock∨U2'.ownBlock=some W.heap.size) (hb:Below B W W') :
 TwoSt w base B b0 bs vl ll V1 V2 W' U1 L1 U2' L2':=
 ⟨h.lst.kept hg (own_ne h.lst h.own2 (by decide)),blk_grown h.sums h.own2 hg (by decide),blk_grown h.zero h.own2 hg (by decide),h.own1.kept hg (by
  cases e:U1.ownBlock with
  |none=>exact .inl rfl
  |some g=>exact .inr fun he=>h.sep g e (by rw [←he])),ho,fun g h1 h2=>by
   rcases hl with hl|hl
   ·exact h.sep g h1 (hl ▸ h2)
   ·rw [hl] at h2;cases h2;exact absurd (h.own1.lt _ h1).2 (Nat.lt_irrefl _),h.blw.trans (hb.mono (by have:=h.h0;have:=h.h1;have:=h.hb0;omega)),Nat.le_trans h.size hb.size,h.h0,h.h1,h.hb0⟩
theorem TwoSt.st (h:TwoSt w base B b0 bs vl ll V1 V2 W U1 L1 U2 L2) :TwoSt w base B b0 bs vl ll U1 U2 ((W.setCell ⟨bs,0,none⟩ U1).setCell ⟨bs,1,none⟩ U2) U1 L1 U2 L2:=
 have hbb:base≤bs:=by have:=h.h0;have:=h.hb0;omega
 ⟨(h.lst.setCellT h.sums.ty (by decide)).setCellT h.sums.ty.setCell (by decide),zH (i:=1) (zH (i:=0) h.sums _) _,
  (Below.heap_setCell _ _ _ _ (by have:=h.h0;simp only;omega)).trans ((Below.heap_setCell _ _ _ _ (by have:=h.h0;simp only;omega)).trans h.zero),
  (h.own1.setCellB h.h1).setCellB h.h1,(h.own2.setCellB h.h1).setCellB h.h1,h.sep,(h.blw.setCell (p:=⟨bs,0,none⟩) hbb _).setCell (p:=⟨bs,1,none⟩) hbb _,by simp only [World.size_setCell];exact h.size,h.h0,h.h1,h.hb0⟩
theorem Own.ty_at {α:Type} {size base e:Nat} {w:World} {E:Enc α size} {b off n cap:Nat} {l:List α} (h:Own w base e E (.slice (some ⟨b,off,none⟩) n cap) l) :TypeAt w b e:=by
 rcases h with ⟨hv,_⟩ | ⟨g,o,c,cur,hv,_,hh,_⟩
 ·cases hv
 ·cases hv
  exact .of hh
theorem TwoSt.set2 {b o n c:Nat} (h:TwoSt w base B b0 bs vl ll V1 V2 W U1 L1 (.slice (some ⟨b,o,none⟩) n c) L2) (m:Nat) (hm:m<L2.length) (x:Int) :
 TwoSt w base B b0 bs vl ll V1 V2 (W.setCell ⟨b,o+m,none⟩ (.int .i64 x)) U1 L1 (.slice (some ⟨b,o,none⟩) n c) (L2.set m x):=
 have hty:=h.own2.ty_at;have hbB:B≤b:=(h.own2.lt b rfl).1
 ⟨h.lst.setCellT hty (by decide),(Below.heap_setCell _ _ _ _ (by have:=h.h1;simp only;omega)).trans h.sums,(Below.heap_setCell _ _ _ _ (by have:=h.h0;have:=h.h1;simp only;omega)).trans h.zero,
  h.own1.setCell (fun he=>h.sep b he rfl) _,by have:=h.own2.setElem m 0 hm (by decide) (.int .i64 x) x rfl;simpa using this,h.sep,h.blw.setCell (p:=⟨b,o+m,none⟩) (by have:=h.h0;have:=h.h1;have:=h.hb0;simp only;omega) _,by simp only [World.size_setCell];exact h.size,h.h0,h.h1,h.hb0⟩
theorem set_last {t':List Nd} {a:Nd} {m:Nat} (hm:m=t'.length) (z:Nd) : ((t' ++ [a]).map (·.2)).set m z.2= (t' ++ [z]).map (·.2):=by
 subst hm;rw [List.map_append,List.set_append_right _ _ (by simp)];simp
theorem grown_new {row:Option Nat} (hg:W.grownBy W' row) (z:Nat) (hz: ∀g,row=some g→g<z) (b o:Nat) (h1:z≤b) (h2:b<W.heap.size) :W'.cell? ⟨b,o,none⟩ =W.cell? ⟨b,o,none⟩:=
 grown_cell hg b h2 (by rintro rfl;have:=hz b rfl;omega) o
end
theorem sl_cell {W:World} {b o:Nat} {x:Int} (h:W.cell? ⟨b,o,none⟩ =some (.int .i64 x)) (hb:b<W.heap.size) :Sl W W.heap.size encZ (some ⟨b,o,none⟩) [x]:=
 .inr ⟨b,o,rfl,hb,fun i y hi j u hj=>by
  cases i with
  |succ i=>simp at hi
  |zero=>
   simp at hi;subst hi
   cases j with
   |succ j=>simp [encZ] at hj
   |zero=>simp [encZ] at hj;subst hj;simpa using h⟩
theorem sum_part {l:List Nd} (h: ∀z∈l,1≤z.2) {q:Nat} (hq:q<l.length) :0≤sumR (l.take q)∧sumR (l.take q) +l[q].2≤sumR l:=by
 induction l generalizing q with
 |nil=>exact absurd hq (Nat.not_lt_zero _)
 |cons x l ih=>
  have hx:=h x (by simp)
  cases q with
  |zero=>
   have: ∀l:List Nd,(∀z∈l,1≤z.2)→0≤sumR l:=fun l=>by
    intro hl
    induction l with
    |nil=>simp [sumR]
    |cons y l ih2=>have:=hl y (by simp);have:=ih2 fun z hz=>hl z (by simp [hz]);simp only [sumR];omega
   have:=this l fun z hz=>h z (by simp [hz]);simp [sumR];omega
  |succ q=>
   have:=ih (fun z hz=>h z (by simp [hz])) (q:=q) (by simpa using hq);simp only [List.take_succ_cons,sumR,List.getElem_cons_succ];omega
section
open Go.RowKit
section
variable {P:Program} {md:Region.Mode} {ops:Array Oper} {Q:Exit→Act→World→Prop} {S:World→Prop} {X:List Nat}
def wpAnyN (P:Program) (md:Region.Mode) (ops:Array Oper) (Q:Exit→Act→World→Prop) (S:World→Prop) (X:List Nat) :Nat→Array Bool→Act→World→Prop
 |0,listed,a,w=>Region.ready md ops listed= []∧Q .normal a w
 |fuel+1,listed,a,w=>
  (Region.ready md ops listed= []→Q .normal a w)∧
  ∀i∈Region.ready md ops listed,wpOp P ops Q i (fun a' w'=>(i∉X→S w→S w')∧wpAnyN P md ops Q S X fuel (listed.setIfInBounds i true) a' w') a w
theorem wpAny_of_N: ∀(fuel:Nat) (listed:Array Bool) (a:Act) (w:World),wpAnyN P md ops Q S X fuel listed a w→wpAny P md ops Q fuel listed a w
 |0,_,_,_,h=>h
 |fuel+1,_,_,_,h=>⟨h.1,fun i hi=>wpOp_mono (fun a' w' h'=>wpAny_of_N fuel _ a' w' h'.2) (h.2 i hi)⟩
theorem wpAnyN_first {i:Nat} {oi:Oper} {v:Value} (hi:ops[i]? =some oi) (hsel: ∀(j:Nat) (o:Oper) cs b,ops[j]? =some o→o.op≠.select cs b)
 (hQ: ∀c a w,Q (.panic c) (a.put oi.dst v) w→Q (.panic c) a w) (hX: ∀j∈X,∃o,ops[j]? =some o∧∃e∈o.after,Region.binds md e=true∧e.on=i) :
 ∀(fuel:Nat) (listed:Array Bool) (a:Act) (w:World),
  (∀j oj,ops[j]? =some oj→j≠i→listed.getD j true=false→(∀e∈oj.after,Region.binds md e=true→e.on≠i)→oi.apart ops oj=true)→
  i∈Region.ready md ops listed→YieldsIf P ops S oi v a→S w→
  wpAnyN P md ops Q S X fuel (listed.setIfInBounds i true) (a.put oi.dst v) w→wpAnyN P md ops Q S X (fuel+1) listed a w:=by
 intro fuel
 induction fuel with
 |zero=>
  intro listed a w _ hr hy hS H;refine⟨fun h=>(by rw [h] at hr;cases hr),fun j hj=> ?_⟩;by_cases hji:j=i
  ·subst hji;exact hy.wpOp hi hS ⟨fun _ h=>h,H⟩
  ·have:=ready_mono hj hji
   rw [H.1] at this
   cases this
 |succ fuel ih=>
  intro listed a w hfree hr hy hS H;refine⟨fun h=>(by rw [h] at hr;cases hr),fun j hj=> ?_⟩;by_cases hji:j=i
  ·subst hji;exact hy.wpOp hi hS ⟨fun _ h=>h,H⟩
  ·have h1:=H.2 j (ready_mono hj hji)
   obtain⟨hjun,oj,hoj,hall⟩:=mem_ready.1 hj
   have hnot: ∀e∈oj.after,Region.binds md e=true→e.on≠i:=fun e he hb heq=>by
    have h1:=hall e he hb;have h0:=(mem_ready.1 hr).1;rw [heq] at h1;rcases Nat.lt_or_ge i listed.size with h'|h'
    ·simp [h'] at h0 h1;rw [h0] at h1;cases h1
    ·simp [Array.getElem?_eq_none h'] at h1
   have hjX:j∉X:=fun hx=>by
    obtain⟨o,ho,e,he,hb,hon⟩:=hX j hx;have:o=oj:=Option.some.inj (ho.symm.trans hoj);subst this;exact hnot e he hb hon
   have h2:=wpOp_putIf hoj (hfree j oj hoj hji hjun hnot) (fun cs b=>hsel i oi cs b hi) (fun cs b=>hsel j oj cs b hoj) hQ hy h1
   have hfree': ∀k ok,ops[k]? =some ok→k≠i→(listed.setIfInBounds j true).getD k true=false→
    (∀e∈ok.after,Region.binds md e=true→e.on≠i)→oi.apart ops ok=true:=fun k ok hk hki hun hno=>by
    refine hfree k ok hk hki ?_ hno;by_cases hjk:j=k
    ·subst hjk;exact hjun
    ·rw [getD_set_ne true hjk] at hun;exact hun
   refine wpOp_mono (fun a' w' h3=>⟨h3.2.1,ih (listed.setIfInBounds j true) a' w' hfree' (ready_mono hr (Ne.symm hji)) h3.1 (h3.2.1 hjX hS) ?_⟩) h2;rw [Array.setIfInBounds_comm _ _ hji];exact h3.2.2
theorem wpAnyN_first0 {i:Nat} {oi:Oper} {v:Value} (hi:ops[i]? =some oi) (hsel: ∀(j:Nat) (o:Oper) cs b,ops[j]? =some o→o.op≠.select cs b)
 (hQ: ∀c a w,Q (.panic c) (a.put oi.dst v) w→Q (.panic c) a w) :
 ∀(fuel:Nat) (listed:Array Bool) (a:Act) (w:World),
  (∀j oj,ops[j]? =some oj→j≠i→listed.getD j true=false→(∀e∈oj.after,Region.binds md e=true→e.on≠i)→oi.apart ops oj=true)→
  i∈Region.ready md ops listed→YieldsIf P ops (fun _=>True) oi v a→
  wpAnyN P md ops Q S X fuel (listed.setIfInBounds i true) (a.put oi.dst v) w→wpAnyN P md ops Q S X (fuel+1) listed a w:=by
 intro fuel
 induction fuel with
 |zero=>
  intro listed a w _ hr hy H;refine⟨fun h=>(by rw [h] at hr;cases hr),fun j hj=> ?_⟩;by_cases hji:j=i
  ·subst hji;exact hy.wpOp hi trivial ⟨fun _ h=>h,H⟩
  ·have:=ready_mono hj hji
   rw [H.1] at this
   cases this
 |succ fuel ih=>
  intro listed a w hfree hr hy H;refine⟨fun h=>(by rw [h] at hr;cases hr),fun j hj=> ?_⟩;by_cases hji:j=i
  ·subst hji;exact hy.wpOp hi trivial ⟨fun _ h=>h,H⟩
  ·have h1:=H.2 j (ready_mono hj hji)
   obtain⟨hjun,oj,hoj,hall⟩:=mem_ready.1 hj
   have hnot: ∀e∈oj.after,Region.binds md e=true→e.on≠i:=fun e he hb heq=>by
    have h1:=hall e he hb;have h0:=(mem_ready.1 hr).1;rw [heq] at h1;rcases Nat.lt_or_ge i listed.size with h'|h'
    ·simp [h'] at h0 h1;rw [h0] at h1;cases h1
    ·simp [Array.getElem?_eq_none h'] at h1
   have h2:=wpOp_putIf hoj (hfree j oj hoj hji hjun hnot) (fun cs b=>hsel i oi cs b hi) (fun cs b=>hsel j oj cs b hoj) hQ hy h1
   have hfree': ∀k ok,ops[k]? =some ok→k≠i→(listed.setIfInBounds j true).getD k true=false→
    (∀e∈ok.after,Region.binds md e=true→e.on≠i)→oi.apart ops ok=true:=fun k ok hk hki hun hno=>by
    refine hfree k ok hk hki ?_ hno;by_cases hjk:j=k
    ·subst hjk;exact hjun
    ·rw [getD_set_ne true hjk] at hun;exact hun
   refine wpOp_mono (fun a' w' h3=>⟨h3.2.1,ih (listed.setIfInBounds j true) a' w' hfree' (ready_mono hr (Ne.symm hji)) h3.1 ?_⟩) h2;rw [Array.setIfInBounds_comm _ _ hji];exact h3.2.2
theorem wpAnyN_take {i:Nat} {oi:Oper} {v:Value} {fuel:Nat} {listed:Array Bool} {a:Act} {w:World} (hi:ops[i]? =some oi)
 (hs:Region.noSelect ops=true) (hf:Region.free md ops listed i=true) (hr: (Region.ready md ops listed).contains i=true) (hX: (X.all fun j=>Region.waitsFor md ops j i) =true)
 (hQ: ∀c a w,Q (.panic c) (a.put oi.dst v) w→Q (.panic c) a w) (hy:YieldsIf P ops S oi v a) (hS:S w)
 (h:wpAnyN P md ops Q S X fuel (listed.setIfInBounds i true) (a.put oi.dst v) w) :wpAnyN P md ops Q S X (fuel+1) listed a w:=
 wpAnyN_first hi (Region.noSelect_spec hs) hQ (fun j hj=>Region.waitsFor_spec (List.all_eq_true.1 hX j hj)) fuel listed a w (Region.free_spec hi hf) (by simpa using hr) hy hS h
theorem wpAnyN_pure {i:Nat} {oi:Oper} {v:Value} {fuel:Nat} {listed:Array Bool} {a:Act} {w:World} (hi:ops[i]? =some oi)
 (hs:Region.noSelect ops=true) (hf:Region.free md ops listed i=true) (hr: (Region.ready md ops listed).contains i=true)
 (hQ: ∀c a w,Q (.panic c) (a.put oi.dst v) w→Q (.panic c) a w) (hy:YieldsIf P ops (fun _=>True) oi v a)
 (h:wpAnyN P md ops Q S X fuel (listed.setIfInBounds i true) (a.put oi.dst v) w) :wpAnyN P md ops Q S X (fuel+1) listed a w:=
 wpAnyN_first0 hi (Region.noSelect_spec hs) hQ fuel listed a w (Region.free_spec hi hf) (by simpa using hr) hy h
theorem nO {i:Nat} {o:Oper} {fuel:Nat} {listed:Array Bool} {a:Act} {w:World} (hr:Region.ready md ops listed= [i]) (ho:ops[i]? =some o)
 (h: ∀K:Act→World→Prop,Shut (∀a' w',(i∉X→S w→S w')→wpAnyN P md ops Q S X fuel (listed.setIfInBounds i true) a' w'→K a' w')→if Region.wanted o (yielded ops a.tmps) =true then Oper.wp P o a w K Q else K (a.put o.dst undef) w) :
 wpAnyN P md ops Q S X (fuel+1) listed a w:=by
 refine⟨(fun h0=>by rw [hr] at h0;cases h0),fun j hj=> ?_⟩;rw [hr] at hj;simp at hj
 subst hj;exact wpOp_step ho fun K' hK=>h K' fun a' w' h1 h2=>hK a' w' ⟨h1,h2⟩
theorem wpAnyN_two {i k:Nat} {o ok:Oper} {fuel:Nat} {listed:Array Bool} {a:Act} {w:World} (hr:Region.ready md ops listed= [i,k]) (ho:ops[i]? =some o) (hk:ops[k]? =some ok)
 (h: ∀K:Act→World→Prop,Shut (∀a' w',(i∉X→S w→S w')→wpAnyN P md ops Q S X fuel (listed.setIfInBounds i true) a' w'→K a' w')→if Region.wanted o (yielded ops a.tmps) =true then Oper.wp P o a w K Q else K (a.put o.dst undef) w)
 (h': ∀K:Act→World→Prop,Shut (∀a' w',(k∉X→S w→S w')→wpAnyN P md ops Q S X fuel (listed.setIfInBounds k true) a' w'→K a' w')→if Region.wanted ok (yielded ops a.tmps) =true then Oper.wp P ok a w K Q else K (a.put ok.dst undef) w) :
 wpAnyN P md ops Q S X (fuel+1) listed a w:=by
 refine⟨(fun h0=>by rw [hr] at h0;cases h0),fun j hj=> ?_⟩;rw [hr] at hj;simp at hj
 rcases hj with rfl|rfl
 ·exact wpOp_step ho fun K' hK=>h K' fun a' w' h1 h2=>hK a' w' ⟨h1,h2⟩
 ·exact wpOp_step hk fun K' hK=>h' K' fun a' w' h1 h2=>hK a' w' ⟨h1,h2⟩
theorem nD {listed:Array Bool} {a:Act} {w:World} (hr:Region.ready md ops listed= []) (h:Q .normal a w) : ∀fuel,wpAnyN P md ops Q S X fuel listed a w
 |0=>⟨hr,h⟩
 |_+1=>⟨fun _=>h,by rw [hr];simp⟩
theorem wp_region_N {id:Nat} {a:Act} {w:World} (S:World→Prop) (X:List Nat) (hm:P.follows .mixedOrders=true) (hS:S w.drew)
 (h:S w.drew→wpAnyN P .any ops Q S X ops.size (Array.replicate ops.size false) a w.drew) : (Code.region id ops true).wp P Q a w:=
 wp_region_any hm (wpAny_of_N _ _ _ _ (h hS))
end
theorem zA:type_of% @List.getElem_toArray:=@List.getElem_toArray
theorem zB:type_of% @List.getElem_cons_zero:=@List.getElem_cons_zero
theorem zC:type_of% @List.getElem_cons_succ:=@List.getElem_cons_succ
theorem zD:type_of% @List.setIfInBounds_toArray:=@List.setIfInBounds_toArray
theorem zE:type_of% @List.set_cons_zero:=@List.set_cons_zero
theorem zF:type_of% @List.set_cons_succ:=@List.set_cons_succ
section
variable {P:Program} {md:Region.Mode} {ops:Array Oper} {Q:Exit→Act→World→Prop} {S:World→Prop} {X:List Nat}
theorem nP (i:Nat) (v:Value) {oi:Oper} {fuel:Nat} {listed:Array Bool} {a:Act} {w:World} (hi:ops[i]? =some oi:=by rfl)
 (hs:Region.noSelect ops=true:=by kernel_rfl) (hf:Region.free md ops listed i=true:=by kernel_rfl) (hr: (Region.ready md ops listed).contains i=true:=by kernel_rfl)
 (hQ: ∀c a w,Q (.panic c) (a.put oi.dst v) w→Q (.panic c) a w:=by exact fun _ _ _ h=>h) (hy:YieldsIf P ops (fun _=>True) oi v a:=by exact Or.inl ⟨by rfl,fun W _=>by go_simp⟩)
 (h:wpAnyN P md ops Q S X fuel (listed.setIfInBounds i true) (a.put oi.dst v) w) :wpAnyN P md ops Q S X (fuel+1) listed a w:=wpAnyN_pure hi hs hf hr hQ hy h
theorem nT (i:Nat) (v:Value) {oi:Oper} {fuel:Nat} {listed:Array Bool} {a:Act} {w:World} (hi:ops[i]? =some oi:=by rfl)
 (hs:Region.noSelect ops=true:=by kernel_rfl) (hf:Region.free md ops listed i=true:=by kernel_rfl) (hr: (Region.ready md ops listed).contains i=true:=by kernel_rfl) (hX: (X.all fun j=>Region.waitsFor md ops j i) =true:=by kernel_rfl)
 (hQ: ∀c a w,Q (.panic c) (a.put oi.dst v) w→Q (.panic c) a w:=by exact fun _ _ _ h=>h) (y:YieldsIf P ops S oi v a) (s:S w)
 (h:wpAnyN P md ops Q S X fuel (listed.setIfInBounds i true) (a.put oi.dst v) w) :wpAnyN P md ops Q S X (fuel+1) listed a w:=wpAnyN_take hi hs hf hr hX hQ y s h
end
end
theorem rank_made (w:World) (base:Nat) (v:Value) (l:List Nd) (ho:Own w base 81 encN v l) (hl: ∀x∈l,0≤x.1∧x.1≤281474976710655) (h1: ∀x∈l,1≤x.2) (hs:sumR l≤72057594037927935) (hm:l.length≤67108864) :
 Calls Tryz.prog 29 #[v] w (MadePost v l w):=by
 have hno:=ho.not_at w.heap.size (Nat.le_refl _);have HO:=LH (ho.alloc (.cells #[.slice none 0 0,.slice none 0 0] 83));have HL:=LH hl;have H1:=LH h1;clear ho hl h1
 go_enter Tryz.func29,Tryz.ntmps29
 go_wp2_with fail;refine(made_sort _ base v l HO.out HL.out hm).mono ?_;rintro e w1 ⟨rfl,l',hp,hsrt,ho1,hT⟩;have HLen:=LH hp.length_eq;have hlm:l'.length≤67108864:=by have:=HLen.out;omega
 have HTu:=LH hT;have s1:=hT.size;have HP:=LH hp;have HSo:=LH hsrt;have HO1:=LH ho1;have z0:w.heap.size<w1.heap.size:=by simp at s1;omega
 have N0:=LH (hT.keep (b:=w.heap.size) (heap_alloc_new w _) hno);clear hp hsrt ho1 hT;obtain⟨A,cap,hvf,_⟩:=HO1.out.form;have HV:=LH hvf;subst hvf;go_wp2_with fail
 have S0:Hid (TwoSt w1 w.heap.size (w1.heap.size+1) w.heap.size w1.heap.size (.slice A l'.length cap) l' (.slice none 0 0) (.slice none 0 0) (w1.alloc (.cells #[.slice none 0 0,.slice none 0 0] 83)) (.slice none 0 0) [] (.slice none 0 0) []):=
  LH ⟨(HO1.out.base_le (Nat.zero_le _)).alloc _,heap_alloc_new w1 _,(Below.heap_alloc w1 _ w.heap.size z0).trans N0.out,Own.nil _ _ _ _,Own.nil _ _ _ _,(fun g h=>by cases h),(Below.refl _ _).alloc (by omega) _,(by simp),z0,(by omega),Nat.le_refl _⟩
 go_loopw [4,12] (fun n i wr=>∃(q k1 k2:Nat) (t:List Nd) (A1 A2:Option Addr) (c1 c2:Nat),q≤l'.length∧i=.int .i64 q∧n=.int .i64 (sumR (l'.take q))∧k1=t.length∧k2=t.length∧
  TwoSt w1 w.heap.size (w1.heap.size+1) w.heap.size w1.heap.size (.slice A l'.length cap) l' (.slice A1 k1 c1) (.slice A2 k2 c2) wr (.slice A1 k1 c1) (t.map (·.1)) (.slice A2 k2 c2) (t.map (·.2))∧Tab (l'.take q) t∧t.length≤q) (fun _ i _=>l'.length - (intOf i).toNat)
 case atStart=>exact⟨0,0,0, [],none,none,0,0,Nat.zero_le _,rfl,rfl,rfl,rfl,S0.out,Tab.nil,Nat.le_refl _⟩
 case round=>
  obtain⟨q,k1,k2,t,A1,A2,c1,c2,hq,rfl,rfl,hk1,hk2,hst,htab,htq⟩:=hrel;have hz:=hst.size;have hzs:w1.heap.size<wr.heap.size:=by omega
  have cs:=bC hst.sums;have cf:=bF hst.sums;have KST:=LH hst;have KT:=LH htab;by_cases hlt:q<l'.length
  ·obtain⟨c,off,rfl,hc,hcl⟩:=hst.lst.sl.at_ hlt
   have d0:=hcl 0 (.int .i64 l'[q].1) rfl;have d1:=hcl 1 (.int .i64 l'[q].2) rfl;simp only [Nat.add_zero] at d0;have hx:=HL.out _ (HP.out.mem_iff.1 (List.getElem_mem hlt));have hx1:=H1.out _ (HP.out.mem_iff.1 (List.getElem_mem hlt));have e1:=sumR_take_succ hlt
   have hle: ∀z∈l'.take q,z.1≤l'[q].1:=fun z hz=>by
    obtain⟨i,hi,rfl⟩:=List.getElem_of_mem hz;have hi':i<q:=by rw [List.length_take] at hi;omega
    rw [List.getElem_take];exact List.pairwise_iff_getElem.1 HSo.out i q (by omega) hlt hi'
   have hts:=List.take_succ_eq_append_getElem hlt;have hpos: ∀z∈l',1≤z.2:=fun z hz=>H1.out z (HP.out.mem_iff.1 hz);have hsb:=sum_part hpos hlt;rw [sumR_perm HP.out] at hsb;obtain⟨y,hye⟩ : ∃y,y=l'[q]:=⟨_,rfl⟩;rw [←hye] at d0 d1 hx hx1 e1 hle hts hsb;have HTS:=LH hts;have HLE:=LH hle;have HE1:=LH e1;have hlq:q≤67108864:=by omega
   have HK1:=LH hk1;have HK2:=LH hk2;have kb1:k1≤67108864:=by omega
   have kb2:k2≤67108864:=by omega
   obtain⟨n,hn⟩ : ∃n,n=sumR (l'.take q):=⟨_,rfl⟩;rw [←hn] at hsb HE1⊢;have HN:=LH hn;have i1:=hst.own1.len_le;have i2:=hst.own2.len_le;simp only [List.length_map] at i1 i2;have ic1:k1≤c1:=by omega
   have ic2:k2≤c2:=by omega
   have kk:Hid (k2=k1):=LH (by omega);clear hst htab hcl e1 hle hts hye hpos hk1 hk2 hn hq i1 i2;rcases List.eq_nil_or_concat t with ht| ⟨t',a,ht⟩
   ·have g1:decide (0<k1) =false:=by have:=HK1.out;rw [ht] at this;simp at this;simp;omega
    have hne: ∀z∈t,z.1≠y.1:=by rw [ht];simp
    have HNE:=LH hne;clear hne ht;go_wp2_with fail;refine rX (by kernel_rfl) (by kernel_rfl) ?_
    repeat (go_big_quiet_step (fail))
    refine wpQuiet_nil ?_;intro w2 hb2;replace hb2:=bX hb2;have c20:=(hb2.cell (p:=⟨wr.heap.size,0,none⟩) (by simp)).trans (by go_simp:_=some (Value.int .i64 y.1));have z20:wr.heap.size<w2.heap.size:=by have:=hb2.size;simp at this;omega
    have s2:=(KST.out.alloc (.cells #[.int .i64 y.1,.int .i64 y.2] 81)).below hb2;have cs2:=bC s2.sums;have cf2:=bF s2.sums;have zs2:w1.heap.size<w2.heap.size:=by omega
    have ow1: ∀g,(Value.slice A1 k1 c1).ownBlock=some g→g<wr.heap.size:=fun g hg=>(KST.out.own1.lt g hg).2;have ow2: ∀g,(Value.slice A2 k2 c2).ownBlock=some g→g<wr.heap.size:=fun g hg=>(KST.out.own2.lt g hg).2;generalize Value.slice A1 k1 c1=V1 at s2 cs2 ow1⊢;generalize Value.slice A2 k2 c2=V2 at s2 cs2 ow2⊢;have W1:=LH ow1;have W2:=LH ow2;have S2:=LH s2;clear s2 hb2 cs cf g1 ow1 ow2;go_wp2_with fail;refine wp_region_noPanic ?_;refine wp_region_N (fun w'=>w'.cell? ⟨w1.heap.size,0,none⟩ =some V1∧w'.cell? ⟨w1.heap.size,1,none⟩ =some V2∧w'.cell? ⟨wr.heap.size,0,none⟩ =some (.int .i64 y.1)) [12,14] (by kernel_rfl) ⟨by simp [*,go_sem],by simp [*,go_sem],by simp [*,go_sem]⟩ (fun hHeld=> ?_);refine nP 0 (.pointer (some ⟨w1.heap.size,0,none⟩)) (h:= ?_)
    (try simp only [Act.put,zD,zE,zF])
    refine nT 1 (V1) (y:=Or.inl ⟨by rfl,fun W hW=>by obtain⟨q1,q2,q3⟩:=hW;go_simp⟩) (s:=hHeld) (h:= ?_)
    (try simp only [Act.put,zD,zE,zF])
    refine nP 2 (.pointer (some ⟨wr.heap.size,0,none⟩)) (h:= ?_)
    (try simp only [Act.put,zD,zE,zF])
    refine nT 3 (.int .i64 y.1) (y:=Or.inl ⟨by rfl,fun W hW=>by obtain⟨q1,q2,q3⟩:=hW;go_simp⟩) (s:=hHeld) (h:= ?_)
    (try simp only [Act.put,zD,zE,zF])
    refine nP 6 (.pointer (some ⟨w1.heap.size,1,none⟩)) (h:= ?_)
    (try simp only [Act.put,zD,zE,zF])
    refine nT 7 (V2) (y:=Or.inl ⟨by rfl,fun W hW=>by obtain⟨q1,q2,q3⟩:=hW;go_simp⟩) (s:=hHeld) (h:= ?_)
    (try simp only [Act.put,zD,zE,zF])
    refine nP 8 (.int .i64 (n+y.2)) (h:= ?_)
    (try simp only [Act.put,zD,zE,zF])
    clear hHeld;refine wpAnyN_two (i:=4) (k:=9) (by kernel_rfl) rfl rfl (fun K hK=> ?_) (fun K hK=> ?_)
    ·skip
     go_simp;refine hK.out _ _ (fun _ _=> ?_) ?_
     ·exact⟨by simp [*,go_sem],by simp [*,go_sem],by simp [*,go_sem]⟩
     clear hK K
     (try simp only [Act.put,zD,zE,zF])
     refine wpAnyN_two (i:=5) (k:=9) (by kernel_rfl) rfl rfl (fun K hK=> ?_) (fun K hK=> ?_)
     ·skip
      refine step_app (o:=⟨some 47,_,_,_,_,_⟩) tyZ (by rfl) _ _ (by rfl) encZ (w1.heap.size+1) V1 (t.map (·.1)) (by rfl) (TwoSt.own1 (w:=w1) (base:=w.heap.size) (B:=w1.heap.size+1) (b0:=w.heap.size) (bs:=w1.heap.size) (vl:=(Value.slice (some ⟨c,off,none⟩) l'.length cap)) (ll:=l') (V1:=V1) (V2:=V2) (U2:=V2) (L2:=(t.map (·.2))) (by(repeat (first|with_reducible exact S2.out|with_reducible refine TwoSt.alloc ?_ _|with_reducible refine TwoSt.drew ?_));done)) _ 1 [y.1] _ (by rfl) (sl_cell (by simp [*,go_sem]) (by first|omega| (simp;done) | (simp;omega))) (by first|omega| (simp;omega)) (by simp [maxLen];omega) (by first|omega| (simp;omega)) ?_;intro v4 w4 ho4 hg4 hl4 hb4 hn4;obtain⟨A4,k4,m4,rfl⟩ : ∃A k m,v4=.slice A m k:=by obtain⟨A,k,hv,_⟩:=ho4.form;exact⟨A,k,_,hv⟩
      have P4:=TwoSt.app1 (w:=w1) (base:=w.heap.size) (B:=w1.heap.size+1) (b0:=w.heap.size) (bs:=w1.heap.size) (vl:=(Value.slice (some ⟨c,off,none⟩) l'.length cap)) (ll:=l') (V1:=V1) (V2:=V2) (U2:=V2) (L2:=(t.map (·.2))) (U1:=V1) (L1:=(t.map (·.1))) (by(repeat (first|with_reducible exact S2.out|with_reducible refine TwoSt.alloc ?_ _|with_reducible refine TwoSt.drew ?_));done) hg4 ho4 hl4 hb4;have r4:=hg4.size
      try simp only [World.size_alloc,World.drew] at r4
      have G4:=grown_new hg4 wr.heap.size (fun g hg=>W1.out g hg);have x4:=bC P4.sums;have f4:=bF P4.sums;have y4:w4.cell? ⟨wr.heap.size,0,none⟩ =some (.int .i64 y.1):=(G4 wr.heap.size 0 (Nat.le_refl _) (by first|omega| (simp;omega))).trans (by simp [*,go_sem]);have z4:w1.heap.size<w4.heap.size:=P4.size;have q4:wr.heap.size<w4.heap.size:=by have:=hg4.size;(try simp at this);omega
      clear hn4 hb4 hl4 hg4 ho4;refine hK.out _ _ (fun _ _=> ?_) ?_
      ·exact⟨by simp [*,go_sem],by simp [*,go_sem],by simp [*,go_sem]⟩
      clear hK K
      (try simp only [Act.put,zD,zE,zF])
      refine nP 11 (.pointer (some ⟨w1.heap.size,0,none⟩)) (h:= ?_)
      (try simp only [Act.put,zD,zE,zF])
      refine nO (i:=9) (by kernel_rfl) rfl (fun K hK=> ?_);go_simp;refine hK.out _ _ (fun _ _=> ?_) ?_
      ·exact⟨by simp [*,go_sem],by simp [*,go_sem],by simp [*,go_sem]⟩
      clear hK K
      (try simp only [Act.put,zD,zE,zF])
      refine nO (i:=10) (by kernel_rfl) rfl (fun K hK=> ?_);refine step_app (o:=⟨some 52,_,_,_,_,_⟩) tyZ (by rfl) _ _ (by rfl) encZ (w1.heap.size+1) V2 (t.map (·.2)) (by rfl) (TwoSt.own2 (w:=w1) (base:=w.heap.size) (B:=w1.heap.size+1) (b0:=w.heap.size) (bs:=w1.heap.size) (vl:=(Value.slice (some ⟨c,off,none⟩) l'.length cap)) (ll:=l') (V1:=V1) (V2:=V2) (U1:=.slice A4 m4 k4) (L1:=(t.map (·.1)) ++ [y.1]) (by(repeat (first|with_reducible exact P4|with_reducible refine TwoSt.alloc ?_ _|with_reducible refine TwoSt.drew ?_));done)) _ 1 [(n+y.2)] _ (by rfl) (sl_cell (by simp [*,go_sem]) (by first|omega| (simp;done) | (simp;omega))) (by first|omega| (simp;omega)) (by simp [maxLen];omega) (by first|omega| (simp;omega)) ?_;intro v5 w5 ho5 hg5 hl5 hb5 hn5;obtain⟨A5,k5,m5,rfl⟩ : ∃A k m,v5=.slice A m k:=by obtain⟨A,k,hv,_⟩:=ho5.form;exact⟨A,k,_,hv⟩
      have P5:=TwoSt.app2 (w:=w1) (base:=w.heap.size) (B:=w1.heap.size+1) (b0:=w.heap.size) (bs:=w1.heap.size) (vl:=(Value.slice (some ⟨c,off,none⟩) l'.length cap)) (ll:=l') (V1:=V1) (V2:=V2) (U1:=.slice A4 m4 k4) (L1:=(t.map (·.1)) ++ [y.1]) (U2:=V2) (L2:=(t.map (·.2))) (by(repeat (first|with_reducible exact P4|with_reducible refine TwoSt.alloc ?_ _|with_reducible refine TwoSt.drew ?_));done) hg5 ho5 hl5 hb5;have r5:=hg5.size
      try simp only [World.size_alloc,World.drew] at r5
      have G5:=grown_new hg5 wr.heap.size (fun g hg=>W2.out g hg);have x5:=bC P5.sums;have f5:=bF P5.sums;have y5:w5.cell? ⟨wr.heap.size,0,none⟩ =some (.int .i64 y.1):=(G5 wr.heap.size 0 (Nat.le_refl _) (by first|omega| (simp;omega))).trans (by simp [*,go_sem]);have z5:w1.heap.size<w5.heap.size:=P5.size;have q5:wr.heap.size<w5.heap.size:=by have:=hg5.size;(try simp at this);omega
      clear hn5 hb5 hl5 hg5 ho5;refine hK.out _ _ (fun _ _=> ?_) ?_
      ·exact⟨by simp [*,go_sem],by simp [*,go_sem],by simp [*,go_sem]⟩
      clear hK K
      (try simp only [Act.put,zD,zE,zF])
      refine nO (i:=12) (by kernel_rfl) rfl (fun K hK=> ?_);go_simp;refine hK.out _ _ (fun h _=>absurd (by decide) h) ?_;clear hK K
      (try simp only [Act.put,zD,zE,zF])
      refine nP 13 (.pointer (some ⟨w1.heap.size,1,none⟩)) (h:= ?_)
      (try simp only [Act.put,zD,zE,zF])
      refine nO (i:=14) (by kernel_rfl) rfl (fun K hK=> ?_);go_simp;refine hK.out _ _ (fun h _=>absurd (by decide) h) ?_;clear hK K
      (try simp only [Act.put,zD,zE,zF])
      refine nD (by kernel_rfl) ?_ _;have E4:=P5.own1.len_le;have E5:=P5.own2.len_le;simp only [List.length_append,List.length_map,List.length_cons,List.length_nil] at E4 E5;have F4:=LH E4.1;have F5:=LH E5.1;have PF:=LH P5.st;clear E4 E5 P4 P5 G4 G5 x4 x5 f4 f5 y4 y5 z4 z5 q4 q5 r4 r5 c20 z20 cs2 cf2;refine NoPanic.normal ?_;go_wp2_with fail;go_roundw
      case rel=>exact⟨q+1,m4,m5,t ++ [(y.1,n+y.2)],A4,A5,k4,k5,by omega,by go_num,by rw [HE1.out],by have:=F4.out;simp;omega,by have:=F5.out;simp;omega,by simpa using PF.out,by rw [HTS.out];have:=KT.out.more HLE.out HNE.out;rwa [←HN.out] at this,by simp;omega⟩
      case measure=>simp [intOf];omega
     ·skip
      go_simp;refine hK.out _ _ (fun _ _=> ?_) ?_
      ·exact⟨by simp [*,go_sem],by simp [*,go_sem],by simp [*,go_sem]⟩
      clear hK K
      (try simp only [Act.put,zD,zE,zF])
      refine nO (i:=5) (by kernel_rfl) rfl (fun K hK=> ?_);refine step_app (o:=⟨some 47,_,_,_,_,_⟩) tyZ (by rfl) _ _ (by rfl) encZ (w1.heap.size+1) V1 (t.map (·.1)) (by rfl) (TwoSt.own1 (w:=w1) (base:=w.heap.size) (B:=w1.heap.size+1) (b0:=w.heap.size) (bs:=w1.heap.size) (vl:=(Value.slice (some ⟨c,off,none⟩) l'.length cap)) (ll:=l') (V1:=V1) (V2:=V2) (U2:=V2) (L2:=(t.map (·.2))) (by(repeat (first|with_reducible exact S2.out|with_reducible refine TwoSt.alloc ?_ _|with_reducible refine TwoSt.drew ?_));done)) _ 1 [y.1] _ (by rfl) (sl_cell (by simp [*,go_sem]) (by first|omega| (simp;done) | (simp;omega))) (by first|omega| (simp;omega)) (by simp [maxLen];omega) (by first|omega| (simp;omega)) ?_;intro v4 w4 ho4 hg4 hl4 hb4 hn4;obtain⟨A4,k4,m4,rfl⟩ : ∃A k m,v4=.slice A m k:=by obtain⟨A,k,hv,_⟩:=ho4.form;exact⟨A,k,_,hv⟩
      have P4:=TwoSt.app1 (w:=w1) (base:=w.heap.size) (B:=w1.heap.size+1) (b0:=w.heap.size) (bs:=w1.heap.size) (vl:=(Value.slice (some ⟨c,off,none⟩) l'.length cap)) (ll:=l') (V1:=V1) (V2:=V2) (U2:=V2) (L2:=(t.map (·.2))) (U1:=V1) (L1:=(t.map (·.1))) (by(repeat (first|with_reducible exact S2.out|with_reducible refine TwoSt.alloc ?_ _|with_reducible refine TwoSt.drew ?_));done) hg4 ho4 hl4 hb4;have r4:=hg4.size
      try simp only [World.size_alloc,World.drew] at r4
      have G4:=grown_new hg4 wr.heap.size (fun g hg=>W1.out g hg);have x4:=bC P4.sums;have f4:=bF P4.sums;have y4:w4.cell? ⟨wr.heap.size,0,none⟩ =some (.int .i64 y.1):=(G4 wr.heap.size 0 (Nat.le_refl _) (by first|omega| (simp;omega))).trans (by simp [*,go_sem]);have b4:w4.cell? ⟨w2.heap.size+1,0,none⟩ =some (.int .i64 (n+y.2)):=(G4 (w2.heap.size+1) 0 (by omega) (by first|omega| (simp;done) | (simp;omega))).trans (by simp [*,go_sem]);have z4:w1.heap.size<w4.heap.size:=P4.size;have q4:wr.heap.size<w4.heap.size:=by have:=hg4.size;(try simp at this);omega
      clear hn4 hb4 hl4 hg4 ho4;refine hK.out _ _ (fun _ _=> ?_) ?_
      ·exact⟨by simp [*,go_sem],by simp [*,go_sem],by simp [*,go_sem]⟩
      clear hK K
      (try simp only [Act.put,zD,zE,zF])
      refine nP 11 (.pointer (some ⟨w1.heap.size,0,none⟩)) (h:= ?_)
      (try simp only [Act.put,zD,zE,zF])
      refine nO (i:=10) (by kernel_rfl) rfl (fun K hK=> ?_);refine step_app (o:=⟨some 52,_,_,_,_,_⟩) tyZ (by rfl) _ _ (by rfl) encZ (w1.heap.size+1) V2 (t.map (·.2)) (by rfl) (TwoSt.own2 (w:=w1) (base:=w.heap.size) (B:=w1.heap.size+1) (b0:=w.heap.size) (bs:=w1.heap.size) (vl:=(Value.slice (some ⟨c,off,none⟩) l'.length cap)) (ll:=l') (V1:=V1) (V2:=V2) (U1:=.slice A4 m4 k4) (L1:=(t.map (·.1)) ++ [y.1]) (by(repeat (first|with_reducible exact P4|with_reducible refine TwoSt.alloc ?_ _|with_reducible refine TwoSt.drew ?_));done)) _ 1 [(n+y.2)] _ (by rfl) (sl_cell (by simp [*,go_sem]) (by first|omega| (simp;done) | (simp;omega))) (by first|omega| (simp;omega)) (by simp [maxLen];omega) (by first|omega| (simp;omega)) ?_;intro v5 w5 ho5 hg5 hl5 hb5 hn5;obtain⟨A5,k5,m5,rfl⟩ : ∃A k m,v5=.slice A m k:=by obtain⟨A,k,hv,_⟩:=ho5.form;exact⟨A,k,_,hv⟩
      have P5:=TwoSt.app2 (w:=w1) (base:=w.heap.size) (B:=w1.heap.size+1) (b0:=w.heap.size) (bs:=w1.heap.size) (vl:=(Value.slice (some ⟨c,off,none⟩) l'.length cap)) (ll:=l') (V1:=V1) (V2:=V2) (U1:=.slice A4 m4 k4) (L1:=(t.map (·.1)) ++ [y.1]) (U2:=V2) (L2:=(t.map (·.2))) (by(repeat (first|with_reducible exact P4|with_reducible refine TwoSt.alloc ?_ _|with_reducible refine TwoSt.drew ?_));done) hg5 ho5 hl5 hb5;have r5:=hg5.size
      try simp only [World.size_alloc,World.drew] at r5
      have G5:=grown_new hg5 wr.heap.size (fun g hg=>W2.out g hg);have x5:=bC P5.sums;have f5:=bF P5.sums;have y5:w5.cell? ⟨wr.heap.size,0,none⟩ =some (.int .i64 y.1):=(G5 wr.heap.size 0 (Nat.le_refl _) (by first|omega| (simp;omega))).trans (by simp [*,go_sem]);have z5:w1.heap.size<w5.heap.size:=P5.size;have q5:wr.heap.size<w5.heap.size:=by have:=hg5.size;(try simp at this);omega
      clear hn5 hb5 hl5 hg5 ho5;refine hK.out _ _ (fun _ _=> ?_) ?_
      ·exact⟨by simp [*,go_sem],by simp [*,go_sem],by simp [*,go_sem]⟩
      clear hK K
      (try simp only [Act.put,zD,zE,zF])
      refine nO (i:=12) (by kernel_rfl) rfl (fun K hK=> ?_);go_simp;refine hK.out _ _ (fun h _=>absurd (by decide) h) ?_;clear hK K
      (try simp only [Act.put,zD,zE,zF])
      refine nP 13 (.pointer (some ⟨w1.heap.size,1,none⟩)) (h:= ?_)
      (try simp only [Act.put,zD,zE,zF])
      refine nO (i:=14) (by kernel_rfl) rfl (fun K hK=> ?_);go_simp;refine hK.out _ _ (fun h _=>absurd (by decide) h) ?_;clear hK K
      (try simp only [Act.put,zD,zE,zF])
      refine nD (by kernel_rfl) ?_ _;have E4:=P5.own1.len_le;have E5:=P5.own2.len_le;simp only [List.length_append,List.length_map,List.length_cons,List.length_nil] at E4 E5;have F4:=LH E4.1;have F5:=LH E5.1;have PF:=LH P5.st;clear E4 E5 P4 P5 G4 G5 x4 x5 f4 f5 y4 y5 z4 z5 q4 q5 r4 r5 c20 z20 cs2 cf2;refine NoPanic.normal ?_;go_wp2_with fail;go_roundw
      case rel=>exact⟨q+1,m4,m5,t ++ [(y.1,n+y.2)],A4,A5,k4,k5,by omega,by go_num,by rw [HE1.out],by have:=F4.out;simp;omega,by have:=F5.out;simp;omega,by simpa using PF.out,by rw [HTS.out];have:=KT.out.more HLE.out HNE.out;rwa [←HN.out] at this,by simp;omega⟩
      case measure=>simp [intOf];omega
    ·skip
     go_simp;refine hK.out _ _ (fun _ _=> ?_) ?_
     ·exact⟨by simp [*,go_sem],by simp [*,go_sem],by simp [*,go_sem]⟩
     clear hK K
     (try simp only [Act.put,zD,zE,zF])
     refine nO (i:=4) (by kernel_rfl) rfl (fun K hK=> ?_);go_simp;refine hK.out _ _ (fun _ _=> ?_) ?_
     ·exact⟨by simp [*,go_sem],by simp [*,go_sem],by simp [*,go_sem]⟩
     clear hK K
     (try simp only [Act.put,zD,zE,zF])
     refine nO (i:=5) (by kernel_rfl) rfl (fun K hK=> ?_);refine step_app (o:=⟨some 47,_,_,_,_,_⟩) tyZ (by rfl) _ _ (by rfl) encZ (w1.heap.size+1) V1 (t.map (·.1)) (by rfl) (TwoSt.own1 (w:=w1) (base:=w.heap.size) (B:=w1.heap.size+1) (b0:=w.heap.size) (bs:=w1.heap.size) (vl:=(Value.slice (some ⟨c,off,none⟩) l'.length cap)) (ll:=l') (V1:=V1) (V2:=V2) (U2:=V2) (L2:=(t.map (·.2))) (by(repeat (first|with_reducible exact S2.out|with_reducible refine TwoSt.alloc ?_ _|with_reducible refine TwoSt.drew ?_));done)) _ 1 [y.1] _ (by rfl) (sl_cell (by simp [*,go_sem]) (by first|omega| (simp;done) | (simp;omega))) (by first|omega| (simp;omega)) (by simp [maxLen];omega) (by first|omega| (simp;omega)) ?_;intro v4 w4 ho4 hg4 hl4 hb4 hn4;obtain⟨A4,k4,m4,rfl⟩ : ∃A k m,v4=.slice A m k:=by obtain⟨A,k,hv,_⟩:=ho4.form;exact⟨A,k,_,hv⟩
     have P4:=TwoSt.app1 (w:=w1) (base:=w.heap.size) (B:=w1.heap.size+1) (b0:=w.heap.size) (bs:=w1.heap.size) (vl:=(Value.slice (some ⟨c,off,none⟩) l'.length cap)) (ll:=l') (V1:=V1) (V2:=V2) (U2:=V2) (L2:=(t.map (·.2))) (U1:=V1) (L1:=(t.map (·.1))) (by(repeat (first|with_reducible exact S2.out|with_reducible refine TwoSt.alloc ?_ _|with_reducible refine TwoSt.drew ?_));done) hg4 ho4 hl4 hb4;have r4:=hg4.size
     try simp only [World.size_alloc,World.drew] at r4
     have G4:=grown_new hg4 wr.heap.size (fun g hg=>W1.out g hg);have x4:=bC P4.sums;have f4:=bF P4.sums;have y4:w4.cell? ⟨wr.heap.size,0,none⟩ =some (.int .i64 y.1):=(G4 wr.heap.size 0 (Nat.le_refl _) (by first|omega| (simp;omega))).trans (by simp [*,go_sem]);have b4:w4.cell? ⟨w2.heap.size,0,none⟩ =some (.int .i64 (n+y.2)):=(G4 (w2.heap.size) 0 (by omega) (by first|omega| (simp;done) | (simp;omega))).trans (by simp [*,go_sem]);have z4:w1.heap.size<w4.heap.size:=P4.size;have q4:wr.heap.size<w4.heap.size:=by have:=hg4.size;(try simp at this);omega
     clear hn4 hb4 hl4 hg4 ho4;refine hK.out _ _ (fun _ _=> ?_) ?_
     ·exact⟨by simp [*,go_sem],by simp [*,go_sem],by simp [*,go_sem]⟩
     clear hK K
     (try simp only [Act.put,zD,zE,zF])
     refine nP 11 (.pointer (some ⟨w1.heap.size,0,none⟩)) (h:= ?_)
     (try simp only [Act.put,zD,zE,zF])
     refine nO (i:=10) (by kernel_rfl) rfl (fun K hK=> ?_);refine step_app (o:=⟨some 52,_,_,_,_,_⟩) tyZ (by rfl) _ _ (by rfl) encZ (w1.heap.size+1) V2 (t.map (·.2)) (by rfl) (TwoSt.own2 (w:=w1) (base:=w.heap.size) (B:=w1.heap.size+1) (b0:=w.heap.size) (bs:=w1.heap.size) (vl:=(Value.slice (some ⟨c,off,none⟩) l'.length cap)) (ll:=l') (V1:=V1) (V2:=V2) (U1:=.slice A4 m4 k4) (L1:=(t.map (·.1)) ++ [y.1]) (by(repeat (first|with_reducible exact P4|with_reducible refine TwoSt.alloc ?_ _|with_reducible refine TwoSt.drew ?_));done)) _ 1 [(n+y.2)] _ (by rfl) (sl_cell (by simp [*,go_sem]) (by first|omega| (simp;done) | (simp;omega))) (by first|omega| (simp;omega)) (by simp [maxLen];omega) (by first|omega| (simp;omega)) ?_;intro v5 w5 ho5 hg5 hl5 hb5 hn5;obtain⟨A5,k5,m5,rfl⟩ : ∃A k m,v5=.slice A m k:=by obtain⟨A,k,hv,_⟩:=ho5.form;exact⟨A,k,_,hv⟩
     have P5:=TwoSt.app2 (w:=w1) (base:=w.heap.size) (B:=w1.heap.size+1) (b0:=w.heap.size) (bs:=w1.heap.size) (vl:=(Value.slice (some ⟨c,off,none⟩) l'.length cap)) (ll:=l') (V1:=V1) (V2:=V2) (U1:=.slice A4 m4 k4) (L1:=(t.map (·.1)) ++ [y.1]) (U2:=V2) (L2:=(t.map (·.2))) (by(repeat (first|with_reducible exact P4|with_reducible refine TwoSt.alloc ?_ _|with_reducible refine TwoSt.drew ?_));done) hg5 ho5 hl5 hb5;have r5:=hg5.size
     try simp only [World.size_alloc,World.drew] at r5
     have G5:=grown_new hg5 wr.heap.size (fun g hg=>W2.out g hg);have x5:=bC P5.sums;have f5:=bF P5.sums;have y5:w5.cell? ⟨wr.heap.size,0,none⟩ =some (.int .i64 y.1):=(G5 wr.heap.size 0 (Nat.le_refl _) (by first|omega| (simp;omega))).trans (by simp [*,go_sem]);have z5:w1.heap.size<w5.heap.size:=P5.size;have q5:wr.heap.size<w5.heap.size:=by have:=hg5.size;(try simp at this);omega
     clear hn5 hb5 hl5 hg5 ho5;refine hK.out _ _ (fun _ _=> ?_) ?_
     ·exact⟨by simp [*,go_sem],by simp [*,go_sem],by simp [*,go_sem]⟩
     clear hK K
     (try simp only [Act.put,zD,zE,zF])
     refine nO (i:=12) (by kernel_rfl) rfl (fun K hK=> ?_);go_simp;refine hK.out _ _ (fun h _=>absurd (by decide) h) ?_;clear hK K
     (try simp only [Act.put,zD,zE,zF])
     refine nP 13 (.pointer (some ⟨w1.heap.size,1,none⟩)) (h:= ?_)
     (try simp only [Act.put,zD,zE,zF])
     refine nO (i:=14) (by kernel_rfl) rfl (fun K hK=> ?_);go_simp;refine hK.out _ _ (fun h _=>absurd (by decide) h) ?_;clear hK K
     (try simp only [Act.put,zD,zE,zF])
     refine nD (by kernel_rfl) ?_ _;have E4:=P5.own1.len_le;have E5:=P5.own2.len_le;simp only [List.length_append,List.length_map,List.length_cons,List.length_nil] at E4 E5;have F4:=LH E4.1;have F5:=LH E5.1;have PF:=LH P5.st;clear E4 E5 P4 P5 G4 G5 x4 x5 f4 f5 y4 y5 z4 z5 q4 q5 r4 r5 c20 z20 cs2 cf2;refine NoPanic.normal ?_;go_wp2_with fail;go_roundw
     case rel=>exact⟨q+1,m4,m5,t ++ [(y.1,n+y.2)],A4,A5,k4,k5,by omega,by go_num,by rw [HE1.out],by have:=F4.out;simp;omega,by have:=F5.out;simp;omega,by simpa using PF.out,by rw [HTS.out];have:=KT.out.more HLE.out HNE.out;rwa [←HN.out] at this,by simp;omega⟩
     case measure=>simp [intOf];omega
   ·rw [List.concat_eq_append] at ht
    obtain⟨m,hm⟩ : ∃m,m=t'.length:=⟨_,rfl⟩;have hkm:k1=m+1:=by have:=HK1.out;rw [ht] at this;simp at this;omega
    have g1:decide (0<k1) =true:=by simp;omega
    have g2: (k1:Int) - 1= (m:Int):=by omega
    have g3: (m:Int) < (k1:Int):=by omega
    have g4:m<k1:=by omega
    have g5:m< (t.map (·.1)).length:=by rw [ht];simp;omega
    have ga: (t.map (·.1))[m] =a.1:=by simp only [ht,hm];simp
    obtain⟨b1,o1,rfl,hb1,hc1⟩:=KST.out.own1.sl.at_ g5;have e0:=hc1 0 (.int .i64 a.1) (by rw [ga];rfl);simp only [Nat.add_zero,Nat.mul_one] at e0;have g6:m< (t.map (·.2)).length:=by rw [ht];simp;omega
    obtain⟨b2,o2,rfl,hb2,hc2⟩:=KST.out.own2.sl.at_ g6;have gb: (t.map (·.2))[m] =a.2:=by simp only [ht,hm];simp
    have e8:=hc2 0 (.int .i64 a.2) (by rw [gb];rfl);simp only [Nat.add_zero,Nat.mul_one] at e8;have g7:m<k2:=by have:=kk.out;omega
    have HKM:=LH hkm;have HM:=LH hm;have HT:=LH ht;clear hc1 hc2 g5 ga gb hkm hm ht;by_cases ha:a.1=y.1
    ·have ha': (a.1 == y.1) =true:=by simpa using ha
     have HAE:=LH ha;have e9:=KST.out.own2.frozen;have hz2:b2<wr.heap.size:=hb2;clear ha;go_wp2_with fail;refine rX (by kernel_rfl) (by kernel_rfl) ?_
     repeat (go_big_quiet_step (fail))
     refine wpQuiet_nil ?_;intro w2 hb2';replace hb2':=bX hb2';have s2:=(KST.out.alloc (.cells #[.int .i64 y.1,.int .i64 y.2] 81)).below hb2';have cs2:=bC s2.sums;have cf2:=bF s2.sums;have zs2:w1.heap.size<w2.heap.size:=by have:=hb2'.size;simp at this;omega
     have z22:b2<w2.heap.size:=by have:=hb2'.size;simp at this;omega
     have c23:w2.cell? ⟨b2,o2+m,none⟩ =some (.int .i64 a.2):=(hb2'.cell (p:=⟨b2,o2+m,none⟩) (by simp;omega)).trans (by go_simp);have f22:=s2.own2.frozen;have S2:=LH s2;clear s2 hb2' cs cf g1 e0 e9 e8;go_wp2_with fail;have S3:=LH (S2.out.set2 m g6 (n+y.2));clear c23 f22 S2 cs2 cf2;go_wp2_with fail;go_roundw
     case rel=>exact⟨q+1,k1,k2,t' ++ [(y.1,n+y.2)],some ⟨b1,o1,none⟩,some ⟨b2,o2,none⟩,c1,c2,by omega,by go_num,by rw [HE1.out],by have:=HKM.out;have:=HM.out;simp;omega,by have:=HKM.out;have:=HM.out;have:=kk.out;simp;omega,by have h:=S3.out;rw [HT.out,set_last HM.out (y.1,n+y.2)] at h;have e: (t' ++ [a]).map (·.1) = (t' ++ [(y.1,n+y.2)]).map (·.1):=(by simp [HAE.out]);rwa [e] at h,by have h:=KT.out;rw [HT.out,show a= (y.1,a.2) from Prod.ext HAE.out rfl] at h;have h2:=h.same HLE.out;rw [←HN.out] at h2;rwa [HTS.out],by rw [HT.out] at htq;simp at htq⊢;omega⟩
     case measure=>simp [intOf];omega
    ·have ha': (a.1 == y.1) =false:=by simpa using ha
     have HNE:=LH (show ∀z∈t,z.1≠y.1 by rw [HT.out];exact Tab.last_ne (by rw [←HT.out];exact KT.out) HLE.out ha);clear ha;go_wp2_with fail;refine rX (by kernel_rfl) (by kernel_rfl) ?_
     repeat (go_big_quiet_step (fail))
     refine wpQuiet_nil ?_;intro w2 hb2;replace hb2:=bX hb2;have c20:=(hb2.cell (p:=⟨wr.heap.size,0,none⟩) (by simp)).trans (by go_simp:_=some (Value.int .i64 y.1));have z20:wr.heap.size<w2.heap.size:=by have:=hb2.size;simp at this;omega
     have s2:=(KST.out.alloc (.cells #[.int .i64 y.1,.int .i64 y.2] 81)).below hb2;have cs2:=bC s2.sums;have cf2:=bF s2.sums;have zs2:w1.heap.size<w2.heap.size:=by omega
     have ow1: ∀g,(Value.slice (some ⟨b1,o1,none⟩) k1 c1).ownBlock=some g→g<wr.heap.size:=fun g hg=>(KST.out.own1.lt g hg).2;have ow2: ∀g,(Value.slice (some ⟨b2,o2,none⟩) k2 c2).ownBlock=some g→g<wr.heap.size:=fun g hg=>(KST.out.own2.lt g hg).2;generalize Value.slice (some ⟨b1,o1,none⟩) k1 c1=V1 at s2 cs2 ow1⊢;generalize Value.slice (some ⟨b2,o2,none⟩) k2 c2=V2 at s2 cs2 ow2⊢;have W1:=LH ow1;have W2:=LH ow2;have S2:=LH s2;clear s2 hb2 cs cf g1 g2 g3 g4 ow1 ow2 e0 e8 g7;go_wp2_with fail;refine wp_region_noPanic ?_;refine wp_region_N (fun w'=>w'.cell? ⟨w1.heap.size,0,none⟩ =some V1∧w'.cell? ⟨w1.heap.size,1,none⟩ =some V2∧w'.cell? ⟨wr.heap.size,0,none⟩ =some (.int .i64 y.1)) [12,14] (by kernel_rfl) ⟨by simp [*,go_sem],by simp [*,go_sem],by simp [*,go_sem]⟩ (fun hHeld=> ?_);refine nP 0 (.pointer (some ⟨w1.heap.size,0,none⟩)) (h:= ?_)
     (try simp only [Act.put,zD,zE,zF])
     refine nT 1 (V1) (y:=Or.inl ⟨by rfl,fun W hW=>by obtain⟨q1,q2,q3⟩:=hW;go_simp⟩) (s:=hHeld) (h:= ?_)
     (try simp only [Act.put,zD,zE,zF])
     refine nP 2 (.pointer (some ⟨wr.heap.size,0,none⟩)) (h:= ?_)
     (try simp only [Act.put,zD,zE,zF])
     refine nT 3 (.int .i64 y.1) (y:=Or.inl ⟨by rfl,fun W hW=>by obtain⟨q1,q2,q3⟩:=hW;go_simp⟩) (s:=hHeld) (h:= ?_)
     (try simp only [Act.put,zD,zE,zF])
     refine nP 6 (.pointer (some ⟨w1.heap.size,1,none⟩)) (h:= ?_)
     (try simp only [Act.put,zD,zE,zF])
     refine nT 7 (V2) (y:=Or.inl ⟨by rfl,fun W hW=>by obtain⟨q1,q2,q3⟩:=hW;go_simp⟩) (s:=hHeld) (h:= ?_)
     (try simp only [Act.put,zD,zE,zF])
     refine nP 8 (.int .i64 (n+y.2)) (h:= ?_)
     (try simp only [Act.put,zD,zE,zF])
     clear hHeld;refine wpAnyN_two (i:=4) (k:=9) (by kernel_rfl) rfl rfl (fun K hK=> ?_) (fun K hK=> ?_)
     ·skip
      go_simp;refine hK.out _ _ (fun _ _=> ?_) ?_
      ·exact⟨by simp [*,go_sem],by simp [*,go_sem],by simp [*,go_sem]⟩
      clear hK K
      (try simp only [Act.put,zD,zE,zF])
      refine wpAnyN_two (i:=5) (k:=9) (by kernel_rfl) rfl rfl (fun K hK=> ?_) (fun K hK=> ?_)
      ·skip
       refine step_app (o:=⟨some 47,_,_,_,_,_⟩) tyZ (by rfl) _ _ (by rfl) encZ (w1.heap.size+1) V1 (t.map (·.1)) (by rfl) (TwoSt.own1 (w:=w1) (base:=w.heap.size) (B:=w1.heap.size+1) (b0:=w.heap.size) (bs:=w1.heap.size) (vl:=(Value.slice (some ⟨c,off,none⟩) l'.length cap)) (ll:=l') (V1:=V1) (V2:=V2) (U2:=V2) (L2:=(t.map (·.2))) (by(repeat (first|with_reducible exact S2.out|with_reducible refine TwoSt.alloc ?_ _|with_reducible refine TwoSt.drew ?_));done)) _ 1 [y.1] _ (by rfl) (sl_cell (by simp [*,go_sem]) (by first|omega| (simp;done) | (simp;omega))) (by first|omega| (simp;omega)) (by simp [maxLen];omega) (by first|omega| (simp;omega)) ?_;intro v4 w4 ho4 hg4 hl4 hb4 hn4;obtain⟨A4,k4,m4,rfl⟩ : ∃A k m,v4=.slice A m k:=by obtain⟨A,k,hv,_⟩:=ho4.form;exact⟨A,k,_,hv⟩
       have P4:=TwoSt.app1 (w:=w1) (base:=w.heap.size) (B:=w1.heap.size+1) (b0:=w.heap.size) (bs:=w1.heap.size) (vl:=(Value.slice (some ⟨c,off,none⟩) l'.length cap)) (ll:=l') (V1:=V1) (V2:=V2) (U2:=V2) (L2:=(t.map (·.2))) (U1:=V1) (L1:=(t.map (·.1))) (by(repeat (first|with_reducible exact S2.out|with_reducible refine TwoSt.alloc ?_ _|with_reducible refine TwoSt.drew ?_));done) hg4 ho4 hl4 hb4;have r4:=hg4.size
       try simp only [World.size_alloc,World.drew] at r4
       have G4:=grown_new hg4 wr.heap.size (fun g hg=>W1.out g hg);have x4:=bC P4.sums;have f4:=bF P4.sums;have y4:w4.cell? ⟨wr.heap.size,0,none⟩ =some (.int .i64 y.1):=(G4 wr.heap.size 0 (Nat.le_refl _) (by first|omega| (simp;omega))).trans (by simp [*,go_sem]);have z4:w1.heap.size<w4.heap.size:=P4.size;have q4:wr.heap.size<w4.heap.size:=by have:=hg4.size;(try simp at this);omega
       clear hn4 hb4 hl4 hg4 ho4;refine hK.out _ _ (fun _ _=> ?_) ?_
       ·exact⟨by simp [*,go_sem],by simp [*,go_sem],by simp [*,go_sem]⟩
       clear hK K
       (try simp only [Act.put,zD,zE,zF])
       refine nP 11 (.pointer (some ⟨w1.heap.size,0,none⟩)) (h:= ?_)
       (try simp only [Act.put,zD,zE,zF])
       refine nO (i:=9) (by kernel_rfl) rfl (fun K hK=> ?_);go_simp;refine hK.out _ _ (fun _ _=> ?_) ?_
       ·exact⟨by simp [*,go_sem],by simp [*,go_sem],by simp [*,go_sem]⟩
       clear hK K
       (try simp only [Act.put,zD,zE,zF])
       refine nO (i:=10) (by kernel_rfl) rfl (fun K hK=> ?_);refine step_app (o:=⟨some 52,_,_,_,_,_⟩) tyZ (by rfl) _ _ (by rfl) encZ (w1.heap.size+1) V2 (t.map (·.2)) (by rfl) (TwoSt.own2 (w:=w1) (base:=w.heap.size) (B:=w1.heap.size+1) (b0:=w.heap.size) (bs:=w1.heap.size) (vl:=(Value.slice (some ⟨c,off,none⟩) l'.length cap)) (ll:=l') (V1:=V1) (V2:=V2) (U1:=.slice A4 m4 k4) (L1:=(t.map (·.1)) ++ [y.1]) (by(repeat (first|with_reducible exact P4|with_reducible refine TwoSt.alloc ?_ _|with_reducible refine TwoSt.drew ?_));done)) _ 1 [(n+y.2)] _ (by rfl) (sl_cell (by simp [*,go_sem]) (by first|omega| (simp;done) | (simp;omega))) (by first|omega| (simp;omega)) (by simp [maxLen];omega) (by first|omega| (simp;omega)) ?_;intro v5 w5 ho5 hg5 hl5 hb5 hn5;obtain⟨A5,k5,m5,rfl⟩ : ∃A k m,v5=.slice A m k:=by obtain⟨A,k,hv,_⟩:=ho5.form;exact⟨A,k,_,hv⟩
       have P5:=TwoSt.app2 (w:=w1) (base:=w.heap.size) (B:=w1.heap.size+1) (b0:=w.heap.size) (bs:=w1.heap.size) (vl:=(Value.slice (some ⟨c,off,none⟩) l'.length cap)) (ll:=l') (V1:=V1) (V2:=V2) (U1:=.slice A4 m4 k4) (L1:=(t.map (·.1)) ++ [y.1]) (U2:=V2) (L2:=(t.map (·.2))) (by(repeat (first|with_reducible exact P4|with_reducible refine TwoSt.alloc ?_ _|with_reducible refine TwoSt.drew ?_));done) hg5 ho5 hl5 hb5;have r5:=hg5.size
       try simp only [World.size_alloc,World.drew] at r5
       have G5:=grown_new hg5 wr.heap.size (fun g hg=>W2.out g hg);have x5:=bC P5.sums;have f5:=bF P5.sums;have y5:w5.cell? ⟨wr.heap.size,0,none⟩ =some (.int .i64 y.1):=(G5 wr.heap.size 0 (Nat.le_refl _) (by first|omega| (simp;omega))).trans (by simp [*,go_sem]);have z5:w1.heap.size<w5.heap.size:=P5.size;have q5:wr.heap.size<w5.heap.size:=by have:=hg5.size;(try simp at this);omega
       clear hn5 hb5 hl5 hg5 ho5;refine hK.out _ _ (fun _ _=> ?_) ?_
       ·exact⟨by simp [*,go_sem],by simp [*,go_sem],by simp [*,go_sem]⟩
       clear hK K
       (try simp only [Act.put,zD,zE,zF])
       refine nO (i:=12) (by kernel_rfl) rfl (fun K hK=> ?_);go_simp;refine hK.out _ _ (fun h _=>absurd (by decide) h) ?_;clear hK K
       (try simp only [Act.put,zD,zE,zF])
       refine nP 13 (.pointer (some ⟨w1.heap.size,1,none⟩)) (h:= ?_)
       (try simp only [Act.put,zD,zE,zF])
       refine nO (i:=14) (by kernel_rfl) rfl (fun K hK=> ?_);go_simp;refine hK.out _ _ (fun h _=>absurd (by decide) h) ?_;clear hK K
       (try simp only [Act.put,zD,zE,zF])
       refine nD (by kernel_rfl) ?_ _;have E4:=P5.own1.len_le;have E5:=P5.own2.len_le;simp only [List.length_append,List.length_map,List.length_cons,List.length_nil] at E4 E5;have F4:=LH E4.1;have F5:=LH E5.1;have PF:=LH P5.st;clear E4 E5 P4 P5 G4 G5 x4 x5 f4 f5 y4 y5 z4 z5 q4 q5 r4 r5 c20 z20 cs2 cf2;refine NoPanic.normal ?_;go_wp2_with fail;go_roundw
       case rel=>exact⟨q+1,m4,m5,t ++ [(y.1,n+y.2)],A4,A5,k4,k5,by omega,by go_num,by rw [HE1.out],by have:=F4.out;simp;omega,by have:=F5.out;simp;omega,by simpa using PF.out,by rw [HTS.out];have:=KT.out.more HLE.out HNE.out;rwa [←HN.out] at this,by simp;omega⟩
       case measure=>simp [intOf];omega
      ·skip
       go_simp;refine hK.out _ _ (fun _ _=> ?_) ?_
       ·exact⟨by simp [*,go_sem],by simp [*,go_sem],by simp [*,go_sem]⟩
       clear hK K
       (try simp only [Act.put,zD,zE,zF])
       refine nO (i:=5) (by kernel_rfl) rfl (fun K hK=> ?_);refine step_app (o:=⟨some 47,_,_,_,_,_⟩) tyZ (by rfl) _ _ (by rfl) encZ (w1.heap.size+1) V1 (t.map (·.1)) (by rfl) (TwoSt.own1 (w:=w1) (base:=w.heap.size) (B:=w1.heap.size+1) (b0:=w.heap.size) (bs:=w1.heap.size) (vl:=(Value.slice (some ⟨c,off,none⟩) l'.length cap)) (ll:=l') (V1:=V1) (V2:=V2) (U2:=V2) (L2:=(t.map (·.2))) (by(repeat (first|with_reducible exact S2.out|with_reducible refine TwoSt.alloc ?_ _|with_reducible refine TwoSt.drew ?_));done)) _ 1 [y.1] _ (by rfl) (sl_cell (by simp [*,go_sem]) (by first|omega| (simp;done) | (simp;omega))) (by first|omega| (simp;omega)) (by simp [maxLen];omega) (by first|omega| (simp;omega)) ?_;intro v4 w4 ho4 hg4 hl4 hb4 hn4;obtain⟨A4,k4,m4,rfl⟩ : ∃A k m,v4=.slice A m k:=by obtain⟨A,k,hv,_⟩:=ho4.form;exact⟨A,k,_,hv⟩
       have P4:=TwoSt.app1 (w:=w1) (base:=w.heap.size) (B:=w1.heap.size+1) (b0:=w.heap.size) (bs:=w1.heap.size) (vl:=(Value.slice (some ⟨c,off,none⟩) l'.length cap)) (ll:=l') (V1:=V1) (V2:=V2) (U2:=V2) (L2:=(t.map (·.2))) (U1:=V1) (L1:=(t.map (·.1))) (by(repeat (first|with_reducible exact S2.out|with_reducible refine TwoSt.alloc ?_ _|with_reducible refine TwoSt.drew ?_));done) hg4 ho4 hl4 hb4;have r4:=hg4.size
       try simp only [World.size_alloc,World.drew] at r4
       have G4:=grown_new hg4 wr.heap.size (fun g hg=>W1.out g hg);have x4:=bC P4.sums;have f4:=bF P4.sums;have y4:w4.cell? ⟨wr.heap.size,0,none⟩ =some (.int .i64 y.1):=(G4 wr.heap.size 0 (Nat.le_refl _) (by first|omega| (simp;omega))).trans (by simp [*,go_sem]);have b4:w4.cell? ⟨w2.heap.size+1,0,none⟩ =some (.int .i64 (n+y.2)):=(G4 (w2.heap.size+1) 0 (by omega) (by first|omega| (simp;done) | (simp;omega))).trans (by simp [*,go_sem]);have z4:w1.heap.size<w4.heap.size:=P4.size;have q4:wr.heap.size<w4.heap.size:=by have:=hg4.size;(try simp at this);omega
       clear hn4 hb4 hl4 hg4 ho4;refine hK.out _ _ (fun _ _=> ?_) ?_
       ·exact⟨by simp [*,go_sem],by simp [*,go_sem],by simp [*,go_sem]⟩
       clear hK K
       (try simp only [Act.put,zD,zE,zF])
       refine nP 11 (.pointer (some ⟨w1.heap.size,0,none⟩)) (h:= ?_)
       (try simp only [Act.put,zD,zE,zF])
       refine nO (i:=10) (by kernel_rfl) rfl (fun K hK=> ?_);refine step_app (o:=⟨some 52,_,_,_,_,_⟩) tyZ (by rfl) _ _ (by rfl) encZ (w1.heap.size+1) V2 (t.map (·.2)) (by rfl) (TwoSt.own2 (w:=w1) (base:=w.heap.size) (B:=w1.heap.size+1) (b0:=w.heap.size) (bs:=w1.heap.size) (vl:=(Value.slice (some ⟨c,off,none⟩) l'.length cap)) (ll:=l') (V1:=V1) (V2:=V2) (U1:=.slice A4 m4 k4) (L1:=(t.map (·.1)) ++ [y.1]) (by(repeat (first|with_reducible exact P4|with_reducible refine TwoSt.alloc ?_ _|with_reducible refine TwoSt.drew ?_));done)) _ 1 [(n+y.2)] _ (by rfl) (sl_cell (by simp [*,go_sem]) (by first|omega| (simp;done) | (simp;omega))) (by first|omega| (simp;omega)) (by simp [maxLen];omega) (by first|omega| (simp;omega)) ?_;intro v5 w5 ho5 hg5 hl5 hb5 hn5;obtain⟨A5,k5,m5,rfl⟩ : ∃A k m,v5=.slice A m k:=by obtain⟨A,k,hv,_⟩:=ho5.form;exact⟨A,k,_,hv⟩
       have P5:=TwoSt.app2 (w:=w1) (base:=w.heap.size) (B:=w1.heap.size+1) (b0:=w.heap.size) (bs:=w1.heap.size) (vl:=(Value.slice (some ⟨c,off,none⟩) l'.length cap)) (ll:=l') (V1:=V1) (V2:=V2) (U1:=.slice A4 m4 k4) (L1:=(t.map (·.1)) ++ [y.1]) (U2:=V2) (L2:=(t.map (·.2))) (by(repeat (first|with_reducible exact P4|with_reducible refine TwoSt.alloc ?_ _|with_reducible refine TwoSt.drew ?_));done) hg5 ho5 hl5 hb5;have r5:=hg5.size
       try simp only [World.size_alloc,World.drew] at r5
       have G5:=grown_new hg5 wr.heap.size (fun g hg=>W2.out g hg);have x5:=bC P5.sums;have f5:=bF P5.sums;have y5:w5.cell? ⟨wr.heap.size,0,none⟩ =some (.int .i64 y.1):=(G5 wr.heap.size 0 (Nat.le_refl _) (by first|omega| (simp;omega))).trans (by simp [*,go_sem]);have z5:w1.heap.size<w5.heap.size:=P5.size;have q5:wr.heap.size<w5.heap.size:=by have:=hg5.size;(try simp at this);omega
       clear hn5 hb5 hl5 hg5 ho5;refine hK.out _ _ (fun _ _=> ?_) ?_
       ·exact⟨by simp [*,go_sem],by simp [*,go_sem],by simp [*,go_sem]⟩
       clear hK K
       (try simp only [Act.put,zD,zE,zF])
       refine nO (i:=12) (by kernel_rfl) rfl (fun K hK=> ?_);go_simp;refine hK.out _ _ (fun h _=>absurd (by decide) h) ?_;clear hK K
       (try simp only [Act.put,zD,zE,zF])
       refine nP 13 (.pointer (some ⟨w1.heap.size,1,none⟩)) (h:= ?_)
       (try simp only [Act.put,zD,zE,zF])
       refine nO (i:=14) (by kernel_rfl) rfl (fun K hK=> ?_);go_simp;refine hK.out _ _ (fun h _=>absurd (by decide) h) ?_;clear hK K
       (try simp only [Act.put,zD,zE,zF])
       refine nD (by kernel_rfl) ?_ _;have E4:=P5.own1.len_le;have E5:=P5.own2.len_le;simp only [List.length_append,List.length_map,List.length_cons,List.length_nil] at E4 E5;have F4:=LH E4.1;have F5:=LH E5.1;have PF:=LH P5.st;clear E4 E5 P4 P5 G4 G5 x4 x5 f4 f5 y4 y5 z4 z5 q4 q5 r4 r5 c20 z20 cs2 cf2;refine NoPanic.normal ?_;go_wp2_with fail;go_roundw
       case rel=>exact⟨q+1,m4,m5,t ++ [(y.1,n+y.2)],A4,A5,k4,k5,by omega,by go_num,by rw [HE1.out],by have:=F4.out;simp;omega,by have:=F5.out;simp;omega,by simpa using PF.out,by rw [HTS.out];have:=KT.out.more HLE.out HNE.out;rwa [←HN.out] at this,by simp;omega⟩
       case measure=>simp [intOf];omega
     ·skip
      go_simp;refine hK.out _ _ (fun _ _=> ?_) ?_
      ·exact⟨by simp [*,go_sem],by simp [*,go_sem],by simp [*,go_sem]⟩
      clear hK K
      (try simp only [Act.put,zD,zE,zF])
      refine nO (i:=4) (by kernel_rfl) rfl (fun K hK=> ?_);go_simp;refine hK.out _ _ (fun _ _=> ?_) ?_
      ·exact⟨by simp [*,go_sem],by simp [*,go_sem],by simp [*,go_sem]⟩
      clear hK K
      (try simp only [Act.put,zD,zE,zF])
      refine nO (i:=5) (by kernel_rfl) rfl (fun K hK=> ?_);refine step_app (o:=⟨some 47,_,_,_,_,_⟩) tyZ (by rfl) _ _ (by rfl) encZ (w1.heap.size+1) V1 (t.map (·.1)) (by rfl) (TwoSt.own1 (w:=w1) (base:=w.heap.size) (B:=w1.heap.size+1) (b0:=w.heap.size) (bs:=w1.heap.size) (vl:=(Value.slice (some ⟨c,off,none⟩) l'.length cap)) (ll:=l') (V1:=V1) (V2:=V2) (U2:=V2) (L2:=(t.map (·.2))) (by(repeat (first|with_reducible exact S2.out|with_reducible refine TwoSt.alloc ?_ _|with_reducible refine TwoSt.drew ?_));done)) _ 1 [y.1] _ (by rfl) (sl_cell (by simp [*,go_sem]) (by first|omega| (simp;done) | (simp;omega))) (by first|omega| (simp;omega)) (by simp [maxLen];omega) (by first|omega| (simp;omega)) ?_;intro v4 w4 ho4 hg4 hl4 hb4 hn4;obtain⟨A4,k4,m4,rfl⟩ : ∃A k m,v4=.slice A m k:=by obtain⟨A,k,hv,_⟩:=ho4.form;exact⟨A,k,_,hv⟩
      have P4:=TwoSt.app1 (w:=w1) (base:=w.heap.size) (B:=w1.heap.size+1) (b0:=w.heap.size) (bs:=w1.heap.size) (vl:=(Value.slice (some ⟨c,off,none⟩) l'.length cap)) (ll:=l') (V1:=V1) (V2:=V2) (U2:=V2) (L2:=(t.map (·.2))) (U1:=V1) (L1:=(t.map (·.1))) (by(repeat (first|with_reducible exact S2.out|with_reducible refine TwoSt.alloc ?_ _|with_reducible refine TwoSt.drew ?_));done) hg4 ho4 hl4 hb4;have r4:=hg4.size
      try simp only [World.size_alloc,World.drew] at r4
      have G4:=grown_new hg4 wr.heap.size (fun g hg=>W1.out g hg);have x4:=bC P4.sums;have f4:=bF P4.sums;have y4:w4.cell? ⟨wr.heap.size,0,none⟩ =some (.int .i64 y.1):=(G4 wr.heap.size 0 (Nat.le_refl _) (by first|omega| (simp;omega))).trans (by simp [*,go_sem]);have b4:w4.cell? ⟨w2.heap.size,0,none⟩ =some (.int .i64 (n+y.2)):=(G4 (w2.heap.size) 0 (by omega) (by first|omega| (simp;done) | (simp;omega))).trans (by simp [*,go_sem]);have z4:w1.heap.size<w4.heap.size:=P4.size;have q4:wr.heap.size<w4.heap.size:=by have:=hg4.size;(try simp at this);omega
      clear hn4 hb4 hl4 hg4 ho4;refine hK.out _ _ (fun _ _=> ?_) ?_
      ·exact⟨by simp [*,go_sem],by simp [*,go_sem],by simp [*,go_sem]⟩
      clear hK K
      (try simp only [Act.put,zD,zE,zF])
      refine nP 11 (.pointer (some ⟨w1.heap.size,0,none⟩)) (h:= ?_)
      (try simp only [Act.put,zD,zE,zF])
      refine nO (i:=10) (by kernel_rfl) rfl (fun K hK=> ?_);refine step_app (o:=⟨some 52,_,_,_,_,_⟩) tyZ (by rfl) _ _ (by rfl) encZ (w1.heap.size+1) V2 (t.map (·.2)) (by rfl) (TwoSt.own2 (w:=w1) (base:=w.heap.size) (B:=w1.heap.size+1) (b0:=w.heap.size) (bs:=w1.heap.size) (vl:=(Value.slice (some ⟨c,off,none⟩) l'.length cap)) (ll:=l') (V1:=V1) (V2:=V2) (U1:=.slice A4 m4 k4) (L1:=(t.map (·.1)) ++ [y.1]) (by(repeat (first|with_reducible exact P4|with_reducible refine TwoSt.alloc ?_ _|with_reducible refine TwoSt.drew ?_));done)) _ 1 [(n+y.2)] _ (by rfl) (sl_cell (by simp [*,go_sem]) (by first|omega| (simp;done) | (simp;omega))) (by first|omega| (simp;omega)) (by simp [maxLen];omega) (by first|omega| (simp;omega)) ?_;intro v5 w5 ho5 hg5 hl5 hb5 hn5;obtain⟨A5,k5,m5,rfl⟩ : ∃A k m,v5=.slice A m k:=by obtain⟨A,k,hv,_⟩:=ho5.form;exact⟨A,k,_,hv⟩
      have P5:=TwoSt.app2 (w:=w1) (base:=w.heap.size) (B:=w1.heap.size+1) (b0:=w.heap.size) (bs:=w1.heap.size) (vl:=(Value.slice (some ⟨c,off,none⟩) l'.length cap)) (ll:=l') (V1:=V1) (V2:=V2) (U1:=.slice A4 m4 k4) (L1:=(t.map (·.1)) ++ [y.1]) (U2:=V2) (L2:=(t.map (·.2))) (by(repeat (first|with_reducible exact P4|with_reducible refine TwoSt.alloc ?_ _|with_reducible refine TwoSt.drew ?_));done) hg5 ho5 hl5 hb5;have r5:=hg5.size
      try simp only [World.size_alloc,World.drew] at r5
      have G5:=grown_new hg5 wr.heap.size (fun g hg=>W2.out g hg);have x5:=bC P5.sums;have f5:=bF P5.sums;have y5:w5.cell? ⟨wr.heap.size,0,none⟩ =some (.int .i64 y.1):=(G5 wr.heap.size 0 (Nat.le_refl _) (by first|omega| (simp;omega))).trans (by simp [*,go_sem]);have z5:w1.heap.size<w5.heap.size:=P5.size;have q5:wr.heap.size<w5.heap.size:=by have:=hg5.size;(try simp at this);omega
      clear hn5 hb5 hl5 hg5 ho5;refine hK.out _ _ (fun _ _=> ?_) ?_
      ·exact⟨by simp [*,go_sem],by simp [*,go_sem],by simp [*,go_sem]⟩
      clear hK K
      (try simp only [Act.put,zD,zE,zF])
      refine nO (i:=12) (by kernel_rfl) rfl (fun K hK=> ?_);go_simp;refine hK.out _ _ (fun h _=>absurd (by decide) h) ?_;clear hK K
      (try simp only [Act.put,zD,zE,zF])
      refine nP 13 (.pointer (some ⟨w1.heap.size,1,none⟩)) (h:= ?_)
      (try simp only [Act.put,zD,zE,zF])
      refine nO (i:=14) (by kernel_rfl) rfl (fun K hK=> ?_);go_simp;refine hK.out _ _ (fun h _=>absurd (by decide) h) ?_;clear hK K
      (try simp only [Act.put,zD,zE,zF])
      refine nD (by kernel_rfl) ?_ _;have E4:=P5.own1.len_le;have E5:=P5.own2.len_le;simp only [List.length_append,List.length_map,List.length_cons,List.length_nil] at E4 E5;have F4:=LH E4.1;have F5:=LH E5.1;have PF:=LH P5.st;clear E4 E5 P4 P5 G4 G5 x4 x5 f4 f5 y4 y5 z4 z5 q4 q5 r4 r5 c20 z20 cs2 cf2;refine NoPanic.normal ?_;go_wp2_with fail;go_roundw
      case rel=>exact⟨q+1,m4,m5,t ++ [(y.1,n+y.2)],A4,A5,k4,k5,by omega,by go_num,by rw [HE1.out],by have:=F4.out;simp;omega,by have:=F5.out;simp;omega,by simpa using PF.out,by rw [HTS.out];have:=KT.out.more HLE.out HNE.out;rwa [←HN.out] at this,by simp;omega⟩
      case measure=>simp [intOf];omega
  ·obtain rfl:q=l'.length:=by omega
   rw [List.take_length] at KT;have ct:=bC hst.zero;have cft:=bF hst.zero;have zt:=lB hst.zero;clear hst htab;subst hk1;subst hk2;go_wp2_with fail;refine bR (v:=.agg #[.slice A1 t.length c1,.slice A2 t.length c2]) (by simp only [results,Tryz.results29];go_simp) rfl ⟨t,A1,c1,A2,c2,rfl,KT.out.perm HP.out,by have:=HLen.out;omega,?_,?_,?_⟩
   ·exact((KST.out.own1.setCellB (by simp only;omega)).setCellB (by simp only;omega)).base_le (by omega)
   ·exact((KST.out.own2.setCellB (by simp only;omega)).setCellB (by simp only;omega)).base_le (by omega)
   ·have hB:=(KST.out.blw.setCell (p:=⟨w.heap.size,0,none⟩) (Nat.le_refl _) (.slice A1 t.length c1)).setCell (p:=⟨w.heap.size,1,none⟩) (Nat.le_refl _) (.slice A2 t.length c2)
    have hA:Below w.heap.size w (w.alloc (.cells #[.slice none 0 0,.slice none 0 0] 83)):=(Below.refl _ _).alloc (Nat.le_refl _) _;exact turn_then hA HTu.out hB
end Go.Proofs.YtapgmnnchbepiaaGreat
