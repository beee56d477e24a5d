/-
  Texts of this proof, one behind the other: Table, TabOf, FitsP, Of, EachOf, Bound, Bound2, BoundRef, BinsOfP, QuantLaw, Quant, Quant2, PartB, Quant3, Quant4, Float, QuantPlain, Many, TableN, Many2, EvenLaw, Same, Bars, Even, Flow, FlowRank, Plus, Mean, Worst.
-/
import Derived.Shelf.SlSorted.Search
import Derived.Deep.DeepCutAuto
import Derived.Test.YtapgmnnchbepiaaGreatLaid
import GoSem.Core.Float
import Derived.Laws.Externs
import Derived.Test.YtapgmnnchbepiaaGreatR2
import Derived.Test.YtapgmnnchbepiaaGreatR3
set_option linter.unusedVariables false
set_option linter.unusedSimpArgs false
set_option maxRecDepth 100000
set_option maxHeartbeats 16000000
namespace Go.Proofs.YtapgmnnchbepiaaGreat
open Go.ChangeShapes Go.WideShapes Go.ChangeAt Go.RowKit
def upT (t:List Nd) (x:Int) :Int:=if atMost t x=0 then 0 else (t.getD (atMost t x - 1) (0,0)).2
theorem Tab.upT {l t:List Nd} (h:Tab l t) (x:Int) :upT t x=wUp l x:=by
 unfold Go.Proofs.YtapgmnnchbepiaaGreat.upT;by_cases h0:atMost t x=0
 ·rw [if_pos h0,h.none h0]
 ·have hi:atMost t x - 1<t.length:=by have:=atMost_le t x;omega
  rw [if_neg h0,getD_at hi,h.some h0 hi]
theorem upTo_closure (W:World) (b2 b3 i n c2 blk off:Nat) (v2:Value) (x y:Int) (hi:i<n) (hn:n≤67108864) (h2:W.cell? ⟨b2,0,none⟩ =some (.slice (some ⟨blk,off,none⟩) n c2)) (h3:W.cell? ⟨b3,0,none⟩ =some (.int .i64 x)) (h4:W.cell? ⟨blk,off+i,none⟩ =some (.int .i64 y)) :
 Calls Tryz.prog 90 (#[.int .i64 i] ++ #[.pointer (some ⟨b2,0,none⟩),.pointer (some ⟨b3,0,none⟩)]) W fun e w'=>e=.returned (.bool (decide (x<y)))∧∃q os,w'=Go.Sort.grow (W.drewN q) os:=by
 have hi1: (i:Int) < (n:Int):=by omega
 go_enter Tryz.func90,Tryz.ntmps90
 go_wp2_with fail
 go_region
 all_goals go_wp2_with fail
 all_goals go_ret
 all_goals exact⟨rfl,1, #[],by rw [Go.Sort.grow_empty];rfl⟩
theorem enters_upTo: ∀args W,(callFunc 90 args).run Tryz.prog W=.ok (.enter 90 args) W:=enters_of Tryz.func90 (by kernel_rfl) rfl
theorem rise_mono {t:List Nd} (hr:t.Pairwise fun a b=>a.1<b.1) (x:Int) (a b:Nat) (hab:a≤b) (hb:b<t.length) (h:decide (x< (t.getD a (0,0)).1) =true) :decide (x< (t.getD b (0,0)).1) =true:=by
 rw [getD_at (by omega)] at h;rw [getD_at hb];simp only [decide_eq_true_eq] at h⊢;rcases Nat.lt_or_ge a b with hlt|hge
 ·have:=List.pairwise_iff_getElem.1 hr a b (by omega) hb hlt;omega
 ·obtain rfl:a=b:=by omega
  exact h
theorem sums_upTo (w:World) (A1 A2:Option Addr) (c1 c2:Nat) (t:List Nd) (x:Int) (h1:Sl w w.heap.size encZ A1 (t.map (·.1))) (h2:Sl w w.heap.size encZ A2 (t.map (·.2))) (hm:t.length≤67108864) (hr:t.Pairwise fun a b=>a.1<b.1) :
 Calls Tryz.prog 32 #[.agg #[.slice A1 t.length c1,.slice A2 t.length c2],.int .i64 x] w fun e w'=>e=.returned (.int .i64 (upT t x))∧Below w.heap.size w w':=by
 obtain⟨W0,hW0⟩ : ∃W0,W0= (w.alloc (.cells #[.slice A1 t.length c1,.slice A2 t.length c2] 83)).alloc (.cells #[.int .i64 x] 3):=⟨_,rfl⟩;have hsz:W0.heap.size=w.heap.size+1+1:=by rw [hW0];simp
 have B0:Below w.heap.size w W0:=by rw [hW0];exact bE
 have k0:W0.cell? ⟨w.heap.size,0,none⟩ =some (.slice A1 t.length c1):=by rw [hW0];go_simp
 have k1:W0.cell? ⟨w.heap.size,1,none⟩ =some (.slice A2 t.length c2):=by rw [hW0];go_simp
 have k2:W0.cell? ⟨w.heap.size+1,0,none⟩ =some (.int .i64 x):=by rw [hW0];go_simp
 have hS:=Go.Proofs.Any.sort_Search Tryz.search 90 #[.pointer (some ⟨w.heap.size,0,none⟩),.pointer (some ⟨w.heap.size+1,0,none⟩)] t.length (fun i=>decide (x< (t.getD i (0,0)).1)) W0 enters_upTo (by omega)
  (fun m os i hi=>by
    rw [getD_at hi];rcases h1 with h1| ⟨blk,off,rfl,hb,hc⟩
    ·have:t.length=0:=by have:=congrArg List.length h1;simpa using this
     omega
    ·have hc':=hc i t[i].1 (by simp [hi]) 0 (.int .i64 t[i].1) rfl
     simp only [Nat.add_zero,Nat.mul_one] at hc';refine upTo_closure _ w.heap.size (w.heap.size+1) i t.length c1 blk off undef x t[i].1 hi hm (Go.cell_grown (by simp only [hsz];omega) k0 m os) (Go.cell_grown (by simp only [hsz];omega) k2 m os) (Go.cell_grown (by simp only [hsz];omega) ((B0.cell (p:=⟨blk,off+i,none⟩) hb).trans hc') m os))
  (rise_mono hr x)
 have HS:Hid (Calls Tryz.prog 89 #[.int .i64 t.length,.func (.func 90) #[] #[.pointer (some ⟨w.heap.size,0,none⟩),.pointer (some ⟨w.heap.size+1,0,none⟩)]] W0 fun e w'=>e=.returned (.int .i64 (atMost t x))∧∃q os,w'=Go.Sort.grow (W0.drewN q) os):=LH hS;have hle:=atMost_le t x;have H2:=LH h2;have HW:=LH hW0;have K1:=LH k1;have HB0:=LH B0;have HZ:=LH hsz;clear hS h1 h2 hr k0 k1 k2 B0 hsz hW0;unfold upT;generalize hk:atMost t x=k at HS hle⊢;clear hk;by_cases hk0:k=0
 ·subst hk0
  rw [if_pos rfl]
  go_enter Tryz.func32,Tryz.ntmps32
  go_wp2_with fail;rw [←HW.out];refine HS.out.mono ?_;rintro e w1 ⟨rfl,q,os,rfl⟩;go_wp2_with fail;go_ret;exact⟨rfl,HB0.out.trans (Go.Proofs.below_grown_sl w.heap.size W0 q os (by have:=HZ.out;omega))⟩
 ·rw [if_neg hk0]
  obtain⟨m,rfl⟩ : ∃m,k=m+1:=⟨k - 1,by omega⟩;simp only [Nat.add_sub_cancel];have hm1:m<t.length:=by omega
  rw [getD_at hm1];have g0: ((m+1:Nat) == 0) =false:=by simp
  have g2: (m:Int) < (t.length:Int):=by omega
  obtain⟨blk,off,rfl,hb,hc⟩:=H2.out.at_ (k:=m) (by simpa using hm1);have hc':=hc 0 (.int .i64 t[m].2) (by simp [encZ]);simp only [Nat.add_zero,Nat.mul_one] at hc';generalize t[m].2=z at hc'⊢;clear hc
  go_enter Tryz.func32,Tryz.ntmps32
  go_wp2_with fail;rw [←HW.out];refine HS.out.mono ?_;rintro e w1 ⟨rfl,q,os,hw1⟩;have hB1:Below w.heap.size w w1:=by rw [hw1];exact HB0.out.trans (Go.Proofs.below_grown_sl w.heap.size W0 q os (by have:=HZ.out;omega))
  have c1':w1.cell? ⟨w.heap.size,1,none⟩ =some (.slice (some ⟨blk,off,none⟩) t.length c2):=by rw [hw1];exact Go.cell_grown (by have:=HZ.out;simp only;omega) K1.out q os
  have c2':=(hB1.cell (p:=⟨blk,off+m,none⟩) hb).trans hc';clear hw1 hc';go_wp2_with fail;go_ret;exact⟨rfl,hB1⟩
def TabAt (w:World) (L B g:Nat) (n:Int) (lt ft:List Nd) :Prop:=
 L≤g∧g<B∧∃A1 c1 A2 c2 A3 c3 A4 c4,w.heap[g]? =some (.cells #[.int .i64 n,.slice A1 lt.length c1,.slice A2 lt.length c2,.slice A3 ft.length c3,.slice A4 ft.length c4] 86 (0,0))∧
  (Own w L 3 encZ (.slice A1 lt.length c1) (lt.map (·.1))∧Own w L 3 encZ (.slice A2 lt.length c2) (lt.map (·.2))∧Own w L 3 encZ (.slice A3 ft.length c3) (ft.map (·.1))∧Own w L 3 encZ (.slice A4 ft.length c4) (ft.map (·.2)))∧
  ∀A n c,(A,n,c)∈ [(A1,lt.length,c1),(A2,lt.length,c2),(A3,ft.length,c3),(A4,ft.length,c4)]→∀k,(Value.slice A n c).ownBlock=some k→k<B
section
variable {w w':World} {L B g:Nat} {n:Int} {lt ft:List Nd}
theorem TabAt.keep (h:TabAt w L B g n lt ft) (hk: ∀b,L≤b→b<B→w'.heap[b]? =w.heap[b]?) :TabAt w' L B g n lt ft:=by
 obtain⟨h0,h0',A1,c1,A2,c2,A3,c3,A4,c4,h1,⟨h2,h3,h4,h5⟩,h6⟩:=h;refine⟨h0,h0',A1,c1,A2,c2,A3,c3,A4,c4,(hk g h0 h0').trans h1,⟨?_,?_,?_,?_⟩,h6⟩
 ·exact h2.of_block fun b hb=>hk b (h2.lt b hb).1 (h6 _ _ _ (by simp) b hb)
 ·exact h3.of_block fun b hb=>hk b (h3.lt b hb).1 (h6 _ _ _ (by simp) b hb)
 ·exact h4.of_block fun b hb=>hk b (h4.lt b hb).1 (h6 _ _ _ (by simp) b hb)
 ·exact h5.of_block fun b hb=>hk b (h5.lt b hb).1 (h6 _ _ _ (by simp) b hb)
theorem TabAt.below (h:TabAt w L B g n lt ft) (hb:Below B w w') :TabAt w' L B g n lt ft:=h.keep fun b _ hlt=>hb.block b hlt
theorem TabAt.set (h:TabAt w L B g n lt ft) {p:Addr} (hp:p.block<L) (u:Value) :TabAt (w.setCell p u) L B g n lt ft:=h.keep fun b hb _=>Below.heap_setCell _ _ _ _ (by omega)
theorem table_Low (x:Int) (h:TabAt w L B g n lt ft) (hm:lt.length≤67108864) (hr:lt.Pairwise fun a b=>a.1<b.1) :
 Calls Tryz.prog 9 #[.pointer (some ⟨g,0,none⟩),.int .i64 x] w fun e w'=>e=.returned (.int .i64 (upT lt x))∧Below w.heap.size w w':=by
 obtain⟨h0,h0',A1,c1,A2,c2,A3,c3,A4,c4,h1,⟨o2,o3,o4,o5⟩,h6⟩:=h;have h2:=o2.sl;have h3:=o3.sl;have h4:=o4.sl;have h5:=o5.sl;have c:=bC h1;have H2:=LH h2;have H3:=LH h3;have HR:=LH hr;clear h1 h2 h3 h4 h5 hr o2 o3 o4 o5 h6
 go_enter Tryz.func9,Tryz.ntmps9
 go_wp2_with fail;refine(sums_upTo _ A1 A2 c1 c2 lt x H2.out H3.out hm HR.out).mono ?_;rintro e w1 ⟨rfl,hb1⟩;have B1:Below w.heap.size w w1:=Below.then_ bE hb1;have s1:=B1.size;go_wp2_with fail;go_ret;exact⟨rfl,bE⟩
theorem table_High (x:Int) (h:TabAt w L B g n lt ft) (hm:ft.length≤67108864) (hr:ft.Pairwise fun a b=>a.1<b.1) :
 Calls Tryz.prog 10 #[.pointer (some ⟨g,0,none⟩),.int .i64 x] w fun e w'=>e=.returned (.int .i64 (upT ft x))∧Below w.heap.size w w':=by
 obtain⟨h0,h0',A1,c1,A2,c2,A3,c3,A4,c4,h1,⟨o2,o3,o4,o5⟩,h6⟩:=h;have h2:=o2.sl;have h3:=o3.sl;have h4:=o4.sl;have h5:=o5.sl;have c:=bC h1;have H2:=LH h4;have H3:=LH h5;have HR:=LH hr;clear h1 h2 h3 h4 h5 hr o2 o3 o4 o5 h6
 go_enter Tryz.func10,Tryz.ntmps10
 go_wp2_with fail;refine(sums_upTo _ A3 A4 c3 c4 ft x H2.out H3.out hm HR.out).mono ?_;rintro e w1 ⟨rfl,hb1⟩;have B1:Below w.heap.size w w1:=Below.then_ bE hb1;have s1:=B1.size;go_wp2_with fail;go_ret;exact⟨rfl,bE⟩
theorem table_Both (x:Int) (h:TabAt w L B g n lt ft) (hBw:B≤w.heap.size) (hm:lt.length≤67108864) (hr:lt.Pairwise fun a b=>a.1<b.1) (hm2:ft.length≤67108864) (hr2:ft.Pairwise fun a b=>a.1<b.1) :
 Calls Tryz.prog 51 #[.pointer (some ⟨g,0,none⟩),.int .i64 x] w fun e w'=>e=.returned (.agg #[.int .i64 (upT lt x),.int .i64 (upT ft x)])∧Below w.heap.size w w':=by
 have HA:=LH (h.below ((Below.refl B w).alloc hBw (.cells #[.int .i64 0,.int .i64 0] 40)));have HR:=LH hr;have HR2:=LH hr2;clear h hr hr2
 go_enter Tryz.func51,Tryz.ntmps51
 go_wp2_with fail;refine(table_Low x HA.out hm HR.out).mono ?_;rintro e w1 ⟨rfl,hb1⟩;have B1:Below w.heap.size w w1:=Below.then_ bE hb1;have s1:=B1.size;have z1_0:w.heap.size<w1.heap.size:=by have:=hb1.size;(try simp at this);omega
 have y1_0:w.heap.size≤w1.heap.size:=Nat.le_of_lt z1_0;have c1_0:=czB hb1 (w.heap.size);have f1_0:=fzB hb1 (w.heap.size);have HA1:=LH (HA.out.below (hb1.mono (by simp;omega)));have K:=LH ((bothAt.new w 0 0).below hb1);go_wp2_with fail;refine(table_High x HA1.out hm2 HR2.out).mono ?_;rintro e w2 ⟨rfl,hb2⟩;have B2:Below w.heap.size w w2:=Below.then_ bE hb2;have s2:=B2.size;have k:=K.out.below hb2;have cc:=bC k;have cf:=bF k;have zz:=lB k;clear k;go_wp2_with fail;exact bR (v:=.agg #[.int .i64 (upT lt x),.int .i64 (upT ft x)]) (by simp only [results,Tryz.results51];go_simp) rfl ⟨rfl,bE⟩
end
@[go_sem] theorem run_eqZ_nil (w:World) (A:Option Addr) (n c:Nat) : (binOp .eql 45 (.slice A n c) (.slice none 0 0)).run Tryz.prog w=.ok (.bool A.isNone) w:=Lib.run_eql_slice_nil w _ _ A n c 0 0 Tryz.underlying45
theorem clone_Z (w:World) (A:Option Addr) (cap:Nat) (l:List Int) (hS:Sl w w.heap.size encZ A l) (hn:l.length≤67108864) :
 Calls Tryz.prog 162 #[.slice A l.length cap] w (OwnPost 3 encZ l w):=by
 rcases A with _|a
 ·have h0:l= []:=by
   rcases hS with h| ⟨b,off,hA,_⟩
   ·exact h
   ·cases hA
  subst h0
  go_enter Tryz.func162,Tryz.ntmps162
  go_wp2_with fail;go_ret;exact⟨_,rfl,Own.nil _ _ _ _,bE⟩
 ·have HS:=LH hS
  clear hS
  go_enter Tryz.func162,Tryz.ntmps162
  go_wp2_with ((at_builtin;refine wpList_app tyZ rfl _ _ rfl encZ w.heap.size (.slice (some ⟨w.heap.size,0,none⟩) 0 0) [] rfl ?ho (some a) cap l w.heap.size rfl ?hs ?c1 ?c2 ?c3 ?c4))
  case ho=>exact .inr ⟨w.heap.size,0,0, #[],rfl,Nat.le_refl _,heap_alloc_new w _,Nat.le_refl _,by simp,by simp,fun j u hj=>by simp at hj⟩
  case hs=>exact HS.out.keep (Nat.le_refl _) fun p hp=>((Below.refl w.heap.size w).alloc (Nat.le_refl _) _).cell hp
  case c1=>simp;omega
  case c2=>simp [maxLen];omega
  case c3=>simp
  case c4=>
   intro v' w1 ho1 _ _ hb1 _;have B1:Below w.heap.size w w1:=((Below.refl w.heap.size w).alloc (Nat.le_refl _) _).trans hb1;have HO1:=LH (show Own w1 w.heap.size 3 encZ v' l by simpa using ho1);clear ho1;go_wp2_with fail;go_ret;exact⟨_,rfl,HO1.out,B1⟩
theorem table_Steps {w:World} {L B g:Nat} {n:Int} {lt ft:List Nd} (h:TabAt w L B g n lt ft) (hm:lt.length≤67108864) :
 Calls Tryz.prog 97 #[.pointer (some ⟨g,0,none⟩)] w (OwnPost 3 encZ (lt.map (·.1)) w):=by
 obtain⟨h0,h0',A1,c1,A2,c2,A3,c3,A4,c4,h1,⟨o2,o3,o4,o5⟩,h6⟩:=h;have h2:=o2.sl;have h3:=o3.sl;have h4:=o4.sl;have h5:=o5.sl;have c:=bC h1;have HC:=LH (clone_Z w A1 c1 (lt.map (·.1)) h2 (by simpa using hm));rw [List.length_map] at HC;clear h1 h2 h3 h4 h5 o2 o3 o4 o5 h6
 go_enter Tryz.func97,Tryz.ntmps97
 go_wp2_with fail;refine HC.out.mono ?_;rintro e w1 ⟨v,rfl,ho,hb⟩;have HO:=LH ho;clear ho;go_wp2_with fail;go_ret;exact⟨_,rfl,HO.out,hb⟩
theorem ends_48 {l:Nat} (hl:l≤48) {id:Int} (h:isNode l id=true) :0≤(endsOf l id).1∧(endsOf l id).1≤(endsOf l id).2.1∧(endsOf l id).2.1≤281474976710655:=by
 have h1:=ends_bounds h;have h2:=pow_48 (n:=l) hl;omega
theorem Fits.nodes {l:Nat} {r:List Nd} (hf:Fits l r) (hl:1≤l∧l≤48) : ∀x∈r,isNode l x.1=true:=by
 intro x hx;have h1:=(hf.roll.2 x hx).1;have h2:=hf.lt x hx;simp only [isNode,decide_eq_true_eq,Int.toNat_natCast];omega
def lastL (l:Int) (r:List Nd) :List Nd:=r.map fun x=>((endsOf l x.1).2.1,x.2)
def firstL (l:Int) (r:List Nd) :List Nd:=r.map fun x=>((endsOf l x.1).1,x.2)
theorem low_up (l:Int) (r:List Nd) (y:Int) :wUp (lastL l r) y=lowOf l r y:=by
 induction r with
 |nil=>rfl
 |cons x r ih=>
  simp only [lastL,List.map_cons,wUp,lowOf,weighR,decide_eq_true_eq] at ih⊢;rw [ih]
theorem high_up (l:Int) (r:List Nd) (y:Int) :wUp (firstL l r) y=highOf l r y:=by
 induction r with
 |nil=>rfl
 |cons x r ih=>
  simp only [firstL,List.map_cons,wUp,highOf,weighR,decide_eq_true_eq] at ih⊢;rw [ih]
theorem sum_last (l:Int) (r:List Nd) :sumR (lastL l r) =sumR r:=by
 induction r with
 |nil=>rfl
 |cons x r ih=>simp only [lastL,List.map_cons,sumR] at ih⊢;rw [ih]
theorem sum_first (l:Int) (r:List Nd) :sumR (firstL l r) =sumR r:=by
 induction r with
 |nil=>rfl
 |cons x r ih=>simp only [firstL,List.map_cons,sumR] at ih⊢;rw [ih]
theorem tyRd2:SliceTy Tryz.prog 73 81 2 16 (.agg #[.int .i64 0,.int .i64 0]):=⟨Tryz.underlying73,by kernel_rfl,rfl,by decide⟩
def OfPost (l:Int) (r:List Nd) (w:World) (e:Ending) (w':World) :Prop:=
 ∃g lt ft,e=.returned (.pointer (some ⟨g,0,none⟩))∧TabAt w' w.heap.size w'.heap.size g (sumR r) lt ft∧Tab (lastL l r) lt∧Tab (firstL l r) ft∧lt.length≤r.length∧ft.length≤r.length∧Below w.heap.size w w'
structure TwoR (W:World) (B:Nat) (U1:Value) (L1:List Nd) (U2:Value) (L2:List Nd) :Prop where
 own1:Own W B 81 encN U1 L1
 own2:Own W B 81 encN U2 L2
 sep:Sep U1 U2
section
variable {W W':World} {B:Nat} {U1 U1':Value} {L1 L1':List Nd} {U2 U2':Value} {L2 L2':List Nd}
theorem TwoR.below (h:TwoR W B U1 L1 U2 L2) (hb:Below W.heap.size W W') :TwoR W' B U1 L1 U2 L2:=⟨h.own1.below hb,h.own2.below hb,h.sep⟩
theorem TwoR.app1 (h:TwoR W B U1 L1 U2 L2) {k:Nat} (hg:W.grownBy W' U1.ownBlock) (ho:Own W' B 81 encN U1' L1') (hl:U1'.ownBlock=U1.ownBlock∨U1'.ownBlock=some (W.heap.size+k)) :TwoR W' B U1' L1' U2 L2:=
 ⟨ho,h.own2.kept hg (by
  cases e:U2.ownBlock with
  |none=>exact .inl rfl
  |some g=>exact .inr fun he=>h.sep g (by rw [←he]) e),fun g h1 h2=>by
   rcases hl with hl|hl
   ·exact h.sep g (hl ▸ h1) h2
   ·rw [hl] at h1;cases h1;have:=(h.own2.lt _ h2).2;omega⟩
theorem TwoR.app2 (h:TwoR W B U1 L1 U2 L2) {k:Nat} (hg:W.grownBy W' U2.ownBlock) (ho:Own W' B 81 encN U2' L2') (hl:U2'.ownBlock=U2.ownBlock∨U2'.ownBlock=some (W.heap.size+k)) :TwoR W' B U1 L1 U2' L2':=
 ⟨h.own1.kept hg (by
  cases e:U1.ownBlock with
  |none=>exact .inl rfl
  |some g=>exact .inr fun he=>h.sep g e (by rw [←he])),ho,fun g h1 h2=>by
   rcases hl with hl|hl
   ·exact h.sep g h1 (hl ▸ h2)
   ·rw [hl] at h2;cases h2;have:=(h.own1.lt _ h1).2;omega⟩
end
theorem take_last {l:Int} {r:List Nd} {q:Nat} (h:q<r.length) :lastL l (r.take (q+1)) =lastL l (r.take q) ++ [((endsOf l r[q].1).2.1,r[q].2)]:=by
 unfold lastL;rw [List.take_succ_eq_append_getElem h,List.map_append];rfl
theorem take_first {l:Int} {r:List Nd} {q:Nat} (h:q<r.length) :firstL l (r.take (q+1)) =firstL l (r.take q) ++ [((endsOf l r[q].1).1,r[q].2)]:=by
 unfold firstL;rw [List.take_succ_eq_append_getElem h,List.map_append];rfl
theorem rank_Of (w:World) (g K l:Nat) (k:Int) (r:List Nd) (F:Nat→Prop) (h:DigAt w g K l k r F) (hn:r.length≤67108864) :
 Calls Tryz.prog 7 #[.pointer (some ⟨g,0,none⟩)] w (OfPost l r w):=by
 have hf:=h.fits;have hll:=h.l_le;have HD:=LH h;have hnd:=hf.nodes hll
 have hlast: ∀x∈lastL l r,0≤x.1∧x.1≤281474976710655:=fun x hx=>by
  obtain⟨y,hy,rfl⟩:=List.mem_map.1 hx;have:=ends_48 hll.2 (hnd y hy);simp only;omega
 have hfirst: ∀x∈firstL l r,0≤x.1∧x.1≤281474976710655:=fun x hx=>by
  obtain⟨y,hy,rfl⟩:=List.mem_map.1 hx;have:=ends_48 hll.2 (hnd y hy);simp only;omega
 have hlast1: ∀x∈lastL l r,1≤x.2:=fun x hx=>by obtain⟨y,hy,rfl⟩:=List.mem_map.1 hx;exact(hf.roll.2 y hy).2
 have hfirst1: ∀x∈firstL l r,1≤x.2:=fun x hx=>by obtain⟨y,hy,rfl⟩:=List.mem_map.1 hx;exact(hf.roll.2 y hy).2
 have ML:=LH (fun W base v (ho:Own W base 81 encN v (lastL l r))=>rank_made W base v (lastL l r) ho hlast hlast1 (by rw [sum_last];exact hf.sum) (by simpa [lastL] using hn));have MF:=LH (fun W base v (ho:Own W base 81 encN v (firstL l r))=>rank_made W base v (firstL l r) ho hfirst hfirst1 (by rw [sum_first];exact hf.sum) (by simpa [firstL] using hn));clear h hlast hfirst hlast1 hfirst1 hnd
 go_enter Tryz.func7,Tryz.ntmps7
 go_wp2_with fail;refine(digest_Conf _ g K l k r F HD.out).mono ?_;rintro e w1 ⟨rfl,hb1⟩;have B1:Below w.heap.size w w1:=Below.then_ bE hb1;have s1:=B1.size;have HD1:=LH (HD.out.below B1);go_wp2_with fail;refine(digest_Nodes _ g K l k r F HD1.out hn).mono ?_;rintro e w2 ⟨v,rfl,ho,hb2⟩;have B2:Below w.heap.size w w2:=Below.then_ bE hb2;have s2:=B2.size;have HO:=LH ho;have HB2:=LH B2;obtain⟨A,cap,rfl,_⟩:=ho.form;clear ho hb1 hb2 B1 B2;go_wp2_with fail
 go_loopw [3,4,19] (fun f t i wr=>∃(q:Nat) (v1 v2:Value),q≤r.length∧i=.int .i64 q∧f=v1∧t=v2∧TwoR wr w2.heap.size v1 (firstL l (r.take q)) v2 (lastL l (r.take q))∧Own wr w1.heap.size 77 encN (.slice A r.length cap) r∧Below w.heap.size w wr∧w2.heap.size≤wr.heap.size) (fun _ _ i _=>r.length - (intOf i).toNat)
 case atStart=>exact⟨0,.slice none 0 0,.slice none 0 0,Nat.zero_le _,rfl,rfl,rfl,⟨Own.nil _ _ _ _,Own.nil _ _ _ _,(fun g h=>by cases h)⟩,HO.out,HB2.out,Nat.le_refl _⟩
 case round=>
  obtain⟨q,v1,v2,hq,rfl,rfl,rfl,htwo,hown,hB,hs⟩:=hrel;have KT:=LH htwo;have KO:=LH hown;have KB:=LH hB;clear htwo hown;by_cases hlt:q<r.length
  ·obtain⟨c,off,rfl,hc,hcl⟩:=KO.out.sl.at_ hlt
   have d0:=hcl 0 (.int .i64 r[q].1) rfl;have d1:=hcl 1 (.int .i64 r[q].2) rfl;simp only [Nat.add_zero] at d0;have hxl:=hf.lt _ (List.getElem_mem hlt);have hp:=pow_48 (n:=l) hll.2;have TL:=LH (take_last (l:=l) hlt);have TF:=LH (take_first (l:=l) hlt);obtain⟨x,hxe⟩ : ∃x,x=r[q]:=⟨_,rfl⟩;rw [←hxe] at d0 d1 hxl TL TF;have hx1:x.1≤562949953421312:=by omega
   have HE:=LH (twig_Ends · l x.1 (by omega));have lf: (firstL l (r.take q)).length=q:=by simp [firstL];omega
   have ll: (lastL l (r.take q)).length=q:=by simp [lastL];omega
   have LF:=LH lf;have LL:=LH ll;generalize endsOf l x.1=t at HE TL TF;obtain⟨t1,t2,t3⟩:=t;simp only at TL TF;unfold endsV at HE;clear hcl hxe hxl hp lf ll;go_wp2_with fail;refine(HE.out _).mono ?_;rintro e w3 ⟨rfl,hb3⟩;have c3:=fun o=>hb3.cell (p:=⟨wr.heap.size,o,none⟩) (by simp);have z3:wr.heap.size<w3.heap.size:=by have:=hb3.size;simp at this;omega
   have BW:Below wr.heap.size wr w3:=((Below.refl wr.heap.size wr).alloc (Nat.le_refl _) _).trans (hb3.mono (by simp));have T3:=LH (KT.out.below BW);have O3:=LH (KO.out.below BW);have B3:=LH (KB.out.trans (BW.mono KB.out.size));clear BW hb3;go_wp2_with ((at_builtin;refine wpList_push tyRd2 rfl _ _ rfl encN w3 w2.heap.size u3 _ rfl T3.out.own1 (t1,x.2) (by go_simp) rfl ?c1 ?c2 ?c3 ?c4))
   case c1=>have:=LF.out;omega
   case c2=>have:=LF.out;simp only [maxLen];omega
   case c3=>omega
   case c4=>
    intro v1' w4 ho4 hg4 hz4 hl4 hb4 _;have T4:=LH (T3.out.app1 hg4 ho4 hl4);have O4:=LH (O3.out.kept hg4 (own_ne O3.out T3.out.own1 (by decide)));have s2w:w.heap.size≤w2.heap.size:=HB2.out.size;have B4:=LH (B3.out.trans (hb4.mono s2w));have ow1: ∀g,(u3:Value).ownBlock=some g→g<wr.heap.size:=fun g hg=>(KT.out.own1.lt g hg).2;have c4:=fun o=>(grown_cell hg4 wr.heap.size z3 (fun h=>by have:=ow1 _ h;omega) o).trans (c3 o);have z4:wr.heap.size<w4.heap.size:=by omega
    clear ho4 hg4 hl4 hb4 ow1 c3;go_wp2_with ((at_builtin;refine wpList_push tyRd2 rfl _ _ rfl encN w4 w2.heap.size u4 _ rfl T4.out.own2 (t2,x.2) (by go_simp) rfl ?c1 ?c2 ?c3 ?c4))
    case c1=>have:=LL.out;omega
    case c2=>have:=LL.out;simp only [maxLen];omega
    case c3=>omega
    case c4=>
     intro v2' w5 ho5 hg5 hz5 hl5 hb5 _;have T5:=LH (T4.out.app2 hg5 ho5 hl5);have O5:=LH (O4.out.kept hg5 (own_ne O4.out T4.out.own2 (by decide)));have B5:=LH (B4.out.trans (hb5.mono s2w));have z5:w2.heap.size≤w5.heap.size:=by omega
     clear ho5 hg5 hl5 hb5;go_wp2_with fail;go_roundw
     case rel=>exact⟨q+1,v1',v2',by omega,by go_num,rfl,rfl,by rw [TF.out,TL.out];exact T5.out,O5.out,B5.out,z5⟩
     case measure=>simp [intOf];omega
  ·obtain rfl:q=r.length:=by omega
   rw [List.take_length] at KT;have s2w:w.heap.size≤w2.heap.size:=HB2.out.size;have HDr:=LH (HD.out.below KB.out);go_wp2_with fail;refine(digest_N _ g K l k r F HDr.out).mono ?_;rintro e w3 ⟨rfl,hb3⟩;have B3:Below w.heap.size w w3:=Below.then_ bE hb3;have s3:=B3.size;have T3:=LH (KT.out.below hb3);go_wp2_with fail;refine(ML.out w3 _ _ T3.out.own2).mono ?_;rintro e w4 ⟨lt,A1,c1,A2,c2,rfl,htl,hll1,o1,o2,hT4⟩;have B4:=LH (hT4.below (base:=w2.heap.size) (fun b hb=>(T3.out.own2.lt b hb).1) (by have:=hb3.size;omega));have F4:=LH (hT4.own T3.out.own1 (fun b hb=>T3.out.sep b hb));have P1:=LH o1;have P2:=LH o2;have HTL:=LH htl;have HLL:=LH hll1;have hs4:=hT4.size;have hfb:=LH (fun b hb=>(T3.out.own1.lt b hb).2);clear o1 o2 htl hll1 hT4;go_wp2_with fail;refine(MF.out w4 _ _ F4.out).mono ?_;rintro e w5 ⟨ft,A3,c3,A4,c4,rfl,htf,hll2,o3,o4,hT5⟩;have B5:=LH (hT5.below (base:=w2.heap.size) (fun b hb=>(F4.out.lt b hb).1) (by have:=hb3.size;omega));have Q1:=LH (hT5.own P1.out (fun b hb hf=>by have:=(P1.out.lt b hb).1;have:=hfb.out b hf;omega));have Q2:=LH (hT5.own P2.out (fun b hb hf=>by have:=(P2.out.lt b hb).1;have:=hfb.out b hf;omega));have Q3:=LH o3;have Q4:=LH o4;have HTF:=LH htf;have HLL2:=LH hll2;clear o3 o4 htf hll2 hT5;go_wp2_with fail;go_ret;have BF:Below w.heap.size w w5:=(B3.trans ((B4.out.trans B5.out).mono s2w));have l1:=(Q1.out.alloc (.cells #[.int .i64 (sumR r),.slice A1 lt.length c1,.slice A2 lt.length c2,.slice A3 ft.length c3,.slice A4 ft.length c4] 86)).base_le (b:=w.heap.size) (by have:=BF.size;have:=hb3.size;omega);have l2:=(Q2.out.alloc (.cells #[.int .i64 (sumR r),.slice A1 lt.length c1,.slice A2 lt.length c2,.slice A3 ft.length c3,.slice A4 ft.length c4] 86)).base_le (b:=w.heap.size) (by have:=BF.size;have:=hb3.size;omega);have l3:=(Q3.out.alloc (.cells #[.int .i64 (sumR r),.slice A1 lt.length c1,.slice A2 lt.length c2,.slice A3 ft.length c3,.slice A4 ft.length c4] 86)).base_le (b:=w.heap.size) (by have:=B4.out.size;have:=hb3.size;omega);have l4:=(Q4.out.alloc (.cells #[.int .i64 (sumR r),.slice A1 lt.length c1,.slice A2 lt.length c2,.slice A3 ft.length c3,.slice A4 ft.length c4] 86)).base_le (b:=w.heap.size) (by have:=B4.out.size;have:=hb3.size;omega);refine⟨w5.heap.size,lt,ft,rfl,⟨BF.size,by simp,A1,c1,A2,c2,A3,c3,A4,c4,heap_alloc_new w5 _,⟨l1,l2,l3,l4⟩,fun A n c hm k hk=> ?_⟩,HTL.out,HTF.out,by have:=HLL.out;simpa [lastL] using this,by have:=HLL2.out;simpa [firstL] using this,BF.alloc (by have:=BF.size;omega) _⟩;simp only [List.mem_cons,List.not_mem_nil,or_false,Prod.mk.injEq] at hm;rcases hm with ⟨rfl,rfl,rfl⟩ | ⟨rfl,rfl,rfl⟩ | ⟨rfl,rfl,rfl⟩ | ⟨rfl,rfl,rfl⟩
   ·exact(l1.lt k hk).2
   ·exact(l2.lt k hk).2
   ·exact(l3.lt k hk).2
   ·exact(l4.lt k hk).2
structure Stays (I:Nat→World→Prop) :Prop where
 st: ∀q W W',I q W→Below W.heap.size W W'→I q W'
theorem bound_each (w:World) (g K l:Nat) (k:Int) (r:List Nd) (F:Nat→Prop) (h:DigAt w g K l k r F) (hn:r.length≤67108864)
 (fn:Nat) (caps:Array Value) (eg: ∀args W,(callFunc fn args).run Tryz.prog W=.ok (.enter fn args) W)
 (I:Nat→World→Prop) (hI:Stays I) (h0:I 0 w)
 (step: ∀(q:Nat) (hq:q<r.length) (W:World),I q W→Calls Tryz.prog fn (#[.int .i64 (endsOf l r[q].1).1,.int .i64 (endsOf l r[q].1).2.1,.int .i64 r[q].2] ++ caps) W fun e W'=>e=.returned (.tuple #[])∧I (q+1) W'∧KeepN W W') :
 Calls Tryz.prog 52 #[.pointer (some ⟨g,0,none⟩),.func (.func fn) #[] caps] w fun e w'=>e=.returned (.tuple #[])∧I r.length w'∧w.heap.size≤w'.heap.size:=by
 have hf:=h.fits;have hll:=h.l_le;have HD:=LH h;have H0:=LH h0;have HS:=LH step;clear h h0 step
 go_enter Tryz.func52,Tryz.ntmps52
 go_wp2_with fail;refine(digest_Conf _ g K l k r F HD.out).mono ?_;rintro e w1 ⟨rfl,hb1⟩;have B1:Below w.heap.size w w1:=Below.then_ bE hb1;have s1:=B1.size;go_wp2_with fail;refine(digest_Nodes _ g K l k r F (HD.out.below B1) hn).mono ?_;rintro e w2 ⟨v,rfl,ho,hb2⟩;have B2:Below w.heap.size w w2:=Below.then_ bE hb2;have s2:=B2.size;have HO:=LH ho;have H2:=LH (hI.st 0 w w2 H0.out B2);obtain⟨A,cap,rfl,_⟩:=ho.form;clear ho hb1 hb2 B1;go_wp2_with fail
 go_loopw [16] (fun i wr=>∃q:Nat,q≤r.length∧i=.int .i64 q∧Own wr w1.heap.size 77 encN (.slice A r.length cap) r∧I q wr∧w.heap.size≤wr.heap.size) (fun i _=>r.length - (intOf i).toNat)
 case atStart=>exact⟨0,Nat.zero_le _,rfl,HO.out,H2.out,s2⟩
 case round=>
  obtain⟨j,hj,rfl,hown,hIj,hs⟩:=hrel;have KO:=LH hown;have KI:=LH hIj;clear hown hIj;by_cases hlt:j<r.length
  ·obtain⟨c,off,rfl,hc,hcl⟩:=KO.out.sl.at_ hlt
   have d0:=hcl 0 (.int .i64 r[j].1) rfl;have d1:=hcl 1 (.int .i64 r[j].2) rfl;simp only [Nat.add_zero] at d0;have hx:=hf.roll.2 _ (List.getElem_mem hlt);have hxl:=hf.lt _ (List.getElem_mem hlt);have hp:=pow_48 (n:=l) hll.2;have ST:=LH (HS.out j hlt);obtain⟨x,hxe⟩ : ∃x,x=r[j]:=⟨_,rfl⟩;rw [←hxe] at d0 d1 hx hxl ST;have hx1:x.1≤562949953421312:=by omega
   have HE:=LH (twig_Ends · l x.1 (by omega));generalize endsOf l x.1=t at HE ST;obtain⟨t1,t2,t3⟩:=t;unfold endsV at HE;clear hcl hxe hxl hp hx;go_wp2_with fail;refine(HE.out _).mono ?_;rintro e w3 ⟨rfl,hb3⟩;have c3:=fun o=>hb3.cell (p:=⟨wr.heap.size,o,none⟩) (by simp);have z3:wr.heap.size<w3.heap.size:=by have:=hb3.size;simp at this;omega
   have BW:Below wr.heap.size wr w3:=((Below.refl wr.heap.size wr).alloc (Nat.le_refl _) _).trans (hb3.mono (by simp));have I3:=LH (hI.st j wr w3 KI.out BW);have O3:=LH (KO.out.below BW);clear BW hb3;go_wp2_with fail;refine(ST.out _ I3.out).mono ?_;rintro e w4 ⟨rfl,hI4,hk4⟩;have I4:=LH hI4;have O4:=LH (hk4.own O3.out);have z4:=hk4.1;clear hI4 hk4;go_wp2_with fail;go_roundw
   case rel=>exact⟨j+1,by omega,by go_num,O4.out,I4.out,by omega⟩
   case measure=>simp [intOf];omega
  ·obtain rfl:j=r.length:=by omega
   go_wp2_with fail
   go_end0
   exact⟨rfl,KI.out,hs⟩
def wrongOf (r:List Nd) :Int:=if sumR r=0 then 7 else 0
theorem bound_wrong (w:World) (g K l:Nat) (k:Int) (r:List Nd) (F:Nat→Prop) (h:DigAt w g K l k r F) :Calls Tryz.prog 49 #[.pointer (some ⟨g,0,none⟩)] w fun e w'=>e=.returned (.int .i64 (wrongOf r))∧Below w.heap.size w w':=by
 have HN:=LH (digest_N w g K l k r F h);unfold wrongOf;by_cases hN:sumR r=0
 ·rw [if_pos hN]
  rw [hN] at HN;clear hN h
  go_enter Tryz.func49,Tryz.ntmps49
  go_wp2_with fail;refine(HN.out).mono ?_;rintro e w1 ⟨rfl,hb1⟩;have B1:Below w.heap.size w w1:=Below.then_ bE hb1;have s1:=B1.size;go_wp2_with fail;go_ret;exact⟨rfl,bE⟩
 ·rw [if_neg hN]
  have hN0: ((sumR r) == 0) =false:=by simpa using hN
  clear hN h
  go_enter Tryz.func49,Tryz.ntmps49
  go_wp2_with fail;refine(HN.out).mono ?_;rintro e w1 ⟨rfl,hb1⟩;have B1:Below w.heap.size w w1:=Below.then_ bE hb1;have s1:=B1.size;go_wp2_with fail;go_ret;exact⟨rfl,bE⟩
def leastStep (l:Int) (a:Int×Int) (x:Nd) :Int×Int:=(min a.1 (endsOf l x.1).1,min a.2 (endsOf l x.1).2.1)
def leastOf (l:Int) (r:List Nd) :Int×Int:=r.foldl (leastStep l) (9223372036854775807,9223372036854775807)
def BoundI (w:World) (b0 b1:Nat) (f:Nat→Int×Int) (q:Nat) (W:World) :Prop:=Below w.heap.size w W∧bothAt W b0 0 0∧bothAt W b1 (f q).1 (f q).2
def leastT (l:Int) (r:List Nd) :Int×Int×Int:=if sumR r=0 then (0,0,7) else ((leastOf l r).1,(leastOf l r).2,0)
def mostStep (l:Int) (a:Int×Int) (x:Nd) :Int×Int:=(max a.1 (endsOf l x.1).1,max a.2 (endsOf l x.1).2.1)
def mostOf (l:Int) (r:List Nd) :Int×Int:=r.foldl (mostStep l) (0,0)
def mostT (l:Int) (r:List Nd) :Int×Int×Int:=if sumR r=0 then (0,0,7) else ((mostOf l r).1,(mostOf l r).2,0)
structure E4 where
 a:Int
 b:Int
 c:Int
 d:Int
def e4Step (l:Int) (e:E4) (x:Nd) :E4:=⟨if (endsOf l x.1).1<e.a then (endsOf l x.1).1 else e.a,if (endsOf l x.1).2.1<e.b then (endsOf l x.1).2.1 else e.b,if e.c< (endsOf l x.1).1 then (endsOf l x.1).1 else e.c,if e.d< (endsOf l x.1).2.1 then (endsOf l x.1).2.1 else e.d⟩
def e4Of (l:Int) (r:List Nd) :E4:=r.foldl (e4Step l) ⟨281474976710656,281474976710656, -1, -1⟩
theorem blk_set {w:World} {b q o:Nat} {u:Value} {ob:Obj} (h:w.heap[b]? =some ob) (hne:b≠q) : (w.setCell ⟨q,o,none⟩ u).heap[b]? =some ob:=(Below.heap_setCell _ _ _ _ hne).trans h
section
attribute [local go_sem] Oper.semAt_some
def ofBins (l:Nat) (r:List Nd) (es:List Int) :List Int:=if binErr l es=0 then binsL l r es else []
def BinsPost (l:Nat) (r:List Nd) (es:List Int) (w:World) (e:Ending) (w':World) :Prop:=∃v,e=.returned (.tuple #[v,.int .i64 (binErr l es)])∧Own w' w.heap.size 3 encZ v (ofBins l r es)∧Below w.heap.size w w'
theorem rightE_all {l:Nat} (es:List Int) : ∀p,rightE l p es=true→∀x∈es,0≤x∧x<2^l:=by
 induction es with
 |nil=>intro p _ x hx;simp at hx
 |cons y es ih=>
  intro p h x hx;simp only [rightE,Bool.and_eq_true,decide_eq_true_eq] at h;rcases List.mem_cons.1 hx with rfl|hx
  ·exact h.1.1
  ·exact ih y h.2 x hx
structure OfI (w:World) (l:Nat) (r:List Nd) (L B g bt bo ba z:Nat) (lt ft:List Nd) (pre:List (Int×Int)) (W:World) :Prop where
 t:W.heap[bt]? =some (.cells #[.pointer (some ⟨g,0,none⟩)] 37 (0,0))
 o: ∃v,W.heap[bo]? =some (.cells #[v] 45 (0,0))∧Own W z 3 encZ v (binFold l r pre).1
 a:W.heap[ba]? =some (.cells #[.int .i64 (binFold l r pre).2] 3 (0,0))
 tab:TabAt W L B g (sumR r) lt ft
 sz:z≤W.heap.size
theorem tab_grown {A B:World} {L B0 g:Nat} {n:Int} {lt ft:List Nd} {row:Option Nat} (h:TabAt A L B0 g n lt ft) (hg:A.grownBy B row) (hr: ∀r,row=some r→∃o:Obj,A.heap[r]? =some o∧o.isCells=false) :TabAt B L B0 g n lt ft:=by
 obtain⟨h0,h0',A1,c1,A2,c2,A3,c3,A4,c4,h1,⟨h2,h3,h4,h5⟩,h6⟩:=h;exact⟨h0,h0',A1,c1,A2,c2,A3,c3,A4,c4,row_grown h1 hg hr,⟨own_grown h2 hg hr,own_grown h3 hg hr,own_grown h4 hg hr,own_grown h5 hg hr⟩,h6⟩
theorem binFold_range2 (l:Int) (r:List Nd) (hr:Roll r) (ps:List (Int×Int)) :0≤(binFold l r ps).2∧(binFold l r ps).2≤sumR r:=by
 have h0:=sumR_nonneg hr;rcases List.eq_nil_or_concat ps with rfl| ⟨qs,p,rfl⟩
 ·simp only [binFold,List.foldl_nil];omega
 ·rw [List.concat_eq_append,binFold_snoc]
  exact weighR_le hr
theorem bins_Of (w:World) (g K l:Nat) (k:Int) (r:List Nd) (F:Nat→Prop) (A:Option Addr) (cap:Nat) (es:List Int) (h:DigAt w g K l k r F) (hn:r.length≤67108864) (hS:Sl w w.heap.size encZ A es) (hm:es.length≤67108864) (hr:rightOf l r=true) :
 Calls Tryz.prog 11 #[.pointer (some ⟨g,0,none⟩),.slice A es.length cap] w (BinsPost l r es w):=by
 have hl:=h.l_le;have hfit:=h.fits;have HD:=LH h;have HS:=LH hS;have HW:=LH (bins_wrong · g K l k r F A cap es · · hm);clear h hS;refine(callsIn_wide (n:=3)).1 ?_;refine callsIn_of_wp_marks Tryz.func11 rfl trivial ?_ rfl;simp only [Tryz.ntmps11,List.size_toArray,List.length_cons,List.length_nil,Nat.reduceAdd,Nat.reduceSub,Array.replicate_succ,Array.replicate_zero,List.push_toArray,List.append_toArray,List.nil_append,List.cons_append]
 gi_wp2_with fail
 refine⟨trivial,?_⟩;refine(callsIn_wide.2 (HW.out _ HD.out HS.out)).mono ?_;rintro e w1 ⟨rfl,hb1⟩;have B1:Below w.heap.size w w1:=Below.then_ bE hb1;have s1:=B1.size;by_cases hE:binErr l es=0
 ·have HE:=LH hE
  rw [hE];have hre:rightE l (-1) es=true:=by unfold binErr at hE;split at hE <;> simp_all
  have hall:=rightE_all es _ hre;have p48:=pow_48 hl.2;have D1:=LH (HD.out.below hb1);have S1:=LH (HS.out.keep s1 fun p hp=>B1.cell hp);clear hE hre
  gi_wp2_with fail
  refine⟨trivial,?_⟩;refine(callsIn_wide.2 (rank_Of _ g K l k r F D1.out hn)).mono ?_;rintro e w2 ⟨tg,lt,ft,rfl,htab,htl,htf,hl1,hl2,hb2⟩;have B2:Below w.heap.size w w2:=Below.then_ bE hb2;have s2:=B2.size;have D2:=LH ((((D1.out.below hb2).alloc (.cells #[.pointer (some ⟨tg,0,none⟩)] 37)).alloc (.cells #[.slice none 0 0] 45)).alloc (.cells #[.int .i64 0] 3))
  gi_wp2_with fail
  refine⟨trivial,?_⟩;refine(callsIn_wide.2 (digest_Conf _ g K l k r F D2.out)).mono ?_;rintro e w3 ⟨rfl,hb3⟩;have B3:Below w.heap.size w w3:=Below.then_ bE hb3;have s3:=B3.size;have z3_0:w2.heap.size<w3.heap.size:=by have:=hb3.size;(try simp at this);omega
  have y3_0:w2.heap.size≤w3.heap.size:=Nat.le_of_lt z3_0;have c3_0:=czB hb3 (w2.heap.size);have f3_0:=fzB hb3 (w2.heap.size);have z3_1:w2.heap.size+1<w3.heap.size:=by have:=hb3.size;(try simp at this);omega
  have y3_1:w2.heap.size+1≤w3.heap.size:=Nat.le_of_lt z3_1;have c3_1:=czB hb3 (w2.heap.size+1);have f3_1:=fzB hb3 (w2.heap.size+1);have z3_2:w2.heap.size+1+1<w3.heap.size:=by have:=hb3.size;(try simp at this);omega
  have y3_2:w2.heap.size+1+1≤w3.heap.size:=Nat.le_of_lt z3_2;have c3_2:=czB hb3 (w2.heap.size+1+1);have f3_2:=fzB hb3 (w2.heap.size+1+1)
  gi_wp2_with fail
  refine⟨trivial,?_⟩;refine(callsIn_wide.2 (bins_runs _ l A es.length cap)).mono ?_;rintro e w4 ⟨rfl,rfl⟩
  gi_wp2_with fail
  have T2:=LH htab;have zz:w2.heap.size+1+1<w3.heap.size:=z3_2;have hne1:w2.heap.size+1≠w2.heap.size+1+1:=by omega
  have kt:=bB (show (((w2.alloc (.cells #[.pointer (some ⟨tg,0,none⟩)] 37)).alloc (.cells #[.slice none 0 0] 45)).alloc (.cells #[.int .i64 0] 3)).heap[w2.heap.size]? =_ from(Below.heap_alloc _ _ _ (by simp;omega)).trans ((Below.heap_alloc _ _ _ (by simp)).trans (heap_alloc_new w2 _))) hb3;have ko:=bB (show (((w2.alloc (.cells #[.pointer (some ⟨tg,0,none⟩)] 37)).alloc (.cells #[.slice none 0 0] 45)).alloc (.cells #[.int .i64 0] 3)).heap[w2.heap.size+1]? =_ from(Below.heap_alloc _ _ _ (by simp)).trans (heap_new_at (w2.alloc (.cells #[.pointer (some ⟨tg,0,none⟩)] 37)) (.cells #[.slice none 0 0] 45) _ (by simp))) hb3;have ka:=bB (heap_new_at ((w2.alloc (.cells #[.pointer (some ⟨tg,0,none⟩)] 37)).alloc (.cells #[.slice none 0 0] 45)) (.cells #[.int .i64 0] 3) (w2.heap.size+1+1) (by simp)) hb3;have T3:=(T2.out.below (((((Below.refl w2.heap.size w2).alloc (Nat.le_refl _) (.cells #[.pointer (some ⟨tg,0,none⟩)] 37)).alloc (by simp) (.cells #[.slice none 0 0] 45)).alloc (by simp;omega) (.cells #[.int .i64 0] 3)).trans (hb3.mono (by simp;omega))));have BA:Below w3.heap.size w3 ((w3.alloc (.cells #[.int .i64 l] 3)).alloc (.cells #[.slice A es.length cap] 45)):=((Below.refl _ _).alloc (Nat.le_refl _) _).alloc (by simp) _;have kt0:=LH (bB kt BA);have ko0:=LH (bB ko BA);have ka0:=LH (bB ka BA);have T0:=LH (T3.below (BA.mono (show w2.heap.size≤w3.heap.size by omega)));have kbl:=LH (show ((w3.alloc (.cells #[.int .i64 l] 3)).alloc (.cells #[.slice A es.length cap] 45)).heap[w3.heap.size]? =some (.cells #[.int .i64 l] 3 (0,0)) from(Below.heap_alloc _ _ _ (by simp)).trans (heap_alloc_new w3 _));have kbe:=LH (heap_new_at (w3.alloc (.cells #[.int .i64 l] 3)) (.cells #[.slice A es.length cap] 45) (w3.heap.size+1) (by simp));have hB0:Below w.heap.size w ((w3.alloc (.cells #[.int .i64 l] 3)).alloc (.cells #[.slice A es.length cap] 45)):=B3.trans (BA.mono s3);have SX:=LH (SlX.of (z:=w3.heap.size+2) (X:=fun b=>b=w2.heap.size+1∨b=w2.heap.size+1+1) (HS.out.keep (Nat.le_refl _) fun p hp=>hB0.cell hp) (by omega) (fun b hb=>by rintro(rfl|rfl) <;> omega));have zW0: ((w3.alloc (.cells #[.int .i64 l] 3)).alloc (.cells #[.slice A es.length cap] 45)).heap.size=w3.heap.size+2:=by simp
  generalize (w3.alloc (.cells #[.int .i64 l] 3)).alloc (.cells #[.slice A es.length cap] 45) =W0 at kt0 ko0 ka0 T0 kbl kbe hB0 SX zW0⊢;have HTL:=LH (fun x W (hT:TabAt W w1.heap.size w2.heap.size tg (sumR r) lt ft)=>table_Low x hT (by omega) htl.rise);have e: ∀x,upT lt x=lowOf l r x:=fun x=>by rw [htl.upT,low_up]
  simp only [e] at HTL;clear kt ko ka T3 BA T2 htab htl htf hl1 hl2 e hb1 hb2 hb3 D1 D2 S1 HD HS HW B1 B2 B3 z3_0 y3_0 c3_0 f3_0 z3_1 y3_1 c3_1 f3_1 z3_2 y3_2 c3_2 f3_2;have hKB:=LH (fun (W:World) (q:Nat) (o o':Obj) (h:W.heap[q]? =some o) (hc:o.isCells=false)=>keepX_b (z:=w3.heap.size+2) (X:=fun b=>b=w2.heap.size+1∨b=w2.heap.size+1+1) W q o o' h hc)
  refine wpIn_rangeFunc_ownG rfl (by decide) (gf:=92) (lb:= #[.pointer (some ⟨w3.heap.size+1,0,none⟩),.pointer (some ⟨w3.heap.size,0,none⟩)]) rfl trivial (enters_of Tryz.func92 (by kernel_rfl) rfl)
   (runs_stops (3 - 1) (w3.heap.size+1) w3.heap.size (w3.heap.size+2) (fun b=>b=w2.heap.size+1∨b=w2.heap.size+1+1) l A cap es W0 (by decide) hl (by omega) kbe.out kbl.out SX.out (by omega) (fun h=>by rcases h with h|h <;> omega) (by omega) (fun h=>by rcases h with h|h <;> omega) (fun x hx=>by have:=hall x hx;omega) (fun x hx=>(hall x hx).1) hm)
   keepX_t (fun W q o o' _ h hc _=>hKB.out W q o o' h hc) (Below.refl _ _) (fun _=>rfl)
   (fun pre W=>OfI w l r w1.heap.size w2.heap.size tg w2.heap.size (w2.heap.size+1) (w2.heap.size+1+1) (w3.heap.size+2) lt ft pre W∧Below w.heap.size w W)
   (fun _ _ _=>False)
   (OwnFrom.and (Go.Own.from (fun s A B row hs hg hr=>⟨row_grown hs.t hg hr,by obtain⟨v,h1,h2⟩:=hs.o;exact⟨v,row_grown h1 hg hr,own_grown h2 hg hr⟩,row_grown hs.a hg hr,tab_grown hs.tab hg hr,Nat.le_trans hs.sz hg.size⟩) _) (ownFrom_below (Nat.le_refl _) (by omega)))
   (fun c=>fun _ _ _ _ hs _ _=>hs)
   ⟨⟨kt0.out,⟨_,ko0.out,Own.nil _ _ _ _⟩,ka0.out,T0.out,by omega⟩,hB0⟩
   (fun x=>{tmps:= #[.pointer (some ⟨g,0,none⟩),.slice A es.length cap,undef,undef,.slice none 0 0,.int .i64 0,.int .i64 0,.pointer (some ⟨w2.heap.size,0,none⟩),.pointer (some ⟨w2.heap.size+1,0,none⟩),.pointer (some ⟨w2.heap.size+1+1,0,none⟩),undef,.int .i64 x.2,undef,
     .pointer (some ⟨g,0,none⟩),.slice A es.length cap,.int .i64 0,.int .i64 0,.bool false,undef,.pointer (some ⟨g,0,none⟩),.pointer (some ⟨tg,0,none⟩),.pointer (some ⟨g,0,none⟩),.agg #[.int .i64 l,.int .i64 k,.int .i64 K],.int .i64 l,.slice A es.length cap,
     .func (.func 92) #[] #[.pointer (some ⟨w3.heap.size+1,0,none⟩),.pointer (some ⟨w3.heap.size,0,none⟩)],.int .i64 x.1,.int .i64 x.2,undef,undef,undef,undef,undef,undef,undef,undef,undef,undef,undef],defers:= []}) ?assign ?body ?done ?stop
  case assign=>
   intro q x W Kc hK
   gi_wp2
   exact hK
  case body=>
   rintro q pre x W ⟨⟨ht,⟨v,ho,hown⟩,ha,htb,hsz⟩,hB⟩ hlen;have KT:=LH ht;have KO:=LH ho;have KA:=LH ha;have KTb:=LH htb;have KW:=LH hown;have HB:=LH hB;have ct:=bC ht;have zt:=lB ht;have zo:=lB ho;have za:=lB ha;have hW0:=(Own.lt hown);have b2:=binFold_range2 l r hfit.roll pre;have b3:=weighR_le (l:=l) (f:=fun _ hi=>decide (hi≤x.2)) hfit.roll;have hs1:=hfit.sum;have hlenL:=binFold_len l r pre;rw [runsL_len] at hlen;have HSn:=LH (binFold_snoc l r pre x);have HX:=LH (HTL.out x.2);unfold lowOf at HX;unfold binStep lowOf at HSn;generalize weighR l (fun _ hi=>decide (hi≤x.2)) r=n at b3 HX HSn;generalize binFold l r pre=p at KO KA KW HSn hlenL b2 ho ha hown;obtain⟨L,a⟩:=p;simp only at KO KA KW HSn hlenL b2 ho ha hown;have ca:=bC ha;have fo:=bF ho;have fa:=bF ha;clear ht ho ha htb hown hB
   gi_wp2_with fail
   refine⟨trivial,?_⟩;refine(CallsIn.inRound q (callsIn_wide.2 (HX.out _ KTb.out))).mono ?_;rintro e w5 ⟨rfl,hb5⟩;have s5:=hb5.size;have ko5:=bB KO.out hb5;have ka5:=bB KA.out hb5;have co5:=bC ko5;have ca5:=bC ka5;have fo5:=bF ko5;have fa5:=bF ka5;have O5:=LH (KW.out.below hb5);have T5:=LH (bB KT.out hb5);have zt5:w2.heap.size+1<w5.heap.size:=lB ko5;have KO5:=LH ko5;have KA5:=LH ka5;have KB5:=LH (KTb.out.keep fun b _ hb=>hb5.block b (by have:=KTb.out.2.1;omega));have zz5:w3.heap.size+2≤w5.heap.size:=by omega
   clear ct ca fo fa ko5 ka5
   gi_wp2_with ((gi_at_builtin;refine wpListIn_push tyZ rfl _ _ rfl encZ w5 (w3.heap.size+2) v L rfl O5.out (n - a) (by go_simp) rfl ?c1 ?c2 ?c3 ?c4))
   case c1=>omega
   case c2=>simp only [maxLen];omega
   case c3=>exact zz5
   case c4=>
    intro v6 w6 hown6 hgrow6 _ hlies6 hb6 _;obtain⟨A6,c6,rfl,_⟩:=hown6.form;have hrow: ∀b,b<w3.heap.size+2→some b≠v.ownBlock:=fun b hb h=>by have:=O5.out.lt b h.symm;omega
    have s6:=hgrow6.size;have ko6:=(hgrow6.block (w2.heap.size+1) zt5 (hrow _ (by omega))).trans KO5.out;have ka6:=(hgrow6.block (w2.heap.size+1+1) (lB KA5.out) (hrow _ (by omega))).trans KA5.out;have kt6:=(hgrow6.block w2.heap.size (by omega) (hrow _ (by omega))).trans T5.out;have KB6:=LH (KB5.out.keep fun b _ hb=>hgrow6.block b (by have:=KB5.out.2.1;omega) (hrow _ (by omega)));have KK:Hid (KeepX (w3.heap.size+2) (fun b=>b=w2.heap.size+1∨b=w2.heap.size+1+1) W w6):=LH ((KeepX.of_below hb5).grown hgrow6 (fun b h=>(O5.out.lt b h).1))
    have KF:Hid (KeepsFrom W0.heap.size W w6):=LH (((KeepsOthers.of_grownBy (grownBy_of_below hb5 none) (fun _ _ h=>by cases h)).trans (KeepsOthers.of_grownBy hgrow6 (fun j o h ho=>by
     rcases O5.out with ⟨rfl,_⟩ | ⟨g1,o1,c1,u1,rfl,_,hh1,_⟩
     ·cases h
     ·have:g1=j:=by simpa [Value.ownBlock] using h
      subst this;rw [hh1] at ho;cases ho;rfl))).from _)
    have BB:Hid (Below w.heap.size w w6):=LH ((HB.out.trans (hb5.mono HB.out.size)).trans (hb6.mono (by omega)));have co6:=bC ko6;have fo6:=bF ko6;have ca6:=bC ka6;have fa6:=bF ka6;have O6:=LH (show Own w6 (w3.heap.size+2) 3 encZ (.slice A6 (pre.length+1) c6) (L ++ [n - a]) by simpa [hlenL] using hown6);have KO6:=LH ko6;have KA6:=LH ka6;have KT6:=LH kt6;have zo6:w2.heap.size+1<w6.heap.size:=lB ko6;have za6:w2.heap.size+1+1<w6.heap.size:=lB ka6;have hne2:w2.heap.size+1+1≠w2.heap.size+1:=by omega
    clear hown6 hgrow6 hlies6 hb6 ko6 ka6 kt6 co5 ca5 fo5 fa5 hb5
    gi_wp2_with fail
    refine⟨(KF.out.trans ((KeepsOthers.setCell _ _ _).from _)).trans ((KeepsOthers.setCell _ _ _).from _),(KK.out.set (.inl (.inl rfl)) _).set (.inl (.inr rfl)) _,⟨?_,⟨.slice A6 (pre.length+1) c6,?_,?_⟩,?_,?_,?_⟩,(BB.out.setCell (p:=⟨w2.heap.size+1,0,none⟩) (by simp only;omega) _).setCell (p:=⟨w2.heap.size+1+1,0,none⟩) (by simp only;omega) _⟩
    ·exact blk_set (blk_set KT6.out (by omega)) (by omega)
    ·exact blk_set (zH (i:=0) KO6.out _) (by omega)
    ·rw [HSn.out]
     exact(O6.out.setCell (p:=⟨w2.heap.size+1,0,none⟩) (fun h=>by have:=O6.out.lt _ h;simp only at this;omega) _).setCell (p:=⟨w2.heap.size+1+1,0,none⟩) (fun h=>by have:=O6.out.lt _ h;simp only at this;omega) _
    ·rw [HSn.out]
     exact zH (i:=0) ((Below.heap_setCell _ _ _ _ hne2).trans KA6.out) _
    ·exact KB6.out.keep fun b _ hb=>(Below.heap_setCell _ _ _ _ (Nat.ne_of_lt (show b<w2.heap.size+1+1 by omega))).trans (Below.heap_setCell _ _ _ _ (Nat.ne_of_lt (show b<w2.heap.size+1 by omega)))
    ·simp [World.setCell];omega
  case done=>
   rintro D ys W hD hys ⟨⟨ht,⟨v,ho,hown⟩,ha,htb,hsz⟩,hB⟩ hK;have hys':ys=runsL l es:=hys;rw [hys',binFold_runs hr] at hown;have he2:ofBins l r es=binsL l r es:=by unfold ofBins;rw [if_pos HE.out]
   rw [←he2] at hown;clear hys hys';have co:=bC ho;have zo:=lB ho
   gi_wp2
   refine⟨by simp,.inl ⟨_,_,rfl,run_takeDeferred hK,?_⟩⟩;have hown2:=(own_grown hown (grownBy_putObj' W D (.deferred none)) (fun r e=>by cases e;exact⟨_,hK,rfl⟩)).base_le (b:=w.heap.size) (by omega);exact⟨.tuple #[v,.int .i64 0],by simp [results,Tryz.f11,go_sem],v,by rw [HE.out],hown2,hB.trans (belowK_b (w:=w) (Nat.le_refl _) W D _ _ (by omega) hK rfl rfl)⟩
  case stop=>
   rintro D c pre W hD hpre h hK;exact h.elim
 ·have HE:=LH (show (binErr l es == 0) =false by simpa using hE)
  have he2:ofBins l r es= []:=by unfold ofBins;rw [if_neg hE]
  have hne:=HE.out
  gi_wp2_with fail
  exact⟨.tuple #[.slice none 0 0,.int .i64 (binErr l es)],by simp [results,Tryz.f11,go_sem],.slice none 0 0,rfl,by rw [he2];exact Own.nil _ _ _ _,hb1⟩
end
structure ReachP (L:List Nd) (k z:Int) :Prop where
 mem: ∃y∈L,y.1=z
 up:k≤wUp L z
 less: ∀y,y<z→wUp L y<k
theorem wUp_nonneg {L:List Nd} (h: ∀y∈L,1≤y.2) (x:Int) :0≤wUp L x:=by
 induction L with
 |nil=>simp [wUp]
 |cons y L ih=>
  have:=h y (by simp);have:=ih fun z hz=>h z (by simp [hz]);simp only [wUp]
  split <;> omega
theorem wUp_le_sum {L:List Nd} (h: ∀y∈L,1≤y.2) (x:Int) :wUp L x≤sumR L:=by
 induction L with
 |nil=>simp [wUp,sumR]
 |cons y L ih=>
  have:=h y (by simp);have:=ih fun z hz=>h z (by simp [hz]);simp only [wUp,sumR]
  split <;> omega
theorem wUp_split (l:List Nd) (i:Nat) (y:Int) :wUp l y=wUp (l.take i) y+wUp (l.drop i) y:=by rw [←wUp_append,List.take_append_drop]
theorem reach_at {l:List Nd} (h1: ∀y∈l,1≤y.2) (hs:l.Pairwise fun a b=>a.1≤b.1) {i:Nat} (hi:i<l.length) {k:Int} (ha:sumR (l.take i) <k) (hb:k≤sumR (l.take (i+1))) :ReachP l k l[i].1:=by
 have hp:=List.pairwise_iff_getElem.1 hs;refine⟨⟨l[i],List.getElem_mem hi,rfl⟩,?_,fun y hy=> ?_⟩
 ·have e2:=wUp_split l (i+1) l[i].1
  have e3:wUp (l.take (i+1)) l[i].1=sumR (l.take (i+1)):=wUp_all fun z hz=>by
   obtain⟨j,hj,rfl⟩:=List.getElem_of_mem hz;rw [List.length_take] at hj;rw [List.getElem_take];rcases Nat.lt_or_ge j i with hlt|hge
   ·exact hp j i (by omega) hi hlt
   ·obtain rfl:j=i:=by omega
    exact Int.le_refl _
  have e4:=wUp_nonneg (L:=l.drop (i+1)) (fun z hz=>h1 z (List.mem_of_mem_drop hz)) l[i].1;omega
 ·have e2:=wUp_split l i y
  have e3:wUp (l.drop i) y=0:=wUp_none fun z hz=>by
   obtain⟨j,hj,rfl⟩:=List.getElem_of_mem hz;rw [List.length_drop] at hj;rw [List.getElem_drop];rcases Nat.lt_or_ge 0 j with hlt|hge
   ·have:=hp i (i+j) hi (by omega) (by omega);omega
   ·obtain rfl:j=0:=by omega
    simpa using hy
  have e4:=wUp_le_sum (L:=l.take i) (fun z hz=>h1 z (List.mem_of_mem_take hz)) y;omega
theorem ReachP.perm {L L':List Nd} {k z:Int} (h:ReachP L k z) (hp:L.Perm L') :ReachP L' k z:=
 ⟨by obtain⟨y,hy,e⟩:=h.mem;exact⟨y,hp.mem_iff.1 hy,e⟩,by rw [←wUp_perm hp];exact h.up,fun y hy=>by rw [←wUp_perm hp];exact h.less y hy⟩
def bestStep (L:List Nd) (k:Int) (b:Int) (x:Nd) :Int:=if k≤wUp L x.1∧(b<0∨x.1<b) then x.1 else b
def bestOf (L:List Nd) (k:Int) :Int:=L.foldl (bestStep L k) (-1)
theorem best_fold (L:List Nd) (k:Int) (p:List Nd) (h0: ∀y∈p,0≤y.1) : ∀b,(b= -1∨0≤b)→
 (p.foldl (bestStep L k) b=b∨(∃y∈p,y.1=p.foldl (bestStep L k) b∧k≤wUp L y.1))∧(0≤b→p.foldl (bestStep L k) b≤b∧0≤p.foldl (bestStep L k) b)∧(∀y∈p,k≤wUp L y.1→0≤p.foldl (bestStep L k) b∧p.foldl (bestStep L k) b≤y.1):=by
 induction p with
 |nil=>intro b hb;exact⟨.inl rfl,fun h=>⟨Int.le_refl _,h⟩,fun y hy=>by simp at hy⟩
 |cons x p ih=>
  intro b hb;have hx:=h0 x (by simp);rw [List.foldl_cons];by_cases hc:k≤wUp L x.1∧(b<0∨x.1<b)
  ·have e:bestStep L k b x=x.1:=if_pos hc
   rw [e];obtain⟨i1,i2,i3⟩:=ih (fun y hy=>h0 y (by simp [hy])) x.1 (.inr hx);have i2:=i2 hx;refine⟨.inr ?_,fun hb0=>⟨by omega,i2.2⟩,fun y hy hk=> ?_⟩
   ·rcases i1 with i1| ⟨y,hy,e1,e2⟩
    ·exact⟨x,by simp,i1.symm,hc.1⟩
    ·exact⟨y,by simp [hy],e1,e2⟩
   ·rcases List.mem_cons.1 hy with rfl|hy
    ·exact⟨i2.2,i2.1⟩
    ·exact i3 y hy hk
  ·have e:bestStep L k b x=b:=if_neg hc
   rw [e];obtain⟨i1,i2,i3⟩:=ih (fun y hy=>h0 y (by simp [hy])) b hb;refine⟨?_,i2,fun y hy hk=> ?_⟩
   ·rcases i1 with i1| ⟨y,hy,e1,e2⟩
    ·exact .inl i1
    ·exact .inr ⟨y,by simp [hy],e1,e2⟩
   ·rcases List.mem_cons.1 hy with rfl|hy
    ·have hb0:0≤b:=by omega
     have:=i2 hb0;exact⟨this.2,by omega⟩
    ·exact i3 y hy hk
theorem best_reach {L:List Nd} (h0: ∀y∈L,0≤y.1) (h1: ∀y∈L,1≤y.2) {k:Int} (hk:1≤k) {z:Int} (h:ReachP L k z) :bestOf L k=z:=by
 obtain⟨y,hy,e⟩:=h.mem;obtain⟨i1,_,i3⟩:=best_fold L k L h0 (-1) (.inl rfl);have h2:=i3 y hy (by rw [e];exact h.up);rcases i1 with i1| ⟨u,hu,e1,e2⟩
 ·rw [i1] at h2;omega
 ·show L.foldl (bestStep L k) (-1) =z
  rw [e] at h2;rcases Int.lt_trichotomy (L.foldl (bestStep L k) (-1)) z with hlt|heq|hgt
  ·have:=h.less _ hlt
   rw [←e1] at this;omega
  ·exact heq
  ·omega
theorem reach_exists (L:List Nd) (h1: ∀y∈L,1≤y.2) (k:Int) (hk:1≤k) (hs:k≤sumR L) : ∃z,ReachP L k z:=by
 let M:=L.mergeSort (fun a b=>decide (a.1≤b.1))
 have hp:M.Perm L:=List.mergeSort_perm L _
 have hso:M.Pairwise fun a b=>a.1≤b.1:=by
  have:=List.pairwise_mergeSort (le:=fun a b:Nd=>decide (a.1≤b.1)) (fun a b c h1 h2=>by simp at*;omega) (fun a b=>by simp;omega) L;exact this.imp fun h=>by simpa using h
 have h1': ∀y∈M,1≤y.2:=fun y hy=>h1 y (hp.mem_iff.1 hy);have hsM:sumR M=sumR L:=sumR_perm hp
 have key: ∀n,n≤M.length→sumR (M.take n) <k∨∃i,∃hi:i<M.length,sumR (M.take i) <k∧k≤sumR (M.take (i+1)):=by
  intro n
  induction n with
  |zero=>intro _;left;simp [sumR];omega
  |succ n ih=>
   intro hn;rcases ih (by omega) with h|h
   ·by_cases hc:sumR (M.take (n+1)) <k
    ·exact .inl hc
    ·exact .inr ⟨n,by omega,h,by omega⟩
   ·exact .inr h
 rcases key M.length (Nat.le_refl _) with h| ⟨i,hi,ha,hb⟩
 ·rw [List.take_length,hsM] at h;omega
 ·exact⟨_,(reach_at h1' hso hi ha hb).perm hp⟩
def cmpI (a b:Int) :Int:=if a<b then -1 else if b<a then 1 else 0
theorem cmp_isNaN (w:World) (a:Int) :Calls Tryz.prog 163 #[.int .i64 a] w fun e w'=>e=.returned (.bool false)∧w'=w:=by
 go_enter Tryz.func163,Tryz.ntmps163
 go_wp2_with fail;go_ret;exact⟨by simp,rfl⟩
theorem cmp_Compare (w:World) (a b:Int) :Calls Tryz.prog 101 #[.int .i64 a,.int .i64 b] w fun e w'=>e=.returned (.int .i64 (cmpI a b))∧w'=w:=by
 rcases Int.lt_trichotomy a b with h|rfl|h
 ·rw [show cmpI a b= -1 by unfold cmpI;rw [if_pos h]]
  go_enter Tryz.func101,Tryz.ntmps101
  go_wp2_with (go_at_call 163;refine(cmp_isNaN _ _).mono ?_;rintro e w' ⟨rfl,rfl⟩);go_ret;exact⟨rfl,rfl⟩
 ·rw [show cmpI a a=0 by unfold cmpI;rw [if_neg (by omega),if_neg (by omega)]]
  have h1: ¬a<a:=by omega
  go_enter Tryz.func101,Tryz.ntmps101
  go_wp2_with (go_at_call 163;refine(cmp_isNaN _ _).mono ?_;rintro e w' ⟨rfl,rfl⟩);go_ret;exact⟨rfl,rfl⟩
 ·rw [show cmpI a b=1 by unfold cmpI;rw [if_neg (by omega),if_pos h]]
  have h1: ¬a<b:=by omega
  go_enter Tryz.func101,Tryz.ntmps101
  go_wp2_with (go_at_call 163;refine(cmp_isNaN _ _).mono ?_;rintro e w' ⟨rfl,rfl⟩);go_ret;exact⟨rfl,rfl⟩
theorem reach_cmp (W:World) (x y:Nd) :Calls Tryz.prog 209 #[.agg #[.int .i64 x.1,.int .i64 x.2],.agg #[.int .i64 y.1,.int .i64 y.2]] W fun e W'=>e=.returned (.int .i64 (cmpI x.1 y.1))∧∃q os',W'=Go.Sort.grow (W.drewN q) os':=by
 go_enter Tryz.func209,Tryz.ntmps209
 go_wp2_with fail;refine(cmp_Compare _ _ _).mono ?_;rintro e w1 ⟨rfl,rfl⟩;go_wp2_with fail;go_ret;refine⟨rfl,0, #[.cells #[.int .i64 x.1,.int .i64 x.2] 253,.cells #[.int .i64 y.1,.int .i64 y.2] 253],?_⟩;rw [Go.Sort.alloc_eq_grow,Go.Sort.alloc_eq_grow,Go.Sort.grow_grow]
 rfl
theorem cmpI_lt (a b:Int) :cmpI a b<0↔a<b:=by unfold cmpI;split <;> (try split) <;> omega
theorem swo_N:Go.Sort.SWO (Go.Proofs.ltOf fun x y:Nd=>cmpI x.1 y.1) where
 irrefl x:=by simp only [Go.Proofs.ltOf,decide_eq_false_iff_not,cmpI_lt];omega
 trans x y z h1 h2:=by simp only [Go.Proofs.ltOf,decide_eq_true_eq,cmpI_lt] at*;omega
 ntrans x y z h1 h2:=by simp only [Go.Proofs.ltOf,decide_eq_false_iff_not,cmpI_lt] at*;omega
theorem enters_reach: ∀args W,(callFunc 209 args).run Tryz.prog W=.ok (.enter 209 args) W:=enters_of Tryz.func209 (by kernel_rfl) rfl
theorem reach_sort (w:World) (base:Nat) (v:Value) (l:List Nd) (ho:Own w base 253 encN v l) (hm:l.length≤67108864) :
 Calls Tryz.prog 208 #[v,.func (.func 209) #[] #[]] w fun en w'=>en=.returned (.tuple #[])∧∃l',l'.Perm l∧l'.Pairwise (fun a b=>a.1≤b.1)∧Own w' base 253 encN v l'∧Turn (fun b=>v.ownBlock=some b) w w':=by
 refine Calls.mono (sortFunc_own Tryz.sortEnd encN (by intro w;kernel_rfl) (by intro w;kernel_rfl) (fun x y:Nd=>cmpI x.1 y.1) swo_N 209 #[] enters_reach w base 253 v l ho (by omega) (fun W _ x y=>reach_cmp W x y)) ?_;rintro e w' ⟨rfl,l',hp,hs,ho',hT⟩;refine⟨rfl,l',hp,hs.imp fun {a b} h=> ?_,ho',hT⟩;simp only [Go.Proofs.ltOf,decide_eq_false_iff_not,cmpI_lt] at h;omega
def QReach (v:Value) (l:List Nd) (k:Int) (w:World) (e:Ending) (w':World) :Prop:=∃z,e=.returned (.int .i64 z)∧ReachP l k z∧Turn (fun b=>v.ownBlock=some b) w w'
theorem quant_reach (w:World) (base:Nat) (v:Value) (l:List Nd) (k:Int) (ho:Own w base 253 encN v l) (h1: ∀x∈l,1≤x.2) (hk:1≤k) (hks:k≤sumR l) (hs:sumR l≤72057594037927935) (hm:l.length≤67108864) :
 Calls Tryz.prog 159 #[v,.int .i64 k] w (QReach v l k w):=by
 have HO:=LH ho;have H1:=LH h1;clear ho h1
 go_enter Tryz.func159,Tryz.ntmps159
 go_wp2_with fail;refine(reach_sort _ base v l HO.out hm).mono ?_;rintro e w1 ⟨rfl,l',hp,hsrt,ho1,hT⟩;have HP:=LH hp;have HSo:=LH hsrt;have HO1:=LH ho1;have HT:=LH hT;have HLen:=LH hp.length_eq;have hsum:sumR l'=sumR l:=sumR_perm hp;have HSum:=LH hsum;have h1':Hid (∀z∈l',1≤z.2):=LH fun z hz=>H1.out z (hp.mem_iff.1 hz);have hlm:l'.length≤67108864:=by have:=HLen.out;omega
 have hl0:0<l'.length:=by
  rcases Nat.eq_zero_or_pos l'.length with h0|h0
  ·have:=List.eq_nil_of_length_eq_zero h0;rw [this] at hsum;simp [sumR] at hsum;omega
  ·exact h0
 clear hp hsrt ho1 hT hsum;obtain⟨A,cap,rfl,_⟩:=HO1.out.form;go_wp2_with fail
 go_loop [1,5] (fun r a=>∃i:Nat,i<l'.length∧a=.int .i64 i∧r=.int .i64 (k - sumR (l'.take i))∧sumR (l'.take i) <k) (fun _ a=>l'.length - (intOf a).toNat)
 case atStart=>exact⟨0,hl0,rfl,by simp [sumR],by simp [sumR];omega⟩
 case round=>
  obtain⟨i,hi,rfl,rfl,hlt⟩:=hrel;obtain⟨c,off,rfl,hc,hcl⟩:=HO1.out.sl.at_ hi;have d0:=hcl 0 (.int .i64 l'[i].1) rfl;have d1:=hcl 1 (.int .i64 l'[i].2) rfl;simp only [Nat.add_zero] at d0;have e1:=sumR_take_succ hi;have sp:=sum_part h1'.out hi;have hx1:=h1'.out _ (List.getElem_mem hi);have hss:=HSum.out;have RA:=LH (fun h=>reach_at h1'.out HSo.out hi hlt h);have hint: (i:Int) < (l'.length:Int):=by omega
  obtain⟨x,hxe⟩ : ∃x,x=l'[i]:=⟨_,rfl⟩;rw [←hxe] at d0 d1 e1 sp hx1 RA;have HE:=LH e1;obtain⟨n,hn⟩ : ∃n,n=sumR (l'.take i):=⟨_,rfl⟩;rw [←hn] at sp hlt HE⊢;clear hcl hxe e1 hn hss;by_cases hgt:n+x.2<k
  ·have hd:decide (x.2<k - n) =true:=by simp;omega
   have hi2:i+1<l'.length:=by
    rcases Nat.lt_or_ge (i+1) l'.length with h|h
    ·exact h
    ·have h2:l'.take (i+1) =l':=List.take_of_length_le h
     have h3:=HE.out;rw [h2] at h3;have:=HSum.out;omega
   go_wp2_with fail
   go_round
   case rel=>exact⟨i+1,hi2,by go_num,by rw [HE.out];go_num,by rw [HE.out];exact hgt⟩
   case measure=>simp [intOf];omega
  ·have hd:decide (x.2<k - n) =false:=by simp;omega
   go_wp2_with fail;go_ret;exact⟨x.1,rfl,(RA.out (by rw [HE.out];omega)).perm HP.out,HT.out⟩
def endL (l:Int) (b:Bool) (r:List Nd) :List Nd:=r.map fun x=>((if b=true then (endsOf l x.1).1 else (endsOf l x.1).2.1),x.2)
theorem endL_true (l:Int) (r:List Nd) :endL l true r=firstL l r:=by simp [endL,firstL]
theorem endL_false (l:Int) (r:List Nd) :endL l false r=lastL l r:=by simp [endL,lastL]
theorem take_end {l:Int} {b:Bool} {r:List Nd} {q:Nat} (h:q<r.length) :endL l b (r.take (q+1)) =endL l b (r.take q) ++ [((if b=true then (endsOf l r[q].1).1 else (endsOf l r[q].1).2.1),r[q].2)]:=by
 unfold endL;rw [List.take_succ_eq_append_getElem h,List.map_append];rfl
theorem tyE:SliceTy Tryz.prog 217 253 2 16 (.agg #[.int .i64 0,.int .i64 0]):=⟨Tryz.underlying217,by kernel_rfl,rfl,by decide⟩
theorem quant_ends (w:World) (g K l:Nat) (k:Int) (r:List Nd) (F:Nat→Prop) (b:Bool) (h:DigAt w g K l k r F) (hn:r.length≤67108864) :
 Calls Tryz.prog 160 #[.pointer (some ⟨g,0,none⟩),.bool b] w (OwnPost 253 encN (endL l b r) w):=by
 have hf:=h.fits;have hll:=h.l_le;have HD:=LH h;clear h
 go_enter Tryz.func160,Tryz.ntmps160
 go_wp2_with fail;refine(digest_Conf _ g K l k r F HD.out).mono ?_;rintro e w1 ⟨rfl,hb1⟩;have B1:Below w.heap.size w w1:=Below.then_ bE hb1;have s1:=B1.size;have HD1:=LH (HD.out.below B1);go_wp2_with fail;refine(digest_Nodes _ g K l k r F HD1.out hn).mono ?_;rintro e w2 ⟨v,rfl,ho,hb2⟩;have B2:Below w.heap.size w w2:=Below.then_ bE hb2;have s2:=B2.size;have HO:=LH ho;have HB2:=LH B2;obtain⟨A,cap,rfl,_⟩:=ho.form;clear ho hb1 hb2 B1 B2;go_wp2_with fail
 go_loopw [5,18] (fun f i wr=>∃(q:Nat) (v1:Value),q≤r.length∧i=.int .i64 q∧f=v1∧Own wr w.heap.size 253 encN v1 (endL l b (r.take q))∧Own wr w1.heap.size 77 encN (.slice A r.length cap) r∧Below w.heap.size w wr∧w2.heap.size≤wr.heap.size) (fun _ i _=>r.length - (intOf i).toNat)
 case atStart=>exact⟨0,.slice none 0 0,Nat.zero_le _,rfl,rfl,Own.nil _ _ _ _,HO.out,HB2.out,Nat.le_refl _⟩
 case round=>
  obtain⟨q,v1,hq,rfl,rfl,hone,hown,hB,hs⟩:=hrel;have KT:=LH hone;have KO:=LH hown;have KB:=LH hB;clear hone hown;by_cases hlt:q<r.length
  ·obtain⟨c,off,rfl,hc,hcl⟩:=KO.out.sl.at_ hlt
   have d0:=hcl 0 (.int .i64 r[q].1) rfl;have d1:=hcl 1 (.int .i64 r[q].2) rfl;simp only [Nat.add_zero] at d0;have hxl:=hf.lt _ (List.getElem_mem hlt);have hp:=pow_48 (n:=l) hll.2;have TL:=LH (take_end (l:=l) (b:=b) hlt);obtain⟨x,hxe⟩ : ∃x,x=r[q]:=⟨_,rfl⟩;rw [←hxe] at d0 d1 hxl TL;have hx1:x.1≤562949953421312:=by omega
   have HE:=LH (twig_Ends · l x.1 (by omega));have LL:=LH (show (endL l b (r.take q)).length=q by simp [endL];omega);generalize endsOf l x.1=t at HE TL;obtain⟨t1,t2,t3⟩:=t;simp only at TL;unfold endsV at HE;have s2w:w.heap.size≤w2.heap.size:=HB2.out.size;clear hcl hxe hxl hp;go_wp2_with fail;refine(HE.out _).mono ?_;rintro e w3 ⟨rfl,hb3⟩;have c3:=fun o=>hb3.cell (p:=⟨wr.heap.size,o,none⟩) (by simp);have z3:wr.heap.size<w3.heap.size:=by have:=hb3.size;simp at this;omega
   have BW:Below wr.heap.size wr w3:=((Below.refl wr.heap.size wr).alloc (Nat.le_refl _) _).trans (hb3.mono (by simp));have T3:=LH (KT.out.below BW);have O3:=LH (KO.out.below BW);have B3:=LH (KB.out.trans (BW.mono KB.out.size));clear BW hb3
   cases b
   all_goals
    simp only [Bool.false_eq_true,if_false,if_true,reduceIte] at TL
    go_wp2_with ((at_builtin;first
     |refine wpList_push tyE rfl _ _ rfl encN w3 w.heap.size u5 _ rfl T3.out (t1,x.2) (by go_simp) rfl ?c1 ?c2 ?c3 ?c4
     |refine wpList_push tyE rfl _ _ rfl encN w3 w.heap.size u5 _ rfl T3.out (t2,x.2) (by go_simp) rfl ?c1 ?c2 ?c3 ?c4))
    case c1=>have:=LL.out;omega
    case c2=>have:=LL.out;simp only [maxLen];omega
    case c3=>omega
    case c4=>
     intro v1' w4 ho4 hg4 hz4 hl4 hb4 _;have T4:=LH ho4;have O4:=LH (O3.out.kept hg4 (own_ne O3.out T3.out (by decide)));have B4:=LH (B3.out.trans hb4);have z5:w2.heap.size≤w4.heap.size:=by omega
     clear ho4 hg4 hl4 hb4;go_wp2_with fail;go_roundw
     case rel=>exact⟨q+1,v1',by omega,by go_num,rfl,by rw [TL.out];exact T4.out,O4.out,B4.out,z5⟩
     case measure=>simp [intOf];omega
  ·obtain rfl:q=r.length:=by omega
   rw [List.take_length] at KT;go_wp2_with fail;go_ret;exact⟨_,rfl,KT.out,KB.out⟩
def qWrong (r:List Nd) (k:Int) :Int:=if sumR r=0 then 7 else if k<1∨sumR r<k then 2 else 0
theorem quant_wrong (w:World) (g K l:Nat) (k:Int) (r:List Nd) (F:Nat→Prop) (rk:Int) (h:DigAt w g K l k r F) :Calls Tryz.prog 98 #[.pointer (some ⟨g,0,none⟩),.int .i64 rk] w fun e w'=>e=.returned (.int .i64 (qWrong r rk))∧Below w.heap.size w w':=by
 have HD:=LH h;have HN:=LH (digest_N · g K l k r F ·);unfold qWrong;generalize sumR r=n at HN⊢;clear h;by_cases h0:n=0
 ·subst h0
  rw [if_pos rfl]
  go_enter Tryz.func98,Tryz.ntmps98
  go_wp2_with fail;refine(HN.out _ HD.out).mono ?_;rintro e w1 ⟨rfl,hb1⟩;have B1:Below w.heap.size w w1:=Below.then_ bE hb1;have s1:=B1.size;go_wp2_with fail;go_ret;exact⟨rfl,bE⟩
 ·rw [if_neg h0]
  have h0': (n == 0) =false:=by simpa using h0
  by_cases h1:rk<1
  ·rw [if_pos (.inl h1)]
   clear h0
   go_enter Tryz.func98,Tryz.ntmps98
   go_wp2_with fail;refine(HN.out _ HD.out).mono ?_;rintro e w1 ⟨rfl,hb1⟩;have B1:Below w.heap.size w w1:=Below.then_ bE hb1;have s1:=B1.size;go_wp2_with fail;go_ret;exact⟨rfl,bE⟩
  ·by_cases h2:n<rk
   ·rw [if_pos (.inr h2)]
    clear h0
    go_enter Tryz.func98,Tryz.ntmps98
    go_wp2_with fail;refine(HN.out _ HD.out).mono ?_;rintro e w1 ⟨rfl,hb1⟩;have B1:Below w.heap.size w w1:=Below.then_ bE hb1;have s1:=B1.size;have HD1:=LH (HD.out.below hb1);go_wp2_with fail;refine(HN.out _ HD1.out).mono ?_;rintro e w2 ⟨rfl,hb2⟩;have B2:Below w.heap.size w w2:=Below.then_ bE hb2;have s2:=B2.size;go_wp2_with fail;go_ret;exact⟨rfl,bE⟩
   ·rw [if_neg (by omega)]
    clear h0
    go_enter Tryz.func98,Tryz.ntmps98
    go_wp2_with fail;refine(HN.out _ HD.out).mono ?_;rintro e w1 ⟨rfl,hb1⟩;have B1:Below w.heap.size w w1:=Below.then_ bE hb1;have s1:=B1.size;have HD1:=LH (HD.out.below hb1);go_wp2_with fail;refine(HN.out _ HD1.out).mono ?_;rintro e w2 ⟨rfl,hb2⟩;have B2:Below w.heap.size w w2:=Below.then_ bE hb2;have s2:=B2.size;go_wp2_with fail;go_ret;exact⟨rfl,bE⟩
def atT (l:Int) (r:List Nd) (k:Int) :Int×Int:=if qWrong r k=0 then (bestOf (lastL l r) k,0) else (0,qWrong r k)
def firstT (l:Int) (r:List Nd) (k:Int) :Int×Int:=if qWrong r k=0 then (bestOf (firstL l r) k,0) else (0,qWrong r k)
def pairV (t:Int×Int) :Value:=.tuple #[.int .i64 t.1,.int .i64 t.2]
theorem qWrong_ok {r:List Nd} {k:Int} (h:qWrong r k=0) :1≤k∧k≤sumR r:=by
 unfold qWrong at h
 split at h
 ·cases h
 ·split at h
  ·cases h
  ·omega
theorem reach_of (w:World) (base:Nat) (v:Value) (l:Nat) (b:Bool) (r:List Nd) (k:Int) (ho:Own w base 253 encN v (endL l b r)) (hf:Fits l r) (hl:1≤l∧l≤48) (hk:qWrong r k=0) (hm:r.length≤67108864) :
 Calls Tryz.prog 159 #[v,.int .i64 k] w fun e w'=>e=.returned (.int .i64 (bestOf (endL l b r) k))∧Turn (fun b=>v.ownBlock=some b) w w':=by
 have hs:sumR (endL l b r) =sumR r:=by cases b;rw [endL_false,sum_last];rw [endL_true,sum_first]
 have h1: ∀x∈endL l b r,1≤x.2:=fun x hx=>by obtain⟨y,hy,rfl⟩:=List.mem_map.1 hx;exact(hf.roll.2 y hy).2
 have h0: ∀x∈endL l b r,0≤x.1:=fun x hx=>by
  obtain⟨y,hy,rfl⟩:=List.mem_map.1 hx;have:=ends_48 hl.2 (hf.nodes hl y hy);simp only
  split <;> omega
 have hq:=qWrong_ok hk;refine(quant_reach w base v (endL l b r) k ho h1 hq.1 (by rw [hs];exact hq.2) (by rw [hs];exact hf.sum) (by simpa [endL] using hm)).mono ?_;rintro e w' ⟨z,rfl,hz,hT⟩;exact⟨by rw [best_reach h0 h1 hq.1 hz],hT⟩
theorem quant_At (w:World) (g K l:Nat) (k:Int) (r:List Nd) (F:Nat→Prop) (rk:Int) (h:DigAt w g K l k r F) (hn:r.length≤67108864) :Calls Tryz.prog 94 #[.pointer (some ⟨g,0,none⟩),.int .i64 rk] w fun e w'=>e=.returned (pairV (atT l r rk))∧Below w.heap.size w w':=by
 have HD:=LH h;have hf:=h.fits;have hll:=h.l_le;have HW:=LH (quant_wrong · g K l k r F rk ·);unfold pairV atT;clear h;by_cases hw:qWrong r rk=0
 ·rw [if_pos hw]
  rw [hw] at HW;have HR:=LH (fun w base v ho=>reach_of w base v l false r rk ho hf hll hw hn);rw [endL_false] at HR;have HE:=LH (quant_ends · g K l k r F false · hn);rw [endL_false] at HE;generalize bestOf (lastL l r) rk=z at HR⊢;clear hw hf hll
  go_enter Tryz.func94,Tryz.ntmps94
  go_wp2_with fail;refine(HW.out _ HD.out).mono ?_;rintro e w1 ⟨rfl,hb1⟩;have B1:Below w.heap.size w w1:=Below.then_ bE hb1;have s1:=B1.size;have HD1:=LH (HD.out.below hb1);go_wp2_with fail;refine(HE.out _ HD1.out).mono ?_;rintro e w2 ⟨v,rfl,ho,hb2⟩;have B2:Below w.heap.size w w2:=Below.then_ bE hb2;have s2:=B2.size;have HO:=LH ho;clear ho;go_wp2_with fail;refine(HR.out _ _ _ HO.out).mono ?_;rintro e w3 ⟨rfl,hT⟩;have B3:=B2.trans ((hT.below (base:=w1.heap.size) (fun b hb=>(HO.out.lt b hb).1) hb2.size).mono s1);clear hT;go_wp2_with fail
  go_ret2
  exact⟨rfl,B3⟩
 ·rw [if_neg hw]
  have hw': ((qWrong r rk) == 0) =false:=by simpa using hw
  generalize qWrong r rk=z at HW hw'⊢;clear hw hf hll
  go_enter Tryz.func94,Tryz.ntmps94
  go_wp2_with fail;refine(HW.out _ HD.out).mono ?_;rintro e w1 ⟨rfl,hb1⟩;have B1:Below w.heap.size w w1:=Below.then_ bE hb1;have s1:=B1.size;go_wp2_with fail
  go_ret2
  exact⟨rfl,bE⟩
theorem part_le_b {a b c:Nat} (hbc:b≤c) (hc:1≤c) :a*b / c≤a:=by rw [Nat.mul_comm];exact part_le hbc hc
theorem part_lt_b {a b c:Nat} (hbc:b≤c) (hc:1≤c) (h:a*b % c≠0) :a*b / c<a:=by rw [Nat.mul_comm] at h⊢;exact part_lt hbc hc h
theorem up_le_b {a b c:Nat} (hbc:b≤c) (hc:1≤c) :upV a b c≤a:=by
 unfold upV
 split
 ·exact part_le_b hbc hc
 ·rename_i h;exact part_lt_b hbc hc h
theorem reckon_share_b (w:World) (a b c:Nat) (ha:a≤9223372036854775807) (hc:1≤c) (hc2:c≤9223372036854775807) (hbc:b≤c) :
 Calls Tryz.prog 95 #[.int .i64 a,.int .i64 b,.int .i64 c] w fun e w'=>e=.returned (.tuple #[.int .u64 (a*b / c:Nat),.int .u64 (a*b % c:Nat),.bool true])∧Below w.heap.size w w':=by
 have hb:b≤9223372036854775807:=by omega
 have HC:=LH (show decide (0≤(a:Int)∧0≤(b:Int)) =true by simp);have HM:Hid (∀W,Calls Tryz.prog 125 #[.int .u64 a,.int .u64 b] W fun e w'=>e=.returned (.tuple #[.int .u64 (a*b / 18446744073709551616:Nat),.int .u64 (a*b % 18446744073709551616:Nat)])∧w'=W):=LH fun W=>Tryz.bits_Mul64 a b (by omega) (by omega) W;have h1:a*b≤c*9223372036854775807:=by rw [Nat.mul_comm];exact Nat.mul_le_mul hbc ha
 have hhi:a*b / 18446744073709551616<c:=by omega
 have hlo:a*b % 18446744073709551616≤18446744073709551615:=by omega
 have hD:=LH (fun w=>bits_Div64 w (a*b / 18446744073709551616) (a*b % 18446744073709551616) c (by omega) hhi (by omega));rw [Nat.div_add_mod'] at hD;have hr0:a*b % c≤c:=by have:=Nat.mod_lt (a*b) (show c>0 by omega);omega
 have hql:=part_le_b (a:=a) hbc hc;clear h1;generalize a*b / 18446744073709551616=hi at HM hhi hD;generalize a*b % 18446744073709551616=lo at HM hlo hD;generalize a*b / c=q at hD hql⊢;generalize a*b % c=r at hD hr0⊢;have hhi':decide ((c:Int)≤(hi:Int)) =false:=by simp;omega
 go_enter Tryz.func95,Tryz.ntmps95
 go_wp2_with fail;refine(reckon_counts _ a b).mono ?_;rintro e w1 ⟨rfl,hb1⟩;have B1:Below w.heap.size w w1:=Below.then_ bE hb1;have s1:=B1.size;rw [HC.out];go_wp2_with fail;refine(HM.out _).mono ?_;rintro e w2 ⟨rfl,rfl⟩;go_wp2_with fail;refine(hD.out _).mono ?_;rintro e w3 ⟨rfl,hb3⟩;have B3:Below w.heap.size w w3:=Below.then_ bE hb3;have s3:=B3.size;go_wp2_with fail
 go_ret3
 exact⟨rfl,bE⟩
theorem reckon_PartUp_b (w:World) (a b c:Nat) (ha:a≤9223372036854775807) (hc:1≤c) (hc2:c≤9223372036854775807) (hbc:b≤c) :
 Calls Tryz.prog 36 #[.int .i64 a,.int .i64 b,.int .i64 c] w fun e w'=>e=.returned (.tuple #[.int .i64 (upV a b c:Nat),.bool true])∧Below w.heap.size w w':=by
 have HS:=LH (reckon_share_b · a b c ha hc hc2 hbc);have hql:=part_le_b (a:=a) hbc hc;have hqr:a*b % c≠0→a*b / c<a:=fun h=>part_lt_b hbc hc h;have hr0:a*b % c≤c:=by have:=Nat.mod_lt (a*b) (show c>0 by omega);omega
 unfold upV;generalize a*b / c=q at HS hql hqr⊢;generalize a*b % c=r at HS hqr hr0⊢;by_cases h:r=0
 ·subst h
  rw [if_pos rfl]
  go_enter Tryz.func36,Tryz.ntmps36
  go_wp2_with fail;refine(HS.out _).mono ?_;rintro e w1 ⟨rfl,hb1⟩;have B1:Below w.heap.size w w1:=Below.then_ bE hb1;have s1:=B1.size;go_wp2_with fail;refine(reckon_count _ q (by omega)).mono ?_;rintro e w2 ⟨rfl,hb2⟩;have B2:Below w.heap.size w w2:=Below.then_ bE hb2;have s2:=B2.size;go_wp2_with fail
  go_ret2
  exact⟨rfl,B2⟩
 ·rw [if_neg h]
  have hq2:=hqr h;have h0: (0:Int) < (r:Int):=by omega
  clear hqr h;have HK:=LH (reckon_count · (q+1) (by omega))
  push_cast at HK⊢
  go_enter Tryz.func36,Tryz.ntmps36
  go_wp2_with fail;refine(HS.out _).mono ?_;rintro e w1 ⟨rfl,hb1⟩;have B1:Below w.heap.size w w1:=Below.then_ bE hb1;have s1:=B1.size;go_wp2_with fail;refine(HK.out _).mono ?_;rintro e w2 ⟨rfl,hb2⟩;have B2:Below w.heap.size w w2:=Below.then_ bE hb2;have s2:=B2.size;go_wp2_with fail
  go_ret2
  exact⟨rfl,B2⟩
def spanV (lo hi:Int) :Value:=.complex .f64 (FloatKind.f64.nearest lo) (FloatKind.f64.nearest hi)
def spanT (l:Int) (r:List Nd) (k:Int) :Value:=.tuple #[(if qWrong r k=0 then spanV (bestOf (firstL l r) k) (bestOf (lastL l r) k) else .complex .f64 0 0),.int .i64 (qWrong r k)]
theorem best_ends {l:Nat} (hl:1≤l∧l≤48) {r:List Nd} (hf:Fits l r) {k:Int} (hk:qWrong r k=0) (b:Bool) : ∃z,bestOf (endL l b r) k=z∧ReachP (endL l b r) k z:=by
 have hs:sumR (endL l b r) =sumR r:=by cases b;rw [endL_false,sum_last];rw [endL_true,sum_first]
 have h1: ∀x∈endL l b r,1≤x.2:=fun x hx=>by obtain⟨y,hy,rfl⟩:=List.mem_map.1 hx;exact(hf.roll.2 y hy).2
 have h0: ∀x∈endL l b r,0≤x.1:=fun x hx=>by
  obtain⟨y,hy,rfl⟩:=List.mem_map.1 hx;have:=ends_48 hl.2 (hf.nodes hl y hy);simp only
  split <;> omega
 have hq:=qWrong_ok hk;obtain⟨z,hz⟩:=reach_exists (endL l b r) h1 k hq.1 (by rw [hs];exact hq.2);exact⟨z,best_reach h0 h1 hq.1 hz,hz⟩
theorem low_le_high {l:Nat} {r:List Nd} (h:Roll r) (hn: ∀x∈r,isNode l x.1=true) (a:Int) :lowOf l r a≤highOf l r a:=weighR_mono h fun x hx h1=>by
 have:=ends_bounds (hn x hx);simp at h1⊢;omega
theorem best_range {l:Nat} (hl:1≤l∧l≤48) {r:List Nd} (hf:Fits l r) {k:Int} (hk:qWrong r k=0) :0≤bestOf (firstL l r) k∧bestOf (firstL l r) k≤bestOf (lastL l r) k∧bestOf (lastL l r) k≤281474976710655:=by
 obtain⟨a,ea,ra⟩:=best_ends hl hf hk true;obtain⟨b,eb,rb⟩:=best_ends hl hf hk false;rw [endL_true] at ea ra;rw [endL_false] at eb rb;rw [ea,eb];obtain⟨x,hx,rfl⟩:=ra.mem;obtain⟨y,hy,rfl⟩:=rb.mem;obtain⟨u,hu,rfl⟩:=List.mem_map.1 hx;obtain⟨v,hv,rfl⟩:=List.mem_map.1 hy;have h1:=ends_48 hl.2 (hf.nodes hl u hu);have h2:=ends_48 hl.2 (hf.nodes hl v hv);refine⟨h1.1,?_,h2.2.2⟩;rcases Int.lt_or_le (endsOf l v.1).2.1 (endsOf l u.1).1 with hlt|hle
 ·have h3:=ra.less _ hlt
  have h4:=rb.up;simp only at h4;rw [high_up] at h3;rw [low_up] at h4;have:=low_le_high hf.roll (hf.nodes hl) (endsOf l v.1).2.1;omega
 ·exact hle
def rankT (r:List Nd) (num den:Int) :Int×Int:=if sumR r=0 then (0,7) else if den<1∨num<0∨den<num then (0,2) else (max (upV (sumR r).toNat num.toNat den.toNat:Nat) 1,0)
theorem quant_Rank (w:World) (g K l:Nat) (k:Int) (r:List Nd) (F:Nat→Prop) (a b:Int) (h:DigAt w g K l k r F) (hb:b≤9223372036854775807) :Calls Tryz.prog 93 #[.pointer (some ⟨g,0,none⟩),.int .i64 a,.int .i64 b] w fun e w'=>e=.returned (pairV (rankT r a b))∧Below w.heap.size w w':=by
 have HD:=LH h;have hf:=h.fits;have hs1:=hf.sum;have hs0:=sumR_nonneg hf.roll;have HW:=LH (quant_wrong · g K l k r F 1 ·);have HN:=LH (digest_N · g K l k r F ·);unfold pairV rankT;clear h hf;by_cases h0:sumR r=0
 ·rw [if_pos h0]
  rw [show qWrong r 1=7 by unfold qWrong;rw [if_pos h0]] at HW;clear h0
  go_enter Tryz.func93,Tryz.ntmps93
  go_wp2_with fail;refine(HW.out _ HD.out).mono ?_;rintro e w1 ⟨rfl,hb1⟩;have B1:Below w.heap.size w w1:=Below.then_ bE hb1;have s1:=B1.size;go_wp2_with fail
  go_ret2
  exact⟨rfl,bE⟩
 ·rw [if_neg h0]
  rw [show qWrong r 1=0 by unfold qWrong;rw [if_neg h0,if_neg (by omega)]] at HW;obtain⟨n,hn⟩ : ∃n:Nat,sumR r=n:=Int.eq_ofNat_of_zero_le hs0;rw [hn] at HN hs1 h0⊢;clear hn hs0;by_cases c1:b<1
  ·rw [if_pos (.inl c1)]
   go_enter Tryz.func93,Tryz.ntmps93
   go_wp2_with fail;refine(HW.out _ HD.out).mono ?_;rintro e w1 ⟨rfl,hb1⟩;have B1:Below w.heap.size w w1:=Below.then_ bE hb1;have s1:=B1.size;go_wp2_with fail
   go_ret2
   exact⟨rfl,bE⟩
  ·by_cases c2:a<0
   ·rw [if_pos (.inr (.inl c2))]
    go_enter Tryz.func93,Tryz.ntmps93
    go_wp2_with fail;refine(HW.out _ HD.out).mono ?_;rintro e w1 ⟨rfl,hb1⟩;have B1:Below w.heap.size w w1:=Below.then_ bE hb1;have s1:=B1.size;go_wp2_with fail
    go_ret2
    exact⟨rfl,bE⟩
   ·by_cases c3:b<a
    ·rw [if_pos (.inr (.inr c3))]
     go_enter Tryz.func93,Tryz.ntmps93
     go_wp2_with fail;refine(HW.out _ HD.out).mono ?_;rintro e w1 ⟨rfl,hb1⟩;have B1:Below w.heap.size w w1:=Below.then_ bE hb1;have s1:=B1.size;go_wp2_with fail
     go_ret2
     exact⟨rfl,bE⟩
    ·rw [if_neg (by omega)]
     obtain⟨a,rfl⟩:=Int.eq_ofNat_of_zero_le (show 0≤a by omega);obtain⟨b,rfl⟩:=Int.eq_ofNat_of_zero_le (show 0≤b by omega);simp only [Int.toNat_natCast];have HP:=LH (reckon_PartUp_b · n a b (by omega) (by omega) (by omega) (by omega));have hu:=up_le_b (a:=n) (b:=a) (c:=b) (by omega) (by omega);generalize upV n a b=u at HP hu⊢;have c1':decide ((b:Int) <1) =false:=by simpa using c1
     have c3':decide ((b:Int) < (a:Int)) =false:=by simpa using c3
     have c4':decide (b<a) =false:=by simpa using c3
     clear c1 c2 c3 h0
     go_enter Tryz.func93,Tryz.ntmps93
     go_wp2_with fail;refine(HW.out _ HD.out).mono ?_;rintro e w1 ⟨rfl,hb1⟩;have B1:Below w.heap.size w w1:=Below.then_ bE hb1;have s1:=B1.size;have HD1:=LH (HD.out.below hb1);go_wp2_with fail;refine(HN.out _ HD1.out).mono ?_;rintro e w2 ⟨rfl,hb2⟩;have B2:Below w.heap.size w w2:=Below.then_ bE hb2;have s2:=B2.size;go_wp2_with fail;refine(HP.out _).mono ?_;rintro e w3 ⟨rfl,hb3⟩;have B3:Below w.heap.size w w3:=Below.then_ bE hb3;have s3:=B3.size;go_wp2_with fail
     go_ret2
     exact⟨rfl,bE⟩
def ofT (l:Int) (r:List Nd) (a b:Int) :Int×Int:=if (rankT r a b).2=0 then atT l r (rankT r a b).1 else (0,(rankT r a b).2)
theorem quant_Of (w:World) (g K l:Nat) (k:Int) (r:List Nd) (F:Nat→Prop) (a b:Int) (h:DigAt w g K l k r F) (hn:r.length≤67108864) (hb:b≤9223372036854775807) :Calls Tryz.prog 35 #[.pointer (some ⟨g,0,none⟩),.int .i64 a,.int .i64 b] w fun e w'=>e=.returned (pairV (ofT l r a b))∧Below w.heap.size w w':=by
 have HD:=LH h;have HR:=LH (quant_Rank · g K l k r F a b · hb);have HA:=LH (fun w x h=>quant_At w g K l k r F x h hn);unfold ofT;unfold pairV at HR HA⊢;clear h;generalize rankT r a b=t at HR⊢;obtain⟨t1,t2⟩:=t;simp only at HR⊢;by_cases h0:t2=0
 ·subst h0
  rw [if_pos rfl];have HA:=LH (HA.out · t1 ·);generalize atT l r t1=u at HA⊢;obtain⟨u1,u2⟩:=u;simp only at HA⊢
  go_enter Tryz.func35,Tryz.ntmps35
  go_wp2_with fail;refine(HR.out _ HD.out).mono ?_;rintro e w1 ⟨rfl,hb1⟩;have B1:Below w.heap.size w w1:=Below.then_ bE hb1;have s1:=B1.size;have HD1:=LH (HD.out.below hb1);go_wp2_with fail;refine(HA.out _ HD1.out).mono ?_;rintro e w2 ⟨rfl,hb2⟩;have B2:Below w.heap.size w w2:=Below.then_ bE hb2;have s2:=B2.size;go_wp2_with fail
  go_ret2
  exact⟨rfl,bE⟩
 ·rw [if_neg h0]
  have h0': (t2 == 0) =false:=by simpa using h0
  clear h0
  go_enter Tryz.func35,Tryz.ntmps35
  go_wp2_with fail;refine(HR.out _ HD.out).mono ?_;rintro e w1 ⟨rfl,hb1⟩;have B1:Below w.heap.size w w1:=Below.then_ bE hb1;have s1:=B1.size;go_wp2_with fail
  go_ret2
  exact⟨rfl,bE⟩
theorem quant_Median (w:World) (g K l:Nat) (k:Int) (r:List Nd) (F:Nat→Prop) (h:DigAt w g K l k r F) (hn:r.length≤67108864) :Calls Tryz.prog 12 #[.pointer (some ⟨g,0,none⟩)] w fun e w'=>e=.returned (pairV (ofT l r 1 2))∧Below w.heap.size w w':=by
 have HD:=LH h;have HO:=LH (quant_Of · g K l k r F 1 2 · hn (by decide));unfold pairV at HO⊢;clear h;generalize ofT l r 1 2=u at HO⊢;obtain⟨u1,u2⟩:=u;simp only at HO⊢
 go_enter Tryz.func12,Tryz.ntmps12
 go_wp2_with fail;refine(HO.out _ HD.out).mono ?_;rintro e w1 ⟨rfl,hb1⟩;have B1:Below w.heap.size w w1:=Below.then_ bE hb1;have s1:=B1.size;go_wp2_with fail
 go_ret2
 exact⟨rfl,bE⟩
section
open Ieee
end
section
open Ieee
theorem ReachP.mono {L:List Nd} {a b y z:Int} (h:ReachP L a y) (h':ReachP L b z) (hab:a≤b) :y≤z:=by
 rcases Int.lt_or_le z y with hlt|hle
 ·have:=h.less z hlt;have:=h'.up;omega
 ·exact hle
end
theorem many_cmp (w:World) (L B g t:Nat) (n:Int) (lt ft:List Nd) (x k:Int) (hT:TabAt w L B g n lt ft) (hc:w.cell? ⟨t,0,none⟩ =some (.pointer (some ⟨g,0,none⟩))) (hm:lt.length≤67108864) (hr:lt.Pairwise fun a b=>a.1<b.1) :
 Calls Tryz.prog 100 #[.int .i64 x,.int .i64 k,.pointer (some ⟨t,0,none⟩)] w fun e w'=>e=.returned (.int .i64 (cmpI (upT lt x) k))∧Below w.heap.size w w':=by
 have HT:=LH hT;have HR:=LH hr;clear hT hr
 go_enter Tryz.func100,Tryz.ntmps100
 go_wp2_with fail;refine(table_Low x HT.out hm HR.out).mono ?_;rintro e w1 ⟨rfl,hb1⟩;have B1:Below w.heap.size w w1:=Below.then_ bE hb1;have s1:=B1.size;go_wp2_with fail;refine(cmp_Compare _ _ _).mono ?_;rintro e w2 ⟨rfl,rfl⟩;go_wp2_with fail;go_ret;exact⟨rfl,bE⟩
structure Found (zs:List Int) (f:Int→Int) (i:Nat) :Prop where
 le:i≤zs.length
 less: ∀j (hj:j<zs.length),j<i→f zs[j] <0
 ge: ∀j (hj:j<zs.length),i≤j→0≤f zs[j]
def SearchPost (zs:List Int) (f:Int→Int) (w:World) (e:Ending) (w':World) :Prop:=
 ∃(i:Nat) (b:Bool),e=.returned (.tuple #[.int .i64 i,.bool b])∧Found zs f i∧Below w.heap.size w w'
theorem bsearch (w:World) (A:Option Addr) (cap:Nat) (zs:List Int) (k:Int) (fn:Nat) (caps:Array Value) (eg: ∀args W,(callFunc fn args).run Tryz.prog W=.ok (.enter fn args) W) (f:Int→Int)
 (step: ∀x W,Below w.heap.size w W→Calls Tryz.prog fn (#[.int .i64 x,.int .i64 k] ++ caps) W fun e W'=>e=.returned (.int .i64 (f x))∧Below W.heap.size W W')
 (hS:Sl w w.heap.size encZ A zs) (hm:zs.length≤67108864) (hmono: ∀a b (ha:a<zs.length) (hb:b<zs.length),a≤b→f zs[a] <0∨0≤f zs[b]) :
 Calls Tryz.prog 99 #[.slice A zs.length cap,.int .i64 k,.func (.func fn) #[] caps] w (SearchPost zs f w):=by
 have HS:=LH hS;have ST:=LH step;have HM:=LH hmono;clear hS step hmono
 go_enter Tryz.func99,Tryz.ntmps99
 go_wp2_with fail
 go_loopw [9,10] (fun i j wr=>∃a b:Nat,i=.int .i64 a∧j=.int .i64 b∧a≤b∧b≤zs.length∧(∀t (ht:t<zs.length),t<a→f zs[t] <0)∧(∀t (ht:t<zs.length),b≤t→0≤f zs[t])∧Below w.heap.size w wr) (fun i j _=>(intOf j - intOf i).toNat)
 case atStart=>exact⟨0,zs.length,rfl,rfl,Nat.zero_le _,Nat.le_refl _,fun t _ h=>absurd h (Nat.not_lt_zero _),fun t ht h=>by omega,Below.refl _ _⟩
 case round=>
  obtain⟨a,b,rfl,rfl,hab,hbz,hL,hG,hB⟩:=hrel;have KL:=LH hL;have KG:=LH hG;have KB:=LH hB;clear hL hG hB;by_cases hlt:a<b
  ·have hx: (a+b) / 2<zs.length:=by omega
   obtain⟨c,off,rfl,hc,hcl⟩:=HS.out.at_ hx;have d0:=hcl 0 (.int .i64 zs[(a+b) / 2]) rfl;simp only [Nat.mul_one,Nat.add_zero] at d0;have d0':=(KB.out.cell (p:=⟨c,off+ (a+b) / 2,none⟩) hc).trans d0;go_wp2_with fail;refine(ST.out _ _ KB.out).mono ?_;rintro e w3 ⟨rfl,hb3⟩;have B3:=LH (KB.out.trans (hb3.mono KB.out.size));have M1:=LH (fun t (ht:t<zs.length) (h:t≤(a+b) / 2)=>HM.out t _ ht hx h);have M2:=LH (fun t (ht:t<zs.length) (h: (a+b) / 2≤t)=>HM.out _ t hx ht h);generalize f zs[(a+b) / 2] =v at M1 M2⊢;clear hb3 d0 d0' hcl;by_cases hneg:v<0
   ·have hd:decide (v<0) =true:=by simpa using hneg
    go_wp2_with fail;go_roundw
    case rel=>exact⟨(a+b) / 2+1,b,by go_num,rfl,by omega,hbz,fun t ht h=>(M1.out t ht (by omega)).resolve_right (by omega),KG.out,B3.out⟩
    case measure=>simp [intOf];omega
   ·have hd:decide (v<0) =false:=by simpa using hneg
    go_wp2_with fail;go_roundw
    case rel=>exact⟨a,(a+b) / 2,rfl,by go_num,by omega,by omega,KL.out,fun t ht h=>(M2.out t ht (by omega)).resolve_left (by omega),B3.out⟩
    case measure=>simp [intOf];omega
  ·obtain rfl:a=b:=by omega
   by_cases hz:a<zs.length
   ·obtain⟨c,off,rfl,hc,hcl⟩:=HS.out.at_ hz
    have d0:=hcl 0 (.int .i64 zs[a]) rfl;simp only [Nat.mul_one,Nat.add_zero] at d0;have d0':=(KB.out.cell (p:=⟨c,off+a,none⟩) hc).trans d0;clear d0 hcl;go_wp2_with fail;refine(ST.out _ _ KB.out).mono ?_;rintro e w3 ⟨rfl,hb3⟩;have B3:=LH (KB.out.trans (hb3.mono KB.out.size));clear hb3 d0';go_wp2_with fail
    go_ret2
    exact⟨a,_,rfl,⟨by omega,fun t ht h=>KL.out t ht h,fun t ht h=>KG.out t ht h⟩,B3.out⟩
   ·go_wp2_with fail
    go_ret2
    exact⟨a,_,rfl,⟨by omega,fun t ht h=>KL.out t ht h,fun t ht h=>KG.out t ht h⟩,KB.out⟩
theorem table_N {w:World} {L B g:Nat} {n:Int} {lt ft:List Nd} (h:TabAt w L B g n lt ft) :
 Calls Tryz.prog 122 #[.pointer (some ⟨g,0,none⟩)] w fun e w'=>e=.returned (.int .i64 n)∧Below w.heap.size w w':=by
 obtain⟨h0,h0',A1,c1,A2,c2,A3,c3,A4,c4,h1,_,_⟩:=h;have c:=bC h1;have z:=lB h1;clear h1
 go_enter Tryz.func122,Tryz.ntmps122
 go_wp2_with fail;go_ret;exact⟨rfl,bE⟩
def badOf (r:List Nd) :List Int→Int
 | []=>0
 |k :: ks=>if qWrong r k=0 then badOf r ks else qWrong r k
theorem badOf_ok {r:List Nd} {ks:List Int} (h: ∀k∈ks,qWrong r k=0) :badOf r ks=0:=by
 induction ks with
 |nil=>rfl
 |cons k ks ih=>rw [badOf,if_pos (h k (by simp))];exact ih fun x hx=>h x (by simp [hx])
theorem badOf_at {r:List Nd} {ks:List Int} {q:Nat} (hq:q<ks.length) (h: ∀k∈ks.take q,qWrong r k=0) (hb:qWrong r ks[q]≠0) :badOf r ks=qWrong r ks[q]:=by
 induction ks generalizing q with
 |nil=>simp at hq
 |cons k ks ih=>
  cases q with
  |zero=>simp only [List.getElem_cons_zero] at hb⊢;rw [badOf,if_neg hb]
  |succ q=>
   simp only [List.getElem_cons_succ] at hb⊢;rw [badOf,if_pos (h k (by simp))];exact ih (by simpa using hq) (fun x hx=>h x (by simp [hx])) hb
def manyL (l:Int) (r:List Nd) (ks:List Int) :List Int:=if badOf r ks=0 then ks.map (bestOf (lastL l r)) else []
theorem wUp_mono {L:List Nd} (h1: ∀y∈L,1≤y.2) {x y:Int} (h:x≤y) :wUp L x≤wUp L y:=by
 induction L with
 |nil=>simp [wUp]
 |cons a L ih=>
  have:=ih fun z hz=>h1 z (by simp [hz]);have:=h1 a (by simp);simp only [wUp]
  split <;> split <;> omega
theorem cmpI_nonneg (a b:Int) :0≤cmpI a b↔b≤a:=by unfold cmpI;split <;> (try split) <;> omega
theorem many_mono {L t:List Nd} (h:Tab L t) (h1: ∀y∈L,1≤y.2) (k:Int) : ∀a b (ha:a< (t.map (·.1)).length) (hb:b< (t.map (·.1)).length),a≤b→cmpI (upT t (t.map (·.1))[a]) k<0∨0≤cmpI (upT t (t.map (·.1))[b]) k:=by
 intro a b ha hb hab;rw [cmpI_lt,cmpI_nonneg,h.upT,h.upT]
 have hle: (t.map (·.1))[a]≤(t.map (·.1))[b]:=by
  rcases Nat.lt_or_ge a b with hlt|hge
  ·simp only [List.getElem_map]
   exact Int.le_of_lt (List.pairwise_iff_getElem.1 h.rise a b (by simpa using ha) (by simpa using hb) hlt)
  ·have:a=b:=by omega
   subst this;exact Int.le_refl _
 have:=wUp_mono h1 hle;omega
theorem found_reach {L t:List Nd} (h:Tab L t) (h1: ∀y∈L,1≤y.2) {k:Int} (hk:1≤k) (hs:k≤sumR L) {i:Nat} (hf:Found (t.map (·.1)) (fun x=>cmpI (upT t x) k) i) : ∃hi:i< (t.map (·.1)).length,ReachP L k (t.map (·.1))[i]:=by
 obtain⟨z,hz⟩:=reach_exists L h1 k hk hs;obtain⟨x,hx,ex⟩:=hz.mem;obtain⟨y,hy,ey⟩:=h.all x hx;obtain⟨m,hm,rfl⟩:=List.getElem_of_mem hy;have hm':m< (t.map (·.1)).length:=by simpa using hm
 have em: (t.map (·.1))[m] =z:=by rw [List.getElem_map];exact ey.trans ex
 have him:i≤m:=by
  rcases Nat.lt_or_ge m i with hlt|hge
  ·have:=hf.less m hm' hlt
   rw [cmpI_lt,h.upT,em] at this;have:=hz.up;omega
  ·exact hge
 refine⟨by omega,?_⟩;have hge:=hf.ge i (by omega) (Nat.le_refl _);rw [cmpI_nonneg,h.upT] at hge;rcases Nat.lt_or_ge i m with hlt|hge2
 ·have h3: (t.map (·.1))[i] <z:=by
   rw [←em];simp only [List.getElem_map];exact List.pairwise_iff_getElem.1 h.rise i m (by simp at hm';omega) hm hlt
  have:=hz.less _ h3;omega
 ·have:i=m:=by omega
  subst this;rw [em];exact hz
theorem enters_many: ∀args W,(callFunc 100 args).run Tryz.prog W=.ok (.enter 100 args) W:=enters_of Tryz.func100 (by kernel_rfl) rfl
def ManyPost (l:Int) (r:List Nd) (ks:List Int) (w:World) (e:Ending) (w':World) :Prop:=
 ∃v,e=.returned (.tuple #[v,.int .i64 (badOf r ks)])∧Own w' w.heap.size 3 encZ v (manyL l r ks)∧Below w.heap.size w w'
theorem quant_Many (w:World) (g K l:Nat) (k:Int) (r:List Nd) (F:Nat→Prop) (A:Option Addr) (cap:Nat) (ks:List Int) (h:DigAt w g K l k r F) (hn:r.length≤67108864) (hS:Sl w w.heap.size encZ A ks) (hks:ks.length≤1000) :
 Calls Tryz.prog 37 #[.pointer (some ⟨g,0,none⟩),.slice A ks.length cap] w (ManyPost l r ks w):=by
 have HD:=LH h;have hf:=h.fits;have hll:=h.l_le;have HS:=LH hS;have H1:Hid (∀x∈lastL l r,1≤x.2):=LH fun x hx=>by obtain⟨y,hy,rfl⟩:=List.mem_map.1 hx;exact(hf.roll.2 y hy).2
 have H0:Hid (∀x∈lastL l r,0≤x.1):=LH fun x hx=>by
  obtain⟨y,hy,rfl⟩:=List.mem_map.1 hx;have:=ends_48 hll.2 (hf.nodes hll y hy);simp only;omega
 have HW:=LH (fun w x h=>quant_wrong w g K l k r F x h);clear h hS
 go_enter Tryz.func37,Tryz.ntmps37
 go_wp2_with fail;refine(rank_Of _ g K l k r F HD.out hn).mono ?_;rintro e w1 ⟨gt,lt,ft,rfl,hT,htab,_,hlen,_,hb1⟩;have B1:Below w.heap.size w w1:=Below.then_ bE hb1;have s1:=B1.size;have HT:=LH hT;have HTab:=LH htab;have HRi:=LH htab.rise;have hlm:lt.length≤67108864:=by omega
 clear hT htab hlen;go_wp2_with fail;refine(table_Steps (HT.out.below (w':=w1.alloc (.cells #[.pointer (some ⟨gt,0,none⟩)] 37)) bE) hlm).mono ?_;rintro e w2 ⟨vs,rfl,ho,hb2⟩;have hbA:Below w.heap.size w w2:=(hb1.alloc hb1.size _).trans (hb2.mono (by simp;have:=hb1.size;omega));have s2:w.heap.size≤w2.heap.size:=hbA.size;have hz:w1.heap.size<w2.heap.size:=by have:=hb2.size;simp at this;omega
 have c2:w2.cell? ⟨w1.heap.size,0,none⟩ =some (.pointer (some ⟨gt,0,none⟩)):=(hb2.cell (p:=⟨w1.heap.size,0,none⟩) (by simp)).trans (by simp);have HT2:=LH ((HT.out.below (w':=w1.alloc (.cells #[.pointer (some ⟨gt,0,none⟩)] 37)) (Below.refl w1.heap.size w1 |>.alloc (Nat.le_refl _) _)).below (hb2.mono (by simp)));have HD2:=LH (HD.out.below hbA);have HS2:=LH (HS.out.keep (B':=w2.heap.size) s2 fun p hp=>hbA.cell hp);have BA:=LH hbA;obtain⟨As,cs,rfl,_⟩:=ho.form;have HZ:=LH ho.sl;have hzl: (lt.map (·.1)).length≤67108864:=by simpa using hlm
 have MM:=LH (fun k=>many_mono HTab.out H1.out k);have FR:=LH (fun k i h1 h2 (h:Found _ _ i)=>found_reach (k:=k) HTab.out H1.out h1 h2 h);obtain⟨zs,hzs⟩ : ∃zs,zs=lt.map (·.1):=⟨_,rfl⟩;rw [←hzs] at HZ hzl MM FR⊢;clear ho hb1 hb2 hbA HT HD HS B1 hzs;go_wp2_with fail
 go_loopw [8,20] (fun o i wr=>∃q:Nat,q≤ks.length∧i=.int .i64 q∧Own wr w2.heap.size 3 encZ o ((ks.take q).map (bestOf (lastL l r)))∧(∀x∈ks.take q,qWrong r x=0)∧Below w2.heap.size w2 wr) (fun _ i _=>ks.length - (intOf i).toNat)
 case atStart=>exact⟨0,Nat.zero_le _,rfl,Own.nil _ _ _ _,by simp,bE⟩
 case round=>
  obtain⟨q,hq,rfl,hown,hok,hB⟩:=hrel;have HO:=LH hown;have HOK:=LH hok;have HB:=LH hB;clear hown hok hB;by_cases hlt:q<ks.length
  ·obtain⟨c,off,rfl,hc,hcl⟩:=HS2.out.at_ hlt
   have d0:=hcl 0 (.int .i64 ks[q]) rfl;simp only [Nat.mul_one,Nat.add_zero] at d0;have d0':=(HB.out.cell (p:=⟨c,off+q,none⟩) hc).trans d0;have BQ:=LH (fun h=>badOf_at (r:=r) hlt HOK.out h);have et:ks.take (q+1) =ks.take q ++ [ks[q]]:=List.take_succ_eq_append_getElem hlt;have ET:=LH et;obtain⟨x,hx⟩ : ∃x,x=ks[q]:=⟨_,rfl⟩;rw [←hx] at d0' BQ ET;have HWx:=LH (HW.out · x ·);have hqx:qWrong r x=0→1≤x∧x≤sumR r:=fun h=>qWrong_ok h;clear d0 hcl hx et;go_wp2_with fail;refine(HWx.out wr (HD2.out.below HB.out)).mono ?_;rintro e w3 ⟨rfl,hb3⟩;have hbB:=HB.out.trans (hb3.mono HB.out.size);have O3:=LH (HO.out.below hb3);have HB3:=LH hbB;clear hb3 hbB;by_cases h0:qWrong r x=0
   ·rw [h0]
    have hk:=hqx h0;go_wp2_with fail;refine(bsearch w3 As cs zs x 100 #[.pointer (some ⟨w1.heap.size,0,none⟩)] enters_many (fun z=>cmpI (upT lt z) x) (fun z W hW=> ?_) (HZ.out.keep (B':=w3.heap.size) HB3.out.size fun p hp=>HB3.out.cell hp) hzl (MM.out x)).mono ?_
    ·have hWW:=HB3.out.trans (hW.mono HB3.out.size)
     exact many_cmp W _ _ gt w1.heap.size (sumR r) lt ft z x (HT2.out.below (hWW.mono (by omega))) ((hWW.cell (p:=⟨w1.heap.size,0,none⟩) hz).trans c2) hlm HRi.out
    ·rintro e w4 ⟨i,bb,rfl,hfo,hb4⟩
     obtain⟨hi,hrc⟩:=FR.out x i hk.1 (by rw [sum_last];exact hk.2) hfo;have hbest:=best_reach H0.out H1.out hk.1 hrc;obtain⟨c',off',rfl,hc',hcl'⟩:=HZ.out.at_ hi;have d1:=hcl' 0 (.int .i64 zs[i]) rfl;simp only [Nat.mul_one,Nat.add_zero] at d1;have hb24:=HB3.out.trans (hb4.mono HB3.out.size);have d1':=(hb24.cell (p:=⟨c',off'+i,none⟩) hc').trans d1;have O4:=LH (O3.out.below hb4);have HB4:=LH hb24;have s4:=hb24.size;obtain⟨y,hy⟩ : ∃y,y=zs[i]:=⟨_,rfl⟩;rw [←hy] at d1' hbest;have HBE:=LH hbest;have HQ0:=LH h0;clear hb4 hb24 hcl' d1 hfo hrc hbest h0 d0' hc hc' hy hqx hk;go_wp2_with ((at_builtin;refine wpList_push tyZ rfl _ _ rfl encZ w4 w2.heap.size u8 _ rfl O4.out y (by go_simp) rfl ?c1 ?c2 ?c3 ?c4))
     case c1=>simp;omega
     case c2=>simp only [maxLen];simp;omega
     case c3=>exact s4
     case c4=>
      intro v' w5 ho5 _ _ _ hb5 _;have O5:=LH ho5;have B5:=LH (HB4.out.trans hb5);clear ho5 hb5;go_wp2_with fail;go_roundw
      case rel=>exact⟨q+1,by omega,by go_num,by rw [ET.out,List.map_append];simpa [HBE.out] using O5.out,by
       rw [ET.out];intro z hz;rcases List.mem_append.1 hz with h|h
       ·exact HOK.out z h
       ·simp at h;subst h;exact HQ0.out,B5.out⟩
      case measure=>simp [intOf];omega
   ·have hbd:=BQ.out h0
    have h0': (qWrong r x == 0) =false:=by simpa using h0
    have hmn:manyL l r ks= []:=by unfold manyL;rw [hbd,if_neg h0]
    have HF:=LH (show Below w.heap.size w w3 from BA.out.trans (HB3.out.mono s2));generalize qWrong r x=e0 at hbd h0' h0⊢;clear hqx;go_wp2_with fail
    go_ret2
    exact⟨_,by rw [hbd];rfl,by rw [hmn];exact Own.nil _ _ _ _,HF.out⟩
  ·obtain rfl:q=ks.length:=by omega
   rw [List.take_length] at HO HOK;have hb0:=badOf_ok HOK.out;have HF:=LH (show Below w.heap.size w wr from BA.out.trans (HB.out.mono s2));have HX:=LH (show manyL l r ks=ks.map (bestOf (lastL l r)) by unfold manyL;rw [hb0,if_pos rfl]);have HB0:=LH hb0;clear hb0;go_wp2_with fail
   go_ret2
   exact⟨_,by rw [HB0.out];rfl,by rw [HX.out];exact HO.out.base_le s2,HF.out⟩
theorem upV_eq {a b c:Nat} (hc:1≤c) :upV a b c= (a*b+ (c - 1)) / c:=by
 unfold upV;have h1:=Nat.div_add_mod (a*b) c;have h2:=Nat.mod_lt (a*b) (show 0<c by omega);generalize a*b / c=q at h1⊢;generalize a*b % c=t at h1 h2⊢;rw [←h1,Nat.add_assoc,Nat.mul_add_div (by omega)]
 split
 ·rename_i h;subst h
  rw [Nat.div_eq_of_lt (by omega)]
 ·rw [show t+ (c - 1) = (t - 1) +c by omega,Nat.add_div_right _ (by omega),Nat.div_eq_of_lt (by omega)]
theorem upV_mono {a b b' c:Nat} (hc:1≤c) (h:b≤b') :upV a b c≤upV a b' c:=by
 rw [upV_eq hc,upV_eq hc];exact Nat.div_le_div_right (by have:=Nat.mul_le_mul_left a h;omega)
theorem upV_pos {a b c:Nat} (hc:1≤c) (ha:1≤a) (hb:1≤b) :1≤upV a b c:=by
 rw [upV_eq hc,Nat.le_div_iff_mul_le (by omega)];have:1*1≤a*b:=Nat.mul_le_mul ha hb;omega
def partR (r:List Nd) (parts:Nat) (j:Nat) :Int:=(upV (sumR r).toNat (j+1) parts:Nat)
def partsR (r:List Nd) (parts n:Nat) :List Int:=(List.range n).map (partR r parts)
theorem partR_ok {r:List Nd} (h0:1≤sumR r) {parts j:Nat} (hj:j+1≤parts) :qWrong r (partR r parts j) =0:=by
 have h1:=upV_pos (a:=(sumR r).toNat) (b:=j+1) (c:=parts) (by omega) (by omega) (by omega);have h2:=up_le_b (a:=(sumR r).toNat) (b:=j+1) (c:=parts) hj (by omega);unfold qWrong partR;rw [if_neg (by omega),if_neg (by omega)]
def partV (l:Int) (r:List Nd) (parts j:Nat) :Int:=bestOf (lastL l r) (partR r parts j)
theorem partV_mono {l:Nat} (hl:1≤l∧l≤48) {r:List Nd} (hf:Fits l r) (h0:1≤sumR r) {parts i j:Nat} (hij:i≤j) (hj:j+1≤parts) :partV l r parts i≤partV l r parts j:=by
 obtain⟨y,e1,r1⟩:=best_ends hl hf (partR_ok h0 (show i+1≤parts by omega)) false;obtain⟨z,e2,r2⟩:=best_ends hl hf (partR_ok h0 hj) false;rw [endL_false] at e1 r1 e2 r2;unfold partV;rw [e1,e2];refine r1.mono r2 ?_;unfold partR;have:=upV_mono (a:=(sumR r).toNat) (c:=parts) (show 1≤parts by omega) (show i+1≤j+1 by omega)
 exact_mod_cast this
theorem partV_range {l:Nat} (hl:1≤l∧l≤48) {r:List Nd} (hf:Fits l r) (h0:1≤sumR r) {parts j:Nat} (hj:j+1≤parts) :0≤partV l r parts j∧partV l r parts j≤281474976710655:=by
 have:=best_range hl hf (partR_ok h0 hj);unfold partV;omega
def ddN (f:Nat→Int) :Nat→List Int
 |0=> []
 |q+1=>if q=0∨f (q - 1) <f q then ddN f q ++ [f q] else ddN f q
theorem ddN_len (f:Nat→Int) (q:Nat) : (ddN f q).length≤q:=by
 induction q with
 |zero=>simp [ddN]
 |succ q ih=>
  simp only [ddN]
  split
  ·rw [List.length_append,List.length_singleton];omega
  ·omega
def evenErr (r:List Nd) (parts:Int) :Int:=if sumR r=0 then 7 else if parts<1∨1000<parts then 2 else 0
def evenL (l:Int) (r:List Nd) (parts:Int) :List Int:=if evenErr r parts=0 then ddN (partV l r parts.toNat) (parts.toNat - 1) else []
theorem median_err {r:List Nd} (hs:0≤sumR r) (l:Int) : (ofT l r 1 2).2=if sumR r=0 then 7 else 0:=by
 unfold ofT rankT;by_cases h0:sumR r=0
 ·rw [if_pos h0,if_pos h0];rfl
 ·rw [if_neg h0,if_neg h0]
  rw [if_neg (show ¬((2:Int) <1∨(1:Int) <0∨(2:Int) <1) by decide)];simp only [if_true];simp only [atT];have h1:=upV_pos (a:=(sumR r).toNat) (b:=(1:Int).toNat) (c:=(2:Int).toNat) (by decide) (by omega) (by decide);have h2:=up_le_b (a:=(sumR r).toNat) (b:=(1:Int).toNat) (c:=(2:Int).toNat) (by decide) (by decide)
  have:qWrong r (max (upV (sumR r).toNat (1:Int).toNat (2:Int).toNat:Nat) 1) =0:=by
   unfold qWrong;rw [if_neg h0,if_neg (by omega)]
  rw [if_pos this]

def heavAt (l:List Int) :Nat→Nat
 |0=>0
 |q+1=>if l.getD (heavAt l q) 0<l.getD q 0 then q else heavAt l q
def heavV (l:List Int) :Value:=.tuple #[.int .i64 (heavAt l l.length),.bool (decide (0<l.length))]
def barV (l:List Int) (width:Nat) (n:Int) :Int:=(n.toNat*width / (max (l.getD (heavAt l l.length) 0) 1).toNat:Nat)
def barsOk (l:List Int) (width:Int) :Bool:=decide (0≤width) && l.all fun n=>decide (0≤n)
def barsL (l:List Int) (width:Int) :List Int:=if barsOk l width=true then l.map (barV l width.toNat) else []
def BarsPost (l:List Int) (width:Int) (w:World) (e:Ending) (w':World) :Prop:=∃v,e=.returned (.tuple #[v,.bool (barsOk l width)])∧Own w' w.heap.size 3 encZ v (barsL l width)∧Below w.heap.size w w'
def EvenPost (l:Int) (r:List Nd) (parts:Int) (w:World) (e:Ending) (w':World) :Prop:=∃v,e=.returned (.tuple #[v,.int .i64 (evenErr r parts)])∧Own w' w.heap.size 3 encZ v (evenL l r parts)∧Below w.heap.size w w'
theorem even_no {l:Int} {r:List Nd} {parts:Int} (h:evenErr r parts≠0) (w:World) (base:Nat) :Own w base 3 encZ (.slice none 0 0) (evenL l r parts):=by
 unfold evenL;rw [if_neg h];exact Own.nil _ _ _ _
theorem bins_Even (w:World) (g K l:Nat) (k:Int) (r:List Nd) (F:Nat→Prop) (parts:Int) (h:DigAt w g K l k r F) (hn:r.length≤67108864) :
 Calls Tryz.prog 13 #[.pointer (some ⟨g,0,none⟩),.int .i64 parts] w (EvenPost l r parts w):=by
 have hl:=h.l_le;have hf:=h.fits;have hs0:=sumR_nonneg hf.roll;have HD:=LH h;have HM:=LH (quant_Median w g K l k r F h hn);have hme:=median_err hs0 (l:Int);unfold pairV at HM;rw [hme] at HM;clear h hme;generalize (ofT (l:Int) r 1 2).1=md at HM;unfold EvenPost;by_cases h0:sumR r=0
 ·rw [if_pos h0] at HM
  have he:evenErr r parts=7:=by unfold evenErr;rw [if_pos h0]
  have HE:=LH he;rw [he];clear h0 he
  go_enter Tryz.func13,Tryz.ntmps13
  go_wp2_with fail;refine(HM.out).mono ?_;rintro e w1 ⟨rfl,hb1⟩;have B1:Below w.heap.size w w1:=Below.then_ bE hb1;have s1:=B1.size;go_wp2_with fail
  go_ret2
  exact⟨_,rfl,even_no (by rw [HE.out];decide) _ _,B1⟩
 ·rw [if_neg h0] at HM
  by_cases hc:parts<1∨1000<parts
  ·have he:evenErr r parts=2:=by unfold evenErr;rw [if_neg h0,if_pos hc]
   have HE:=LH he;rw [he];rcases (show parts<1∨(decide (parts<1) =false∧1000<parts) by by_cases hn:parts<1;exact .inl hn;exact .inr ⟨by simpa using hn,by omega⟩) with c1| ⟨c1,c2⟩
   all_goals (
    clear h0 he hc
    go_enter Tryz.func13,Tryz.ntmps13
    go_wp2_with fail;refine(HM.out).mono ?_;rintro e w1 ⟨rfl,hb1⟩;have B1:Below w.heap.size w w1:=Below.then_ bE hb1;have s1:=B1.size;go_wp2_with fail
    go_ret2
    exact⟨_,rfl,even_no (by rw [HE.out];decide) _ _,B1⟩)
  ·obtain⟨n,rfl⟩:=Int.eq_ofNat_of_zero_le (show 0≤parts by omega)
   have he:evenErr r n=0:=by unfold evenErr;rw [if_neg h0,if_neg hc]
   have HL:Hid (evenL l r n=ddN (partV l r n) (n - 1)):=LH (by unfold evenL;rw [if_pos he];rfl);have n1:1≤n:=by omega
   have n2:n≤1000:=by omega
   have c1:decide ((n:Int) <1) =false:=by simp;omega
   have c2:decide ((1000:Int) < (n:Int)) =false:=by simp;omega
   have h1:1≤sumR r:=by omega
   have hs1:=hf.sum;have HPM:=LH (fun i (hi:i+1<n - 1)=>partV_mono (parts:=n) hl hf h1 (show i≤i+1 by omega) (by omega));have HPR:=LH (fun j (hj:j+1≤n)=>partV_range (parts:=n) hl hf h1 hj);have HOK:=LH (fun j (hj:j+1≤n)=>partR_ok (parts:=n) h1 hj);have HN:=LH (digest_N · g K l k r F ·);obtain⟨N,hN⟩ : ∃N:Nat,(sumR r).toNat=N:=⟨_,rfl⟩;have hN':sumR r=N:=by omega
   have HP:Hid (∀j,partR r n j= (upV N (j+1) n:Nat)):=LH (fun j=>by unfold partR;rw [hN]);rw [hN'] at HN h1 hs1;have HU:=LH (fun W b (hb:b≤n)=>reckon_PartUp_b W N b n (by omega) n1 (by omega) hb);rw [he];clear h0 he hc hN hN' hs0
   go_enter Tryz.func13,Tryz.ntmps13
   go_wp2_with fail;refine(HM.out).mono ?_;rintro e w1 ⟨rfl,hb1⟩;have B1:Below w.heap.size w w1:=Below.then_ bE hb1;have s1:=B1.size;have D1:=LH (HD.out.below hb1);go_wp2_with fail
   go_loopw [8,9] (fun o i wr=>∃q:Nat,q+1≤n∧i=.int .i64 (q+1:Nat)∧Own wr w.heap.size 3 encZ o (partsR r n q)∧Below w.heap.size w wr) (fun _ i _=>n - (intOf i).toNat)
   case atStart=>exact⟨0,n1,rfl,Own.nil _ _ _ _,B1⟩
   case round=>
    obtain⟨q,hq,rfl,hown,hB⟩:=hrel;have HO:=LH hown;have HB:=LH hB;have hsz:=hB.size;have hBW:Below w.heap.size w wr:=hB;have D2:=LH (HD.out.below hB);have hlen: (partsR r n q).length=q:=by simp [partsR]
    have HLn:=LH hlen;clear hown hlen;by_cases hlt:q+1<n
    ·have HPq:=LH (HP.out q)
     have HUq:=LH (HU.out · (q+1) (by omega));have hup:=up_le_b (a:=N) (b:=q+1) (c:=n) (by omega) n1;generalize upV N (q+1) n=u at HPq HUq hup;have i1: ((q:Int) +1) < (n:Int):=by omega
     go_wp2_with fail;refine(HN.out _ D2.out).mono ?_;rintro e w2 ⟨rfl,hb2⟩;have B2:Below w.heap.size w w2:=Below.then_ bE hb2;have s2:=B2.size;go_wp2_with fail;refine(HUq.out _).mono ?_;rintro e w3 ⟨rfl,hb3⟩;have B3:Below w.heap.size w w3:=Below.then_ bE hb3;have s3:=B3.size;have O3:=LH ((HO.out.below hb2).below hb3);have BB3:=LH (HB.out.trans ((hb2.trans (hb3.mono hb2.size)).mono hsz));go_wp2_with ((at_builtin;refine wpList_push tyZ rfl _ _ rfl encZ w3 w.heap.size u8 _ rfl O3.out u (by go_simp) rfl ?c1 ?c2 ?c3 ?c4))
     case c1=>have:=HLn.out;omega
     case c2=>have:=HLn.out;simp only [maxLen];omega
     case c3=>exact s3
     case c4=>
      intro v' w4 hown4 hgrow _ hlies hb4 _;have HO4:=LH (show Own w4 w.heap.size 3 encZ v' (partsR r n (q+1)) by unfold partsR;rw [map_range_succ,HPq.out];exact hown4);have BB4:=Below.trans BB3.out hb4;clear hown4;go_wp2_with fail;go_roundw
      case rel=>exact⟨q+1,by omega,by go_num,HO4.out,BB4⟩
      case measure=>simp [intOf];omega
    ·have hnq:n=q+1:=by omega
     have HNQ:=LH hnq;rw [←hnq];have i1:decide ((n:Int) < (n:Int)) =false:=by simp
     obtain⟨A5,c5,rfl,_⟩:=HO.out.form
     have hok: ∀k∈partsR r n q,qWrong r k=0:=fun k hk=>by
      obtain⟨j,hj,rfl⟩:=List.mem_map.1 hk;exact HOK.out j (by have:=List.mem_range.1 hj;omega)
     have hb0:=badOf_ok hok
     have hml:manyL l r (partsR r n q) = (List.range q).map (partV l r n):=by
      unfold manyL partsR;rw [if_pos (by unfold partsR at hb0;exact hb0),List.map_map];rfl
     have HMy:=LH (quant_Many wr g K l k r F A5 c5 (partsR r n q) D2.out hn HO.out.sl (by have:=HLn.out;omega));unfold ManyPost at HMy;rw [hb0,hml] at HMy;obtain⟨f,hff⟩ : ∃f,f=partV l r n:=⟨_,rfl⟩;rw [←hff] at HMy HL HPM HPR;have HLq:=LH (show evenL (l:Int) r (n:Int) =ddN f q by rw [HL.out,hnq];rfl);clear hok hb0 hml hff HP HU HOK hnq hlt hq;go_wp2_with fail;refine HMy.out.mono ?_;rintro e w6 ⟨v6,rfl,o6,hb6⟩;have BB6:=HB.out.trans (hb6.mono hsz);have HB6:=LH BB6;have s6:=BB6.size;have lm: ((List.range q).map f).length=q:=by simp
     obtain⟨A6,c6,rfl,_,_,S6,_⟩:=o6.form;have HS6:=LH S6;have HLm:=LH lm;have hgetr: ∀j,j< ((List.range q).map f).length→((List.range q).map f)[j]? =some (f j):=fun j hj=>by rw [List.getElem?_eq_getElem hj];simp
     have HG:=LH hgetr;obtain⟨M,hM⟩ : ∃M,M= (List.range q).map f:=⟨_,rfl⟩;simp only [←hM] at HS6 HLm HG⊢;clear o6 S6 lm hgetr hM hb6 BB6 HMy;go_wp2_with fail
     go_loopw [14,56] (fun o i wx=>∃j:Nat,j≤M.length∧i=.int .i64 j∧Own wx w6.heap.size 3 encZ o (ddN f j)∧Below w6.heap.size w6 wx) (fun _ i _=>M.length - (intOf i).toNat)
     case atStart=>exact⟨0,Nat.zero_le _,rfl,Own.nil _ _ _ _,Below.refl _ _⟩
     case round=>
      obtain⟨wx,hwx⟩ : ∃W,W=wr:=⟨_,rfl⟩;subst hwx;obtain⟨j,hj,rfl,hown,hB⟩:=hrel;have KO:=LH hown;have hsz:=hB.size;have hql:=HLm.out;clear hown;by_cases hlt:j<M.length
      ·rcases HS6.out with h| ⟨b,off,rfl,hb,hc⟩
       ·subst h;simp at hlt
       have d0:=(hB.cell (p:=⟨b,off+j,none⟩) (by omega)).trans (by have:=hc j _ (HG.out j hlt) 0 (.int .i64 (f j)) rfl;simpa using this);have lb:b<wx.heap.size:=by omega
       have hr0:=HPR.out j (by have:=HNQ.out;omega);rcases Nat.eq_zero_or_pos j with rfl|hpos
       ·have ES:=LH (show ddN f (0+1) =ddN f 0 ++ [f 0] by simp [ddN])
        simp only [Nat.add_zero] at d0;generalize f 0=x at d0 hr0 ES;clear hc hql;go_wp2_with ((at_builtin;refine wpList_push tyZ rfl _ _ rfl encZ wx w6.heap.size u14 _ rfl KO.out x (by go_simp) rfl ?c1 ?c2 ?c3 ?c4))
        case c1=>have:=HLm.out;have:=ddN_len f 0;omega
        case c2=>have:=HLm.out;have:=ddN_len f 0;simp only [maxLen];omega
        case c3=>exact hsz
        case c4=>
         intro v7 w7 hown7 hgrow _ hlies hb7 _;have HO7:=LH (show Own w7 w6.heap.size 3 encZ v7 (ddN f (0+1)) by rw [ES.out];exact hown7);have BB7:=Below.trans hB hb7;clear hown7;go_wp2_with fail;go_roundw
         case rel=>exact⟨0+1,by omega,by go_num,HO7.out,BB7⟩
         case measure=>simp [intOf];omega
       ·obtain⟨p,rfl⟩ : ∃p,j=p+1:=⟨j - 1,by omega⟩
        have d1:=(hB.cell (p:=⟨b,off+p,none⟩) (by omega)).trans (by have:=hc p _ (HG.out p (by omega)) 0 (.int .i64 (f p)) rfl;simpa using this);have i0: ((p:Int) +1 == 0) =false:=by simp;omega
        have hpl:p+1≤1000:=by have:=HNQ.out;have:=HLm.out;omega
        by_cases hc2:f p<f (p+1)
        ·have ES:=LH (show ddN f (p+1+1) =ddN f (p+1) ++ [f (p+1)] by rw [ddN];rw [if_pos (.inr (by simpa using hc2))])
         generalize f (p+1) =x at d0 hr0 ES hc2;generalize f p=y at d1 hc2;clear hc hql;go_wp2_with ((at_builtin;refine wpList_push tyZ rfl _ _ rfl encZ wx w6.heap.size u14 _ rfl KO.out x (by go_simp) rfl ?c1 ?c2 ?c3 ?c4))
         case c1=>have:=HLm.out;have:=ddN_len f (p+1);omega
         case c2=>have:=HLm.out;have:=ddN_len f (p+1);simp only [maxLen];omega
         case c3=>exact hsz
         case c4=>
          intro v7 w7 hown7 hgrow _ hlies hb7 _;have HO7:=LH (show Own w7 w6.heap.size 3 encZ v7 (ddN f ((p+1) +1)) by rw [ES.out];exact hown7);have BB7:=Below.trans hB hb7;clear hown7;go_wp2_with fail;go_roundw
          case rel=>exact⟨(p+1) +1,by omega,by go_num,HO7.out,BB7⟩
          case measure=>simp [intOf];omega
        ·have ES:=LH (show ddN f (p+1+1) =ddN f (p+1) by rw [ddN];rw [if_neg (by simp;simpa using hc2)])
         have hn2:decide (f p<f (p+1)) =false:=by simpa using hc2
         generalize f (p+1) =x at d0 hr0 hn2;generalize f p=y at d1 hn2;clear hc hc2 hql;go_wp2_with fail;go_roundw
         case rel=>exact⟨p+1+1,by omega,by go_num,by rw [ES.out];exact KO.out,hB⟩
         case measure=>simp [intOf];omega
      ·obtain rfl:j=M.length:=by omega
       have EQ:=LH (show evenL (l:Int) r (n:Int) =ddN f M.length by rw [HLq.out,HLm.out]);go_wp2_with fail
       go_ret2
       exact⟨_,rfl,by rw [EQ.out];exact KO.out.base_le s6,HB6.out.trans (hB.mono s6)⟩
structure Tr where
 leaf:Int
 node:Int
 c:Int
def wTr (f:Tr→Bool) :List Tr→Int
 | []=>0
 |t :: T=>(if f t=true then t.c else 0) +wTr f T
def wIds (p:Int→Bool) :List Nd→Int
 | []=>0
 |x :: r=>(if p x.1=true then x.2 else 0) +wIds p r
theorem weighR_ids (l:Int) (f:Int→Int→Bool) (r:List Nd) :weighR l f r=wIds (fun id=>f (endsOf l id).1 (endsOf l id).2.1) r:=by
 induction r with
 |nil=>rfl
 |cons x r ih=>simp only [weighR,wIds,ih]
def Flow (l:Nat) (r q:List Nd) :Prop:=∃T:List Tr,(∀t∈T,1≤t.c)∧
 (∀t∈T,isNode l t.node=true∧isNode l t.leaf=true∧(endsOf l t.node).1≤(endsOf l t.leaf).1∧(endsOf l t.leaf).2.1≤(endsOf l t.node).2.1)∧
 (∀id,getR r id=wTr (fun t=>t.node == id) T)∧(∀id,getR q id=wTr (fun t=>t.leaf == id) T)
section
variable {l:Nat} {r q:List Nd}
end
theorem wIds_path {r:List Nd} (hr:Roll r) (p:Int→Bool) (m:Int) : ∀(path:List Int),(∀x∈r,p x.1=true→x.1∈path)→(∀a∈path,getR r a≤m)→0≤m→wIds p r≤path.length*m:=by
 intro path h1 h2 hm
 have key: ∀(path:List Int) (s:List Nd),Roll s→(∀x∈s,p x.1=true→x.1∈path)→wIds p s≤(path.map (getR s)).sum:=by
  intro path
  induction path with
  |nil=>
   intro s hs h
   have:wIds p s=0:=by
    clear hs
    induction s with
    |nil=>rfl
    |cons x s ih=>
     have h0:p x.1≠true:=fun e=>by have:=h x (by simp) e;simp at this
     simp only [wIds,if_neg h0,ih fun y hy=>h y (by simp [hy])];rfl
   rw [this];simp
  |cons a path ih=>
   intro s hs h
   have h3:=ih (delR s a) (hs.del a) fun x hx hp=>by
    have h4:=h x (delR_sub hx) hp;rcases List.mem_cons.1 h4 with h5|h5
    ·exfalso
     have h6:=getR_mem (hs.del a) hx;rw [h5,getR_del hs,if_pos rfl] at h6;have:=((hs.del a).2 x hx).2;omega
    ·exact h5
   have h7:wIds p s≤getR s a+wIds p (delR s a):=by
    clear ih h h3
    induction s with
    |nil=>simp [wIds,getR,delR]
    |cons x s ih=>
     have hx:=hs.2 x (by simp);simp only [getR,delR];by_cases e:x.1=a
     ·rw [if_pos e,if_pos e]
      simp only [wIds];split <;> omega
     ·rw [if_neg e,if_neg e]
      simp only [wIds];have:=ih hs.tail;omega
   have h8: (path.map (getR (delR s a))).sum≤(path.map (getR s)).sum:=by
    clear ih h h3 h7
    induction path with
    |nil=>simp
    |cons b path ih=>
     simp only [List.map_cons,List.sum_cons];have:=getR_del hs a b;have h9:=getR_nonneg hs b
     split at this <;> omega
   simp only [List.map_cons,List.sum_cons];omega
 refine Int.le_trans (key path r hr h1) ?_;clear key h1
 induction path with
 |nil=>simp
 |cons a path ih=>
  simp only [List.map_cons,List.sum_cons,List.length_cons];have h3:=h2 a (by simp);have h4:=ih fun b hb=>h2 b (by simp [hb])
  push_cast
  rw [Int.add_mul,Int.one_mul];omega
def pathOf (l:Nat) (y:Int) :List Int:=(List.range l).map fun d=>(2^l+y) / 2^ (l - d)
theorem pathOf_len (l:Nat) (y:Int) : (pathOf l y).length=l:=by simp [pathOf]
theorem on_path {l:Nat} {id y:Int} (h:isNode l id=true) (h1: (endsOf l id).1≤y) (h2:y< (endsOf l id).2.1) :id∈pathOf l y:=by
 obtain⟨n,x,hn,rfl,hn1,hn2,hx1,hx2⟩:=isNode_nat h;obtain rfl:n=l:=by omega
 obtain⟨d,b,t,hd,hb,hdb,hxt,htd,hprod⟩:=node_facts hn2 hx1 hx2
 have e1:endsOf n x= ((t:Int) *2^b,(t:Int) *2^b+2^b - 1,true):=by
  simp only [endsOf,h,if_true,Int.toNat_natCast,hd,hb];have: (x:Int) - 2^d=t:=by rw [hxt];push_cast;omega
  rw [this]
 rw [e1] at h1 h2;simp only at h1 h2;have hb0:b≠0:=by rintro rfl;simp at h1 h2;omega
 refine List.mem_map.2 ⟨d,List.mem_range.2 (by omega),?_⟩;have hbd:n - d=b:=by omega
 rw [hbd];have hpb:=pow_pos' b;have e2: (2:Int) ^n=2^d*2^b:=by rw [←Int.pow_add];congr 1;omega
 have e3: (x:Int) =2^d+t:=by rw [hxt];push_cast;omega
 rw [e2,e3];rw [Int.ediv_eq_iff_of_pos hpb];rw [Int.add_mul];omega
theorem light_inner {l:Nat} {r:List Nd} (hr:Roll r) {k:Int} (hl:lightOf l r k=true) (h0:0≤sumR r / k) {id:Int} (h1:1≤l∧l≤48) (h2:1≤id) (h3:id<2^l) :getR r id≤sumR r / k:=by
 by_cases hg:getR r id=0
 ·omega
 ·have hm:=getR_pos hr hg
  have hn:isNode l id=true:=by
   have:=pow_pos' l;simp only [isNode,decide_eq_true_eq,Int.toNat_natCast];omega
  have hk: (kidsOf l id).2.2=true:=by
   unfold kidsOf;rw [if_pos ⟨hn,by simpa using h3⟩]
  apply Classical.byContradiction
  intro hc;have:r.any (heavy l (sumR r / k)) =true:=List.any_eq_true.2 ⟨_,hm,by simp only [heavy,hk,Bool.true_and,decide_eq_true_eq];omega⟩;simp only [lightOf,this] at hl
  cases hl
theorem path_node {l:Nat} {y a:Int} (h0:0≤y) (h1:y<2^l) (ha:a∈pathOf l y) :1≤a∧a<2^l:=by
 obtain⟨d,hd,rfl⟩:=List.mem_map.1 ha;have hd:=List.mem_range.1 hd;have hpb:=pow_pos' (l - d);have hpd:=pow_pos' d;have e2: (2:Int) ^l=2^d*2^ (l - d):=by rw [←Int.pow_add];congr 1;omega
 constructor
 ·rw [Int.le_ediv_iff_mul_le hpb,Int.one_mul]
  have:=pow_le' (show l - d≤l by omega);omega
 ·rw [Int.ediv_lt_iff_lt_mul hpb]
  have h2: (2:Int)≤2^ (l - d):=by have:=pow_le' (show 1≤l - d by omega);simpa using this
  have h3:=Int.mul_le_mul_of_nonneg_left h2 (Int.le_of_lt (pow_pos' l));omega
def around (y:Int) (lo hi:Int) :Bool:=decide (lo≤y) && decide (y<hi)
theorem around_le {l:Nat} {r:List Nd} (hr:Roll r) (hn: ∀x∈r,isNode l x.1=true) {k:Int} (hl:lightOf l r k=true) (h0:0≤sumR r / k) (h1:1≤l∧l≤48) (y:Int) :weighR l (around y) r≤l* (sumR r / k):=by
 have hm:0≤(l:Int) * (sumR r / k):=Int.mul_nonneg (by omega) h0;by_cases hy:0≤y∧y<2^l
 ·rw [weighR_ids]
  have:=wIds_path hr (fun id=>around y (endsOf l id).1 (endsOf l id).2.1) (sumR r / k) (pathOf l y) (fun x hx hp=>by
   simp only [around,Bool.and_eq_true,decide_eq_true_eq] at hp;exact on_path (hn x hx) hp.1 hp.2) (fun a ha=>by
   have:=path_node hy.1 hy.2 ha;exact light_inner hr hl h0 h1 this.1 this.2) h0
  rwa [pathOf_len] at this
 ·rw [weighR_none]
  ·exact hm
  ·intro x hx
   have:=ends_bounds (hn x hx);simp only [around,Bool.and_eq_false_iff,decide_eq_false_iff_not];omega
theorem high_low {l:Nat} {r:List Nd} (hn: ∀x∈r,isNode l x.1=true) (y:Int) :highOf l r y - lowOf l r y=weighR l (around y) r:=by
 unfold highOf lowOf
 induction r with
 |nil=>rfl
 |cons x r ih=>
  have h1:=ih fun z hz=>hn z (by simp [hz]);have h2:=ends_bounds (hn x (by simp));simp only [weighR];by_cases a1: (endsOf l x.1).1≤y
  ·by_cases a2: (endsOf l x.1).2.1≤y
   ·have:around y (endsOf l x.1).1 (endsOf l x.1).2.1=false:=by simp only [around,Bool.and_eq_false_iff,decide_eq_false_iff_not];omega
    simp only [this,a1,a2,decide_true,if_true,Bool.false_eq_true,if_false];omega
   ·have:around y (endsOf l x.1).1 (endsOf l x.1).2.1=true:=by simp only [around,Bool.and_eq_true,decide_eq_true_eq];omega
    simp only [this,a1,a2,decide_true,decide_false,if_true,Bool.false_eq_true,if_false];omega
  ·have a2: ¬(endsOf l x.1).2.1≤y:=by omega
   have:around y (endsOf l x.1).1 (endsOf l x.1).2.1=false:=by simp only [around,Bool.and_eq_false_iff,decide_eq_false_iff_not];omega
   simp only [this,a1,a2,decide_false,Bool.false_eq_true,if_false];omega
def rankQ (l:Int) (q:List Nd) (y:Int) :Int:=lowOf l q y
def wideV (n:Nat) :Value:=.agg #[.int .u64 (n % 18446744073709551616:Nat),.int .u64 (n / 18446744073709551616:Nat)]
def sumW (l:Int) (hi:Bool) :List Nd→Nat
 | []=>0
 |x :: r=>(if hi=true then (endsOf l x.1).2.1 else (endsOf l x.1).1).toNat*x.2.toNat+sumW l hi r
theorem KeepN.setT {w W:World} {b o t:Nat} (k:KeepN w W) (h:TypeAt W b t) (ht:t≠77) (u:Value) :KeepN w (W.setCell ⟨b,o,none⟩ u):=by
 refine keepN_t k ⟨by simp [World.setCell],fun c cs fr hc=> ?_⟩
 have hne:c≠b:=by
  rintro rfl;obtain⟨cs',fr',h⟩:=h;rw [h] at hc
  injection hc with hc
  injection hc with _ h2
  exact ht h2
 exact(Below.heap_setCell _ _ _ _ hne).trans hc
theorem KeepN.more {w W W':World} (k:KeepN w W) (h:Below W.heap.size W W') :KeepN w W':=keepN_t k (KeepN.of_below h)
def meanT (l:Int) (r:List Nd) :Int×Int×Int:=if sumR r=0 then (0,0,7) else ((sumW l false r / (sumR r).toNat:Nat),(sumW l true r / (sumR r).toNat+ (if sumW l true r % (sumR r).toNat=0 then 0 else 1) :Nat),0)
def intAt (w:World) (b:Nat) (x:Int) :Prop:=w.heap[b]? =some (.cells #[.int .i64 x] 3 (0,0))
theorem intAt.below {w w':World} {b:Nat} {x:Int} (h:intAt w b x) (hb:Below w.heap.size w w') :intAt w' b x:=bB h hb
theorem intAt.alloc {w:World} {b:Nat} {x:Int} (h:intAt w b x) (o:Obj) :intAt (w.alloc o) b x:=h.below ((Below.refl _ _).alloc (Nat.le_refl _) o)
theorem intAt.set {w:World} {b q o:Nat} {x:Int} (h:intAt w b x) (hne:b≠q) (u:Value) :intAt (w.setCell ⟨q,o,none⟩ u) b x:=(Below.heap_setCell _ _ _ _ hne).trans h
theorem intAt.put {w:World} {b:Nat} {x:Int} (h:intAt w b x) (y:Int) :intAt (w.setCell ⟨b,0,none⟩ (.int .i64 y)) b y:=zH (i:=0) h _
theorem intAt.ty {w:World} {b:Nat} {x:Int} (h:intAt w b x) :TypeAt w b 3:=.of h
def worstStep (a:Int×Int) (at_ n:Int) :Int×Int:=if a.2<n∨n=a.2∧at_<a.1 then (at_,n) else a
def TryEnd (w:World) (bx bg:Nat) (r:Int×Int) (w':World) :Prop:=
 intAt w' bx r.1∧intAt w' bg r.2∧KeepN w w'∧(∀C,C≤bx→C≤bg→C≤w.heap.size→Below C w w')∧(∀b,b<w.heap.size→b≠bx→b≠bg→w'.heap[b]? =w.heap[b]?)
theorem try_same {w w1:World} {bx bg:Nat} {x gp:Int} (hb:Below w.heap.size w w1) (X:intAt w1 bx x) (G:intAt w1 bg gp) (o:Obj) :TryEnd w bx bg (x,gp) (w1.alloc o):=
 have hB:=hb.alloc hb.size o
 ⟨X.alloc o,G.alloc o,KeepN.of_below hB,fun C _ _ h=>hB.mono h,fun b h _ _=>hB.block b h⟩
theorem try_put {w w1:World} {bx bg:Nat} {x gp:Int} (hb:Below w.heap.size w w1) (X:intAt w1 bx x) (G:intAt w1 bg gp) (hne:bg≠bx) (o:Obj) (a n:Int) :
 TryEnd w bx bg (a,n) (((w1.setCell ⟨bx,0,none⟩ (.int .i64 a)).setCell ⟨bg,0,none⟩ (.int .i64 n)).alloc o):=
 ⟨((X.put a).set hne.symm _).alloc o,((G.set hne _).put n).alloc o,(((KeepN.of_below hb).setT X.ty (by decide) _).setT (G.set hne _).ty (by decide) _).more ((Below.refl _ _).alloc (Nat.le_refl _) o),
  fun C h1 h2 h3=>(((hb.mono h3).setCell (p:=⟨bx,0,none⟩) h1 _).setCell (p:=⟨bg,0,none⟩) h2 _).alloc (by have:=hb.size;simp only [World.size_setCell];omega) o,
  fun b h h1 h2=>(Below.heap_alloc _ o b (by have:=hb.size;simp only [World.size_setCell];omega)).trans ((Below.heap_setCell _ _ _ _ h2).trans ((Below.heap_setCell _ _ _ _ h1).trans (hb.block b h)))⟩
theorem bound_try (w:World) (L B g:Nat) (m:Int) (lt ft:List Nd) (at_ x gp:Int) (bt bg bx:Nat) (hT:TabAt w L B g m lt ft) (hBw:B≤w.heap.size) (hm:lt.length≤67108864) (hr:lt.Pairwise fun a b=>a.1<b.1) (hm2:ft.length≤67108864) (hr2:ft.Pairwise fun a b=>a.1<b.1)
 (ht:w.heap[bt]? =some (.cells #[.pointer (some ⟨g,0,none⟩)] 37 (0,0))) (hg:intAt w bg gp) (hx:intAt w bx x) (hne:bg≠bx) (hlo: -72057594037927936≤upT ft at_ - upT lt at_) (hhi:upT ft at_ - upT lt at_≤72057594037927936) :
 Calls Tryz.prog 50 #[.int .i64 at_,.pointer (some ⟨bt,0,none⟩),.pointer (some ⟨bg,0,none⟩),.pointer (some ⟨bx,0,none⟩)] w fun e w'=>e=.returned (.tuple #[])∧TryEnd w bx bg (worstStep (x,gp) at_ (upT ft at_ - upT lt at_)) w':=by
 have HB:=LH (table_Both at_ hT hBw hm hr hm2 hr2);have ct:=bC ht;have zt:=lB ht;have zg:=lB hg;have zx:=lB hx;have HG:=LH hg;have HX:=LH hx;generalize upT lt at_=lo at HB hlo hhi⊢;generalize upT ft at_=hi at HB hlo hhi⊢;clear hT hr hr2 ht hg hx;by_cases c1:gp<hi - lo
 ·rw [show worstStep (x,gp) at_ (hi - lo) = (at_,hi - lo) by unfold worstStep;rw [if_pos (.inl c1)]]
  go_enter Tryz.func50,Tryz.ntmps50
  go_wp2_with fail;refine HB.out.mono ?_;rintro e w1 ⟨rfl,hb1⟩;have s1:=hb1.size;have G1:=HG.out.below hb1;have X1:=HX.out.below hb1;have cg:=bC G1;have cgf:=bF G1;have cx:=bC X1;have cxf:=bF X1;have KG:=LH G1;have KX:=LH X1;clear G1 X1;have zg1:bg<w1.heap.size:=by omega
  have zx1:bx<w1.heap.size:=by omega
  have hne2:bx≠bg:=hne.symm;go_wp2_with fail
  go_end0
  exact⟨rfl,try_put hb1 KX.out KG.out hne _ _ _⟩
 ·by_cases c2:hi - lo=gp
  ·subst c2
   have c3: (hi - lo == hi - lo) =true:=by simp
   by_cases c4:at_<x
   ·rw [show worstStep (x,hi - lo) at_ (hi - lo) = (at_,hi - lo) by unfold worstStep;rw [if_pos (.inr ⟨rfl,c4⟩)]]
    go_enter Tryz.func50,Tryz.ntmps50
    go_wp2_with fail;refine HB.out.mono ?_;rintro e w1 ⟨rfl,hb1⟩;have s1:=hb1.size;have G1:=HG.out.below hb1;have X1:=HX.out.below hb1;have cg:=bC G1;have cgf:=bF G1;have cx:=bC X1;have cxf:=bF X1;have KG:=LH G1;have KX:=LH X1;clear G1 X1;have zg1:bg<w1.heap.size:=by omega
    have zx1:bx<w1.heap.size:=by omega
    have hne2:bx≠bg:=hne.symm;go_wp2_with fail
    go_end0
    exact⟨rfl,try_put hb1 KX.out KG.out hne _ _ _⟩
   ·rw [show worstStep (x,hi - lo) at_ (hi - lo) = (x,hi - lo) by unfold worstStep;rw [if_neg (by simp;omega)]]
    go_enter Tryz.func50,Tryz.ntmps50
    go_wp2_with fail;refine HB.out.mono ?_;rintro e w1 ⟨rfl,hb1⟩;have s1:=hb1.size;have G1:=HG.out.below hb1;have X1:=HX.out.below hb1;have cg:=bC G1;have cgf:=bF G1;have cx:=bC X1;have cxf:=bF X1;have KG:=LH G1;have KX:=LH X1;clear G1 X1;have zg1:bg<w1.heap.size:=by omega
    have zx1:bx<w1.heap.size:=by omega
    have hne2:bx≠bg:=hne.symm;go_wp2_with fail
    go_end0
    exact⟨rfl,try_same hb1 KX.out KG.out _⟩
  ·have c3: (hi - lo == gp) =false:=by simpa using c2
   rw [show worstStep (x,gp) at_ (hi - lo) = (x,gp) by unfold worstStep;rw [if_neg (by simp;omega)]];clear c2
   go_enter Tryz.func50,Tryz.ntmps50
   go_wp2_with fail;refine HB.out.mono ?_;rintro e w1 ⟨rfl,hb1⟩;have s1:=hb1.size;have G1:=HG.out.below hb1;have X1:=HX.out.below hb1;have cg:=bC G1;have cgf:=bF G1;have cx:=bC X1;have cxf:=bF X1;have KG:=LH G1;have KX:=LH X1;clear G1 X1;have zg1:bg<w1.heap.size:=by omega
   have zx1:bx<w1.heap.size:=by omega
   have hne2:bx≠bg:=hne.symm;go_wp2_with fail
   go_end0
   exact⟨rfl,try_same hb1 KX.out KG.out _⟩
end Go.Proofs.YtapgmnnchbepiaaGreat
