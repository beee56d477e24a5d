/-
  Texts of this proof, one behind the other: Sample, Take31, EpOps, EpOn, EpDo, EpDlv, Grove, GroveKids, TabIn, CrewEach, GroveWalk, EpNew, EpHear, EpAliveL, EpS, EpAlive.
-/
import Derived.Lib.SmallJoins
import Derived.Test.YtmdidmclfbfmiaaGreatDoorShelf
import Derived.Test.YtmdidmclfbfmiaaGreatDoorRows
import Derived.WalkKit
import Derived.WalkLawsBesides
import Derived.ProofKit
import Derived.OpenShut
import Derived.ChangeOld
import Derived.Below
import Derived.LaidMore
import Derived.MakeChecks
import Derived.Lib.LaidTab
import Derived.Lib.TrailingZeros
import Derived.Shelf.Spec.TrailingZeros
import Derived.Deep.DeepCutAuto
import Derived.Test.YtmdidmclfbfmiaaGreatDoorS1
import Derived.Test.YtmdidmclfbfmiaaGreatDoorS2
import Derived.Test.YtmdidmclfbfmiaaGreatDoorS5
import Derived.Test.YtmdidmclfbfmiaaGreatDoorS8
import Derived.Test.YtmdidmclfbfmiaaGreatDoorS10
set_option linter.unusedVariables false
set_option linter.unusedSimpArgs false
set_option maxRecDepth 100000
set_option maxHeartbeats 16000000
namespace Go.Proofs.YtmdidmclfbfmiaaGreatDoor
open Go.ChangeShapes Go.WideShapes Go.ChangeAt Go.RowKit
section
def rightB (v u:Int) :Bool:=decide (0≤v) && decide (v≤281474976710655) && decide (1≤u) && decide (u≤72057594037927935)
def ofV (v u:Int) :Value:=if rightB v u then .tuple #[.agg #[.int .i64 v,.int .i64 u],.bool true] else .tuple #[.agg #[.int .i64 0,.int .i64 0],.bool false]
attribute [local go_sem] Instr.typeAssert
theorem zvInt (w:World) : (zeroValue 3).run Tryz.prog w=.ok (.int .i64 0) w:=by kernel_rfl
theorem zvPair (w:World) : (zeroValue 315).run Tryz.prog w=.ok (.agg #[.int .i64 0,.int .i64 0]) w:=by kernel_rfl
theorem zvCplx (w:World) : (zeroValue 86).run Tryz.prog w=.ok (.complex .f64 0 0) w:=by kernel_rfl
theorem zvRead (w:World) : (zeroValue 165).run Tryz.prog w=.ok (.agg #[.int .i64 0,.int .i64 0]) w:=by kernel_rfl
attribute [local go_sem] zvInt zvPair zvCplx zvRead
structure IsWhole (b:Nat) (n:Int) :Prop where
 ge: (FloatKind.f64.format.order b 0 == some .gt || FloatKind.f64.format.order b 0 == some .eq) =true
 le: (FloatKind.f64.format.order b 4859383997932765184 == some .lt || FloatKind.f64.format.order b 4859383997932765184 == some .eq) =true
 toInt:floatToIntVal .f64 b .i64=some n
 eq: (FloatKind.f64.format.order (floatOfInt .f64 n) b == some .eq) =true
def packV (v u:Int) :Value:=if rightB v u=true∧u≤9007199254740992 then .tuple #[.complex .f64 (floatOfInt .f64 v) (floatOfInt .f64 u),.bool true] else .tuple #[.complex .f64 0 0,.bool false]
def pack4V (v u:Int) :Value:=if rightB v u=true∧u≤9007199254740992 then .tuple #[.agg #[.float .f64 (floatOfInt .f64 v),.float .f64 (floatOfInt .f64 u)],.bool true] else .tuple #[.agg #[.float .f64 0,.float .f64 0],.bool false]
def Strange (v:Value) :Prop:=v=.nilIface∨∃t x,v=.iface t x∧¬t=3∧¬t=315∧¬t=86∧¬t=165
end
def OfIs (v:Value) (x c:Int) (ok:Bool) :Prop:=∀W,Calls Tryz.prog 163 #[v] W fun e w'=>e=.returned (.tuple #[.agg #[.int .i64 x,.int .i64 c],.bool ok])∧Below W.heap.size W w'
structure TwoF (w:World) (ga gb K l:Nat) (sa sb:Sen) (ra rb:List Nd) (Fa Fb:Nat→Prop) (W:World) :Prop where
 a:SensAt W ga K l sa ra Fa
 b:SensAt W gb K l sb rb Fb
 ap: ∀q,Fa q→¬Fb q
 fa: ∀q,Fa q→w.heap.size≤q
 fb: ∀q,Fb q→w.heap.size≤q
 le:Below w.heap.size w W
def TwoIn (w:World) (ga gb K l:Nat) (sa sb:Sen) (ra rb:List Nd) (W:World) :Prop:=∃Fa Fb,TwoF w ga gb K l sa sb ra rb Fa Fb W
section
variable {w W W':World} {ga gb K l:Nat} {sa sb sa' sb':Sen} {ra rb r':List Nd} {Fa Fb:Nat→Prop}
def TwoX (w:World) (ga gb K l:Nat) (sa sb:Sen) (ra rb:List Nd) (q:Nat) (o:Obj) (W:World) :Prop:=∃Fa Fb,TwoF w ga gb K l sa sb ra rb Fa Fb W∧W.heap[q]? =some o∧¬Fa q∧¬Fb q
end
structure EpN where
 bp:Nat
 op:Nat
 cp:Nat
 bo:Nat
 oo:Nat
 co:Nat
 bs:Nat
 os:Nat
 cs:Nat
structure EpRd (L:EpL) (N:EpN) (n:Nat) :Prop where
 n_:L.ps.length=n
 p:L.vp=.slice (some ⟨N.bp,N.op,none⟩) n N.cp
 o:L.vo=.slice (some ⟨N.bo,N.oo,none⟩) n N.co
 s:L.vs=.slice (some ⟨N.bs,N.os,none⟩) n N.cs
theorem own_some {α:Type} {size base e:Nat} {E:Enc α size} {w:World} {v:Value} {l:List α} (h:Own w base e E v l) (hl:0<l.length) : ∃b o c,v=.slice (some ⟨b,o,none⟩) l.length c:=by
 rcases h with ⟨rfl,rfl⟩ | ⟨g,o,c,cur,rfl,_⟩
 ·simp at hl
 ·exact⟨g,o,c,rfl⟩
section
variable {w W:World} {L:EpL} {m:EpM} {F:Nat→Prop} {N:EpN} {n:Nat}
theorem EpAt.rd (h:EpAt w L m F) (hR:rightG L.ps=true) : ∃N,EpRd L N L.ps.length:=by
 have h1:=(rightG_len hR).1;have h2:=order_len hR;obtain⟨bp,op,cp,hp⟩:=own_some h.par (by omega);obtain⟨bo,oo,co,ho⟩:=own_some h.ord (by simp only [ordZ,natZ,List.length_map];omega);obtain⟨bs,os,cs,hs⟩:=own_some h.sen (by rw [h.lens.1];omega);refine⟨⟨bp,op,cp,bo,oo,co,bs,os,cs⟩,rfl,hp,?_,?_⟩
 ·rw [ho];simp only [ordZ,natZ,List.length_map,h2]
 ·rw [hs,h.lens.1]
theorem EpAt.blk (h:EpAt w L m F) (R:EpRd L N n) :w.heap[L.g]? =some (.cells #[.pointer (some ⟨L.gw,0,none⟩),.slice (some ⟨N.bp,N.op,none⟩) n N.cp,.slice (some ⟨N.bo,N.oo,none⟩) n N.co,.slice (some ⟨N.bs,N.os,none⟩) n N.cs,.bool m.st,.bool m.en] 101 (0,0)):=by
 have:=h.cells;unfold runC at this;rw [R.p,R.o,R.s] at this;exact this
theorem EpAt.parC (h:EpAt w L m F) (R:EpRd L N n) {i:Nat} (hi:i<n) :w.cell? ⟨N.bp,N.op+i,none⟩ =some (.int .i64 (L.ps.getD i 0))∧N.bp<w.heap.size:=by
 have h1:=h.par;rw [R.p] at h1;have hi':i<L.ps.length:=by rw [R.n_];exact hi
 obtain⟨b,off,hA,hb,hc⟩:=h1.sl.at_ hi'
 cases hA
 have:=hc 0 (.int .i64 L.ps[i]) rfl;rw [Nat.mul_one,Nat.add_zero] at this;exact⟨by rw [this,getG_at hi'],hb⟩
theorem EpAt.ordC (h:EpAt w L m F) (R:EpRd L N n) {i:Nat} (hi:i< (orderG L.ps).length) :w.cell? ⟨N.bo,N.oo+i,none⟩ =some (.int .i64 ((orderG L.ps)[i] :Nat))∧N.bo<w.heap.size:=by
 have h1:=h.ord;rw [R.o] at h1;have hl: (ordZ L.ps).length= (orderG L.ps).length:=by simp [ordZ,natZ]
 have hi':i< (ordZ L.ps).length:=by rw [hl];exact hi
 obtain⟨b,off,hA,hb,hc⟩:=h1.sl.at_ hi'
 cases hA
 have:=hc 0 (.int .i64 (ordZ L.ps)[i]) rfl;rw [Nat.mul_one,Nat.add_zero] at this;refine⟨?_,hb⟩;rw [this];simp [ordZ,natZ]
theorem EpAt.senC (h:EpAt w L m F) (R:EpRd L N n) {i:Nat} (hi:i<n) :w.cell? ⟨N.bs,N.os+i,none⟩ =some (.pointer (some ⟨L.gs.getD i 0,0,none⟩))∧N.bs<w.heap.size:=by
 have h1:=h.sen;rw [R.s] at h1;have hi':i<L.gs.length:=by rw [h.lens.1,R.n_];exact hi
 obtain⟨b,off,hA,hb,hc⟩:=h1.sl.at_ hi'
 cases hA
 have:=hc 0 (.pointer (some ⟨L.gs[i],0,none⟩)) rfl;rw [Nat.mul_one,Nat.add_zero] at this;exact⟨by rw [this,List.getD_eq_getElem?_getD,List.getElem?_eq_getElem hi'];rfl,hb⟩
theorem EpAt.at_ (h:EpAt w L m F) {i:Nat} (hi:i<L.ps.length) : ∃x,m.ss[i]? =some x:=⟨_,List.getElem?_eq_getElem (by rw [h.lens.2];exact hi)⟩
end
theorem ep_Ended (w:World) (L:EpL) (m:EpM) (F:Nat→Prop) (h:EpAt w L m F) :Calls Tryz.prog 20 #[.pointer (some ⟨L.g,0,none⟩)] w fun e w'=>e=.returned (.bool m.en)∧Below w.heap.size w w':=by
 have cc:=bC h.cells;have zb:=lB h.cells;unfold runC at cc;clear h
 go_enter Tryz.func20,Tryz.ntmps20
 go_wp2_with fail;exact bR (v:=.bool m.en) (by simp only [results,Tryz.results20];go_simp) rfl ⟨rfl,bE⟩
theorem ep_Flight (w:World) (L:EpL) (m:EpM) (F:Nat→Prop) (h:EpAt w L m F) :Calls Tryz.prog 16 #[.pointer (some ⟨L.g,0,none⟩)] w fun e w'=>e=.returned (.int .i64 m.wv.items.length)∧Below w.heap.size w w':=by
 have HW:=LH (wave_Len w L.base L.gw m.wv h.wave.1);have cc:=bC h.cells;have zb:=lB h.cells;unfold runC at cc;clear h
 go_enter Tryz.func16,Tryz.ntmps16
 go_wp2_with fail;refine(HW.out).mono ?_;rintro e w1 ⟨rfl,hb1⟩;have B1:Below w.heap.size w w1:=Below.then_ bE hb1;have s1:=B1.size;go_wp2_with fail;exact bR (v:=.int .i64 m.wv.items.length) (by simp only [results,Tryz.results16];go_simp) rfl ⟨rfl,B1⟩
theorem ep_Letter (w:World) (L:EpL) (m:EpM) (F:Nat→Prop) (i:Int) (h:EpAt w L m F) :Calls Tryz.prog 28 #[.pointer (some ⟨L.g,0,none⟩),.int .i64 i] w fun e w'=>e=.returned (atV (m.wv.at_ i))∧Below w.heap.size w w':=by
 have HW:=LH (wave_At w L.base L.gw m.wv i h.wave.1);have cc:=bC h.cells;have zb:=lB h.cells;unfold runC at cc;unfold atV at HW⊢;generalize m.wv.at_ i=r at HW⊢;clear h
 go_enter Tryz.func28,Tryz.ntmps28
 go_wp2_with fail;refine(HW.out).mono ?_;rintro e w1 ⟨rfl,hb1⟩;have B1:Below w.heap.size w w1:=Below.then_ bE hb1;have s1:=B1.size;go_wp2_with fail;exact bR (v:=.tuple #[.int .i64 r.1,.string r.2.1,.bool r.2.2]) (by simp only [results,Tryz.results28];go_simp) rfl ⟨rfl,B1⟩
theorem ep_early (w:World) (L:EpL) (m:EpM) (F:Nat→Prop) (h:EpAt w L m F) :Calls Tryz.prog 51 #[.pointer (some ⟨L.g,0,none⟩)] w fun e w'=>e=.returned (.int .i64 (if m.st=true then 0 else 22))∧Below w.heap.size w w':=by
 have cc:=bC h.cells;have zb:=lB h.cells;unfold runC at cc;clear h;generalize m.st=b at*
 cases b
 ·rw [if_neg (by decide)]
  go_enter Tryz.func51,Tryz.ntmps51
  go_wp2_with fail;exact bR (v:=.int .i64 22) (by simp only [results,Tryz.results51];go_simp) rfl ⟨rfl,bE⟩
 ·rw [if_pos rfl]
  go_enter Tryz.func51,Tryz.ntmps51
  go_wp2_with fail;exact bR (v:=.int .i64 0) (by simp only [results,Tryz.results51];go_simp) rfl ⟨rfl,bE⟩
def senEp (L:EpL) (i:Int) :Value:=if 0≤i∧i< (L.ps.length:Int) then .tuple #[.pointer (some ⟨L.gs.getD i.toNat 0,0,none⟩),.int .i64 0] else .tuple #[.pointer none,.int .i64 16]
theorem ep_sensor (w:World) (L:EpL) (m:EpM) (F:Nat→Prop) (i:Int) (h:EpAt w L m F) (hR:rightG L.ps=true) :Calls Tryz.prog 44 #[.pointer (some ⟨L.g,0,none⟩),.int .i64 i] w fun e w'=>e=.returned (senEp L i)∧Below w.heap.size w w':=by
 obtain⟨N,R⟩:=h.rd hR;have hn:=(rightG_len hR).2;have hb:=h.blk R;have hs:=fun (k:Nat) (hk:k<L.ps.length)=>h.senC R hk;unfold senEp;clear h hR R;generalize L.ps.length=n at*;have cc:=bC hb;have zb:=lB hb;clear hb;by_cases h0:i<0
 ·rw [if_neg (by omega)]
  have h0d:decide (i<0) =true:=by simpa using h0
  go_enter Tryz.func44,Tryz.ntmps44
  go_wp2_with fail;exact bR (v:=.tuple #[.pointer none,.int .i64 16]) (by simp only [results,Tryz.results44];go_simp) rfl ⟨rfl,bE⟩
 ·have h0d:decide (i<0) =false:=by simpa using h0
  by_cases h1: (n:Int)≤i
  ·rw [if_neg (by omega)]
   go_enter Tryz.func44,Tryz.ntmps44
   go_wp2_with fail;exact bR (v:=.tuple #[.pointer none,.int .i64 16]) (by simp only [results,Tryz.results44];go_simp) rfl ⟨rfl,bE⟩
  ·rw [if_pos (by omega)]
   obtain⟨k,rfl⟩:=Int.eq_ofNat_of_zero_le (show 0≤i by omega);have hk:k<n:=by omega
   obtain⟨sc,sz⟩:=hs k hk;have h1d:decide ((n:Int)≤(k:Int)) =false:=by simpa using h1
   rw [Int.toNat_natCast];generalize L.gs.getD k 0=gk at*;clear hs
   go_enter Tryz.func44,Tryz.ntmps44
   go_wp2_with fail;exact bR (v:=.tuple #[.pointer (some ⟨gk,0,none⟩),.int .i64 0]) (by simp only [results,Tryz.results44];go_simp) rfl ⟨rfl,bE⟩
theorem sensor_CoverS (w:World) (g K l:Nat) (s:Sen) (r:List Nd) (F:Nat→Prop) (h:SensAt w g K l s r F) :Calls Tryz.prog 56 #[.pointer (some ⟨g,0,none⟩)] w fun e w'=>e=.returned (.int .u64 s.cover)∧Below w.heap.size w w':=by
 obtain⟨dg,F0,_,h1,_⟩:=h;exact sensor_Cover w g dg s h1
theorem sensor_EpochS (w:World) (g K l:Nat) (s:Sen) (r:List Nd) (F:Nat→Prop) (h:SensAt w g K l s r F) :Calls Tryz.prog 66 #[.pointer (some ⟨g,0,none⟩)] w fun e w'=>e=.returned (.int .i64 s.ep)∧Below w.heap.size w w':=by
 obtain⟨dg,F0,_,h1,_⟩:=h;exact sensor_Epoch w g dg s h1
theorem sensor_ReadyS (w:World) (g K l:Nat) (s:Sen) (r:List Nd) (F:Nat→Prop) (h:SensAt w g K l s r F) :Calls Tryz.prog 106 #[.pointer (some ⟨g,0,none⟩)] w fun e w'=>e=.returned (.bool (readyS s))∧Below w.heap.size w w':=by
 obtain⟨dg,F0,_,h1,_⟩:=h;exact sensor_Ready w g dg s h1
def EpDig (K l:Nat) (k:Int) (r:List Nd) (w:World) (e:Ending) (w':World) :Prop:=∃g' F',e=.returned (.tuple #[.pointer (some ⟨g',0,none⟩),.int .i64 0])∧DigAt w' g' K l k r F'∧(∀b,F' b→w.heap.size≤b)∧Below w.heap.size w w'
theorem ep_Number (w:World) (L:EpL) (m:EpM) (F:Nat→Prop) (h:EpAt w L m F) (hR:rightG L.ps=true) :Calls Tryz.prog 25 #[.pointer (some ⟨L.g,0,none⟩)] w fun e w'=>e=.returned (.int .i64 m.E)∧Below w.heap.size w w':=by
 obtain⟨N,R⟩:=h.rd hR;have hn:=rightG_len hR;have hb:=h.blk R;obtain⟨sc,sz⟩:=h.senC R (show 0<L.ps.length by omega);obtain⟨x,hx⟩:=h.at_ (show 0<L.ps.length by omega)
 have hE:m.E=x.1.ep:=by
  unfold EpM.E
  cases hs:m.ss with
  |nil=>rw [hs] at hx;cases hx
  |cons y t=>rw [hs] at hx;cases hx;rfl
 obtain⟨Fi,h1,_⟩:=h.sens hx;have HC:=LH (sensor_EpochS w _ _ _ _ _ _ h1);rw [hE];rw [Nat.add_zero] at sc;clear h hR R hx hE h1;generalize L.ps.length=n at*;generalize L.gs.getD 0 0=gk at*;have cc:=bC hb;have zb:=lB hb;clear hb
 go_enter Tryz.func25,Tryz.ntmps25
 go_wp2_with fail;refine(HC.out).mono ?_;rintro e w1 ⟨rfl,hb1⟩;have B1:Below w.heap.size w w1:=Below.then_ bE hb1;have s1:=B1.size;go_wp2_with fail;exact bR (v:=.int .i64 x.1.ep) (by simp only [results,Tryz.results25];go_simp) rfl ⟨rfl,B1⟩
def EpPut (L:EpL) (m:EpM) (F:Nat→Prop) (i:Int) (xv c:Int) (w:World) (e:Ending) (w':World) :Prop:=
 (¬(0≤i∧i< (L.ps.length:Int))∧e=.returned (.int .i64 16)∧Below w.heap.size w w')∨
 ∃(k:Nat) (x:SR) (r':List Nd),i= (k:Int)∧m.ss[k]? =some x∧e=.returned (.int .i64 (putErr L.l x.1 x.2 xv c))∧PutTo L.l x.1 x.2 xv c r'∧EpTo w L (m.setS k (x.1,r')) F w'
theorem ep_Put (w:World) (L:EpL) (m:EpM) (F:Nat→Prop) (i xv c:Int) (h:EpAt w L m F) (hR:rightG L.ps=true) (hn: ∀x∈m.ss,x.2.length≤67108864) :Calls Tryz.prog 13 #[.pointer (some ⟨L.g,0,none⟩),.int .i64 i,.int .i64 xv,.int .i64 c] w (EpPut L m F i xv c w):=by
 have HS:=LH (ep_sensor w L m F i h hR);unfold senEp at HS;by_cases hi:0≤i∧i< (L.ps.length:Int)
 ·rw [if_pos hi] at HS
  obtain⟨k,rfl⟩:=Int.eq_ofNat_of_zero_le hi.1;rw [Int.toNat_natCast] at HS;obtain⟨x,hx⟩:=h.at_ (i:=k) (by omega)
  have HP:Hid (∀W,Below w.heap.size w W→Calls Tryz.prog 45 #[.pointer (some ⟨L.gs.getD k 0,0,none⟩),.int .i64 xv,.int .i64 c] W fun e W'=>∃r',e=.returned (.int .i64 (putErr L.l x.1 x.2 xv c))∧PutTo L.l x.1 x.2 xv c r'∧EpTo w L (m.setS k (x.1,r')) F W'):=LH fun W hb=>by
   obtain⟨Fi,h1,_,h2⟩:=(h.below hb).sens hx;refine(sensor_Put W _ _ _ _ _ _ h1 (hn x (List.mem_of_getElem? hx)) xv c).mono ?_;rintro e W' ⟨r',rfl,hp,ht⟩;exact⟨r',rfl,hp,.from_ hb (h2 _ _ _ ht)⟩
  have HE:Hid (∀W r',PutTo L.l x.1 x.2 xv c r'→EpTo w L (m.setS k (x.1,r')) F W→EpPut L m F k xv c w (.returned (.int .i64 (putErr L.l x.1 x.2 xv c))) W):=LH fun W r' h1 h2=>.inr ⟨k,x,r',rfl,hx,rfl,h1,h2⟩;generalize L.gs.getD k 0=gk at*;generalize putErr L.l x.1 x.2 xv c=er at*;generalize EpPut L m F k xv c w=PP at*;clear h hx hi hn
  go_enter Tryz.func13,Tryz.ntmps13
  go_wp2_with fail;refine(HS.out).mono ?_;rintro e w1 ⟨rfl,hb1⟩;have B1:Below w.heap.size w w1:=Below.then_ bE hb1;have s1:=B1.size;go_wp2_with fail;refine(HP.out _ B1).mono ?_;rintro e w2 ⟨r',rfl,hp,ht⟩;have HF:=LH (HE.out _ _ hp ht);clear hp ht;go_wp2_with fail;exact HF.out
 ·rw [if_neg hi] at HS
  have HE:Hid (∀W,Below w.heap.size w W→EpPut L m F i xv c w (.returned (.int .i64 16)) W):=LH fun W hb=>.inl ⟨hi,rfl,hb⟩;generalize EpPut L m F i xv c w=PP at*;clear h hi hn
  go_enter Tryz.func13,Tryz.ntmps13
  go_wp2_with fail;refine(HS.out).mono ?_;rintro e w1 ⟨rfl,hb1⟩;have B1:Below w.heap.size w w1:=Below.then_ bE hb1;have s1:=B1.size;go_wp2_with fail;exact HE.out _ B1
theorem ep_each (w:World) (L:EpL) (hR:rightG L.ps=true) (fn:Nat) (caps:Array Value) (eg: ∀args W,(callFunc fn args).run Tryz.prog W=.ok (.enter fn args) W)
 (P:List Nat→World→Prop) (hP: ∀pre W,P pre W→∃m' F',EpAt W L m' F') (h0:P [] w)
 (step: ∀(pre:List Nat) (i:Nat) (W:World),i<L.ps.length→pre.length<L.ps.length→P pre W→Calls Tryz.prog fn (#[.int .i64 i,.pointer (some ⟨L.gs.getD i 0,0,none⟩)] ++ caps) W fun e W'=>e=.returned (.tuple #[])∧P (pre ++ [i]) W') :
 Calls Tryz.prog 63 #[.pointer (some ⟨L.g,0,none⟩),.func (.func fn) #[] caps] w fun e w'=>e=.returned (.tuple #[])∧P (orderG L.ps) w':=by
 obtain⟨m0,F0,hA0⟩:=hP [] w h0;obtain⟨N,R⟩:=hA0.rd hR;have hn:=(rightG_len hR).2;have hol:=order_len hR;have hom:=LH (fun x=>(order_mem (x:=x) hR).1)
 have HB:=LH (fun pre W (hp:P pre W)=>(by
  obtain⟨m',F',hA⟩:=hP pre W hp;exact⟨_,_,hA.blk R⟩ : ∃st en,W.heap[L.g]? =some (.cells #[.pointer (some ⟨L.gw,0,none⟩),.slice (some ⟨N.bp,N.op,none⟩) L.ps.length N.cp,.slice (some ⟨N.bo,N.oo,none⟩) L.ps.length N.co,.slice (some ⟨N.bs,N.os,none⟩) L.ps.length N.cs,.bool st,.bool en] 101 (0,0))))
 have HO:=LH (fun pre W (hp:P pre W) (i:Nat) (hi:i< (orderG L.ps).length)=>(by
  obtain⟨m',F',hA⟩:=hP pre W hp;exact hA.ordC R hi:W.cell? ⟨N.bo,N.oo+i,none⟩ =some (.int .i64 ((orderG L.ps)[i] :Nat))∧N.bo<W.heap.size))
 have HS:=LH (fun pre W (hp:P pre W) (i:Nat) (hi:i<L.ps.length)=>(by
  obtain⟨m',F',hA⟩:=hP pre W hp;exact hA.senC R hi:W.cell? ⟨N.bs,N.os+i,none⟩ =some (.pointer (some ⟨L.gs.getD i 0,0,none⟩))∧N.bs<W.heap.size))
 have HStep:=LH step;have H0:=LH h0;obtain⟨st0,en0,hb0⟩:=HB.out [] w h0;clear hA0 R hP step h0;generalize L.ps.length=n at*;have cc:=bC hb0;have zb:=lB hb0;clear hb0
 go_enter Tryz.func63,Tryz.ntmps63
 go_wp2_with fail
 go_loopw [11] (fun q wr=>∃j:Nat,q=.int .i64 j∧j≤n∧P ((orderG L.ps).take j) wr) (fun q _=>n - (intOf q).toNat)
 case atStart=>exact⟨0,rfl,Nat.zero_le _,H0.out⟩
 case round=>
  obtain⟨j,rfl,hj,hp⟩:=hrel;have KP:=LH hp;clear hp cc zb;by_cases hlt:j<n
  ·have hjo:j< (orderG L.ps).length:=by omega
   obtain⟨oc,oz⟩:=HO.out _ _ KP.out j hjo;have hin:=hom.out _ (List.getElem_mem hjo);have htk:Hid ((orderG L.ps).take (j+1) = (orderG L.ps).take j ++ [(orderG L.ps)[j]]):=LH (by rw [List.take_add_one,List.getElem?_eq_getElem hjo];rfl);generalize (orderG L.ps)[j] =i at oc hin htk;obtain⟨sc,sz⟩:=HS.out _ _ KP.out i hin;obtain⟨st,en,hb⟩:=HB.out _ _ KP.out;have cc:=bC hb;have zb:=lB hb;have HC:=LH (HStep.out _ i wr hin (by rw [List.length_take];omega) KP.out);clear hb;generalize L.gs.getD i 0=gi at*;go_wp2_with fail;refine HC.out.mono ?_;rintro e w1 ⟨rfl,hp1⟩;have K1:=LH hp1;rw [←htk.out] at K1;clear hp1 cc zb sc sz oc oz;go_wp2_with fail;go_roundw
   case rel=>exact⟨j+1,by go_num,by omega,K1.out⟩
   case measure=>simp [intOf];omega
  ·obtain rfl:j=n:=by omega
   have KQ:=KP.out;rw [List.take_of_length_le (by omega)] at KQ;go_wp2_with fail
   go_end0
   exact⟨rfl,KQ⟩
theorem sensor_SendS (w:World) (g K l:Nat) (s:Sen) (r:List Nd) (F:Nat→Prop) (h:SensAt w g K l s r F) (ho:SenOk s) (hn:r.length≤50000) (hr:readyS s=true) :
 Calls Tryz.prog 107 #[.pointer (some ⟨g,0,none⟩)] w fun e w'=>∃ps r',RunTo l (sumR r / s.k) r ps r'∧e=.returned (.tuple #[.string ⟨(ltrT (senL l s r')).toArray⟩,.int .i64 0])∧SensTo w g K l (sentS s) r' F w':=by
 have hs:s.sent=false:=by
  unfold readyS at hr
  cases h:s.sent
  ·rfl
  ·rw [h] at hr;simp at hr
 refine(sensor_Send w g K l s r F h ho hn).mono ?_;intro e w' hp;unfold SendPost at hp;rw [if_neg (by rw [hs];decide),if_neg (by rw [hr];decide)] at hp;exact hp
def On1Post (L:EpL) (m:EpM) (F:Nat→Prop) (i:Nat) (w:World) (e:Ending) (w':World) :Prop:=e=.returned (.tuple #[])∧∃m',OnStep L.l L.ps m i m'∧EpTo w L m' F w'
theorem ep_on1 (w:World) (L:EpL) (m:EpM) (F:Nat→Prop) (T:Nat) (h:EpAt w L m F) (ok:EpOk L T m) (hT:T≤4611686018427380000) (i pr:Nat) (hi:i<L.ps.length) (hpr:w.heap[pr]? =some (.cells #[.pointer (some ⟨L.g,0,none⟩)] 31 (0,0))) (hF: ¬F pr) :
 Calls Tryz.prog 105 #[.int .i64 i,.pointer (some ⟨L.gs.getD i 0,0,none⟩),.pointer (some ⟨pr,0,none⟩)] w (On1Post L m F i w):=by
 have hR:=ok.tree;obtain⟨N,R⟩:=h.rd hR;have hn:=(rightG_len hR).2;have H0:=LH h;obtain⟨x,hx⟩:=h.at_ hi;obtain⟨Fi,hs,hsub,hto⟩:=h.sens hx;have hxo:=ok.sen x (List.mem_of_getElem? hx);have KP:=LH hpr;have HRd:=LH (sensor_ReadyS w _ _ _ _ _ _ hs)
 have HSd:Hid (∀W,Below w.heap.size w W→readyS x.1=true→Calls Tryz.prog 107 #[.pointer (some ⟨L.gs.getD i 0,0,none⟩)] W fun e W'=>∃pl r',RunTo L.l (sumR x.2 / x.1.k) x.2 pl r'∧e=.returned (.tuple #[.string ⟨(ltrT (senL L.l x.1 r')).toArray⟩,.int .i64 0])∧EpTo w L (m.setS i (sentS x.1,r')) F W'):=LH fun W hb hr=>by
  obtain⟨Fi,h1,_,h2⟩:=(h.below hb).sens hx;refine(sensor_SendS W _ _ _ _ _ _ h1 hxo.ok hxo.len hr).mono ?_;rintro e W' ⟨pl,r',hrun,rfl,ht⟩;exact⟨pl,r',hrun,rfl,.from_ hb (h2 _ _ _ ht)⟩
 have hP0:Hid (readyS x.1=false→∀W,Below w.heap.size w W→On1Post L m F i w (.returned (.tuple #[])) W):=LH fun hr W hb=>⟨rfl,m,.skip hx hr,.below h hb⟩;have hP1:Hid (readyS x.1=true→∀pl r' W,RunTo L.l (sumR x.2 / x.1.k) x.2 pl r'→EpTo w L (sendM L.l L.ps m i x.1 r') F W→On1Post L m F i w (.returned (.tuple #[])) W):=LH fun hr pl r' W h1 h2=>⟨rfl,_,.send hx hr h1,h2⟩;have hsm:=ok.small hT;have hits:=ok.its;have hpar:=rightG_par hR hi;have hMs:Hid (∀r',∃st en,(m.setS i (sentS x.1,r')).st=st∧(m.setS i (sentS x.1,r')).en=en∧(m.setS i (sentS x.1,r')).wv=m.wv):=LH fun r'=>⟨_,_,rfl,rfl,rfl⟩;have hSM:Hid (∀r',sendM L.l L.ps m i x.1 r'=if L.ps.getD i 0<0 then {m.setS i (sentS x.1,r') with en:=true} else {m.setS i (sentS x.1,r') with wv:=(m.wv.send (L.ps.getD i 0,⟨(ltrT (senL L.l x.1 r')).toArray⟩)).1}):=LH fun r'=>rfl;clear h hs hsub hto hx hxo ok;generalize L.gs.getD i 0=gi at*;obtain⟨y,hy⟩ : ∃y,y=readyS x.1:=⟨_,rfl⟩;rw [←hy] at HRd HSd hP0 hP1;clear hy;generalize On1Post L m F i w=PP at*
 go_enter Tryz.func105,Tryz.ntmps105
 go_wp2_with fail;refine(HRd.out).mono ?_;rintro e w1 ⟨rfl,hb1⟩;have B1:Below w.heap.size w w1:=Below.then_ bE hb1;have s1:=B1.size
 cases y
 ·go_wp2_with fail
  exact bR (v:=.tuple #[]) (results_none rfl _ _ _) rfl (hP0.out trivial _ B1)
 ·go_wp2_with fail
  refine(HSd.out _ B1 trivial).mono ?_;rintro e w2 ⟨pl,r',hrun,rfl,ht⟩;have HRun:=LH hrun;have HT:=LH ht;obtain⟨F2,hA2,ht2,hg2⟩:=ht;have hb2:=hA2.blk R;have cc:=bC hb2;have zb:=lB hb2;have fc:=bF hb2;obtain⟨pc,pz⟩:=hA2.parC R hi;have kp:=ht2.keep KP.out hF;have cp:=bC kp;have zp:=lB kp;have A2:=LH hA2;have hF2:=LH (show ¬F2 pr from fun hf=>(hg2 pr hf).elim hF fun h=>by have:=lB KP.out;omega);have hsz:=HSd;clear hb2 hA2 ht2 hg2 hrun kp HSd hsz;have hSMr:=LH (hSM.out r');clear hSM;generalize hpi:L.ps.getD i 0=p at*;generalize ltrT (senL L.l x.1 r') =tx at*;by_cases hp0:p<0
  ·have hp0d:decide (p<0) =true:=by simpa using hp0
   rw [if_pos hp0] at hSMr;go_wp2_with fail
   go_end0
   refine hP1.out trivial pl r' _ HRun.out ?_;rw [hSMr.out];refine HT.out.then_ fun F1 hA1=> ?_;exact hA1.flag (st:=(m.setS i (sentS x.1,r')).st) (en:=true) rfl
  ·have hp0d:decide (p<0) =false:=by simpa using hp0
   rw [if_neg hp0] at hSMr;go_upto_region 2 with fail;refine wp_region_tail 13 (by kernel_rfl) (by kernel_rfl) ?_;simp only [List.take_succ_cons,List.take_zero,List.drop_succ_cons,List.drop_zero]
   repeat (go_big_quiet_step (fail))
   refine wpQuiet_nil ?_;intro w3 hb3;replace hb3:=bX hb3;have B3:=LH hb3;have A3:=LH (A2.out.below hb3);have HW:=LH (wave_Send w3 L.base L.gw m.wv (p,⟨tx.toArray⟩) A3.out.wave.1 hsm hits A3.out.bs);clear hb3 cc zb fc pc pz cp zp;go_wp2_with fail;refine HW.out.mono ?_;intro e w4 hp;obtain⟨rfl,hr⟩:=hp.rel;have HR4:=LH hr;clear hp hr;go_wp2_with fail
   go_end0
   refine hP1.out trivial pl r' _ HRun.out ?_;rw [hSMr.out];exact HT.out.then_ fun F1 hA1=>EpTo.from_ B3.out ((hA1.below B3.out).wave.2 _ _ HR4.out)
def OnPost (L:EpL) (m:EpM) (F:Nat→Prop) (w:World) (e:Ending) (w':World) :Prop:=e=.returned (.tuple #[])∧∃m',OnTo L.l L.ps m (orderG L.ps) m'∧EpTo w L m' F w'
theorem ep_goOn (w:World) (L:EpL) (m:EpM) (F:Nat→Prop) (T:Nat) (h:EpAt w L m F) (ok:EpOk L T m) (hT:T≤4611686018427379900) :Calls Tryz.prog 49 #[.pointer (some ⟨L.g,0,none⟩)] w (OnPost L m F w):=by
 have hR:=ok.tree;have hb0:Below w.heap.size w (w.alloc (.cells #[.pointer (some ⟨L.g,0,none⟩)] 31)):=bE;have kp:=LH (heap_alloc_new w (.cells #[.pointer (some ⟨L.g,0,none⟩)] 31));have s0: (w.alloc (.cells #[.pointer (some ⟨L.g,0,none⟩)] 31)).heap.size=w.heap.size+1:=by simp
 have H0:=LH h;have hF0:Hid (¬F w.heap.size):=LH fun hf=>by have:=h.lt _ hf;omega
 have hol:=order_len hR;have h48:=(rightG_len hR).2;have HPo:Hid (∀W,(∃m',OnTo L.l L.ps m (orderG L.ps) m'∧EpTo (w.alloc (.cells #[.pointer (some ⟨L.g,0,none⟩)] 31)) L m' F W)→OnPost L m F w (.returned (.tuple #[])) W):=LH fun W ⟨m',h1,h2⟩=>⟨rfl,m',h1,.from_ hb0 h2⟩;generalize hW0:w.alloc (.cells #[.pointer (some ⟨L.g,0,none⟩)] 31) =W0 at*
 have HE:=LH (ep_each W0 L hR 105 #[.pointer (some ⟨w.heap.size,0,none⟩)] (enters_of Tryz.func105 (by kernel_rfl) rfl)
  (fun pre W=>(∃m',OnTo L.l L.ps m pre m'∧EpTo W0 L m' F W)∧W.heap[w.heap.size]? =some (.cells #[.pointer (some ⟨L.g,0,none⟩)] 31 (0,0)))
  (fun pre W ⟨⟨m',_,F',h1,_⟩,_⟩=>⟨m',F',h1⟩) ⟨⟨m,.nil,.refl (h.below hb0)⟩,kp.out⟩ (fun pre i W hi hlt ⟨⟨m',hOn,F1,hA1,t1,g1⟩,hk⟩=>by
    have hF1: ¬F1 w.heap.size:=fun hf=>(g1 _ hf).elim hF0.out fun h=>by omega
    refine(ep_on1 W L m' F1 (T+pre.length) hA1 (ok.on hOn) (by omega) i w.heap.size hi hk hF1).mono ?_;rintro e W' ⟨rfl,m2,hs,F2,hA2,t2,g2⟩;exact⟨rfl,⟨m2,hOn.snoc hs,F2,hA2,t1.trans t2 g1,g1.trans g2 t1.size⟩,t2.keep hk hF1⟩))
 have cp:=bC kp.out;have zp:=lB kp.out;clear h ok H0 hF0 hol h48 hb0
 go_enter Tryz.func49,Tryz.ntmps49
 go_upto_region 1 with fail;clear hW0;go_wp2_with fail;refine HE.out.mono ?_;rintro e w1 ⟨rfl,hm,_⟩;have HM:=LH (HPo.out _ hm);clear hm;generalize OnPost L m F w=PP at*;go_wp2_with fail
 go_end0
 exact HM.out
def EpPost (L:EpL) (m:EpM) (F:Nat→Prop) (o:Stp) (w:World) (e:Ending) (w':World) :Prop:=∃er m',e=.returned (.int .i64 er)∧EpStep L.l L.ps m o er m'∧EpTo w L m' F w'
theorem EpPost.of {L:EpL} {m m':EpM} {F:Nat→Prop} {o:Stp} {w W:World} {er:Int} (h:EpStep L.l L.ps m o er m') (h2:EpTo w L m' F W) :EpPost L m F o w (.returned (.int .i64 er)) W:=⟨er,m',rfl,h,h2⟩
theorem EpOk.flag {L:EpL} {T:Nat} {m:EpM} (h:EpOk L T m) (b:Bool) :EpOk L T {m with st:=b}:=⟨h.tree,h.l,h.len,h.sen,h.its,h.it,h.cnt⟩
theorem ep_Start (w:World) (L:EpL) (m:EpM) (F:Nat→Prop) (T:Nat) (o:Stp) (ho:o.kd=6) (h:EpAt w L m F) (ok:EpOk L T m) (hT:T≤4611686018427379900) :Calls Tryz.prog 15 #[.pointer (some ⟨L.g,0,none⟩)] w (EpPost L m F o w):=by
 have cc:=bC h.cells;have zb:=lB h.cells;have fc:=bF h.cells;unfold runC at cc
 cases hst:m.st
 ·have HF:=LH (h.flag (o:=4) (u:=.bool true) (st:=true) (en:=m.en) (by unfold runC;rfl))
  have HG:Hid (∀W,(∃F1,EpAt W L {m with st:=true} F1∧EpTo w L {m with st:=true} F W)→Calls Tryz.prog 49 #[.pointer (some ⟨L.g,0,none⟩)] W fun e W'=>e=.returned (.tuple #[])∧EpPost L m F o w (.returned (.int .i64 0)) W'):=LH fun W hW=>by
   obtain⟨F1,hA,hT1⟩:=hW;obtain⟨F2,hA2,t2,g2⟩:=hT1;refine(ep_goOn W L {m with st:=true} F2 T hA2 (ok.flag true) hT).mono ?_;rintro e W' ⟨rfl,m',hOn,F3,hA3,t3,g3⟩;exact⟨rfl,.of (.start ho hst hOn) ⟨F3,hA3,t2.trans t3 g2,g2.trans g3 t2.size⟩⟩
  rw [hst] at cc;clear h ok hst;generalize EpPost L m F o w=PP at*
  go_enter Tryz.func15,Tryz.ntmps15
  go_wp2_with fail;refine(HG.out _ (by obtain⟨F1,h1,h2⟩:=HF.out;exact⟨F1,h1,F1,h1,h2⟩)).mono ?_;rintro e w1 ⟨rfl,hp⟩;have HP:=LH hp;clear hp;go_wp2_with fail;exact HP.out
 ·have HP:=LH (EpPost.of (o:=o) (EpStep.late (l:=L.l) (ps:=L.ps) ho hst) (EpTo.refl h))
  rw [hst] at cc;clear h ok hst;generalize EpPost L m F o w=PP at*
  go_enter Tryz.func15,Tryz.ntmps15
  go_wp2_with fail;exact HP.out
theorem ep_Lose (w:World) (L:EpL) (m:EpM) (F:Nat→Prop) (T:Nat) (o:Stp) (ho:o.kd=2) (h:EpAt w L m F) (ok:EpOk L T m) (hT:T≤4611686018427380000) :Calls Tryz.prog 75 #[.pointer (some ⟨L.g,0,none⟩),.int .i64 o.i] w (EpPost L m F o w):=by
 have HE:=LH (ep_early w L m F h);have KB:=LH h.cells;unfold runC at KB
 cases hst:m.st
 ·have HP:Hid (∀W,Below w.heap.size w W→EpPost L m F o w (.returned (.int .i64 22)) W):=LH fun W hb=>.of (.early (by omega) (by omega) (by omega) hst) (.below h hb)
  rw [hst,if_neg (by decide)] at HE;clear h ok hst;generalize EpPost L m F o w=PP at*
  go_enter Tryz.func75,Tryz.ntmps75
  go_wp2_with fail;refine(HE.out).mono ?_;rintro e w1 ⟨rfl,hb1⟩;have B1:Below w.heap.size w w1:=Below.then_ bE hb1;have s1:=B1.size;go_wp2_with fail;exact HP.out _ B1
 ·have HW:Hid (∀W,Below w.heap.size w W→Calls Tryz.prog 139 #[.pointer (some ⟨L.gw,0,none⟩),.int .i64 o.i] W fun e W'=>∃er,e=.returned (.int .i64 er)∧EpPost L m F o w (.returned (.int .i64 er)) W'):=LH fun W hb=>by
   have hA:=h.below hb;refine(wave_Lose W L.base L.gw m.wv o.i hA.wave.1 (ok.small hT) ok.its hA.bs).mono ?_;intro e W' hp;obtain⟨rfl,hr⟩:=hp.rel;exact⟨_,rfl,.of (.lose ho hst) (.from_ hb (hA.wave.2 _ _ hr))⟩
  rw [hst,if_pos rfl] at HE;clear h ok hst;generalize EpPost L m F o w=PP at*
  go_enter Tryz.func75,Tryz.ntmps75
  go_wp2_with fail;refine(HE.out).mono ?_;rintro e w1 ⟨rfl,hb1⟩;have B1:Below w.heap.size w w1:=Below.then_ bE hb1;have s1:=B1.size;have k1:=bB KB.out hb1;have cc:=bC k1;have zb:=lB k1;go_wp2_with fail;refine(HW.out _ B1).mono ?_;rintro e w2 ⟨er,rfl,hp⟩;have HP:=LH hp;clear hp;go_wp2_with fail;exact HP.out
theorem ep_Copy (w:World) (L:EpL) (m:EpM) (F:Nat→Prop) (T:Nat) (o:Stp) (ho:o.kd=3) (h:EpAt w L m F) (ok:EpOk L T m) (hT:T≤4611686018427380000) :Calls Tryz.prog 17 #[.pointer (some ⟨L.g,0,none⟩),.int .i64 o.i] w (EpPost L m F o w):=by
 have HE:=LH (ep_early w L m F h);have KB:=LH h.cells;unfold runC at KB
 cases hst:m.st
 ·have HP:Hid (∀W,Below w.heap.size w W→EpPost L m F o w (.returned (.int .i64 22)) W):=LH fun W hb=>.of (.early (by omega) (by omega) (by omega) hst) (.below h hb)
  rw [hst,if_neg (by decide)] at HE;clear h ok hst;generalize EpPost L m F o w=PP at*
  go_enter Tryz.func17,Tryz.ntmps17
  go_wp2_with fail;refine(HE.out).mono ?_;rintro e w1 ⟨rfl,hb1⟩;have B1:Below w.heap.size w w1:=Below.then_ bE hb1;have s1:=B1.size;go_wp2_with fail;exact HP.out _ B1
 ·have HW:Hid (∀W,Below w.heap.size w W→Calls Tryz.prog 52 #[.pointer (some ⟨L.gw,0,none⟩),.int .i64 o.i] W fun e W'=>∃er,e=.returned (.int .i64 er)∧EpPost L m F o w (.returned (.int .i64 er)) W'):=LH fun W hb=>by
   have hA:=h.below hb;refine(wave_Copy W L.base L.gw m.wv o.i hA.wave.1 (ok.small hT) ok.its hA.bs).mono ?_;intro e W' hp;obtain⟨rfl,hr⟩:=hp.rel;exact⟨_,rfl,.of (.copy ho hst) (.from_ hb (hA.wave.2 _ _ hr))⟩
  rw [hst,if_pos rfl] at HE;clear h ok hst;generalize EpPost L m F o w=PP at*
  go_enter Tryz.func17,Tryz.ntmps17
  go_wp2_with fail;refine(HE.out).mono ?_;rintro e w1 ⟨rfl,hb1⟩;have B1:Below w.heap.size w w1:=Below.then_ bE hb1;have s1:=B1.size;have k1:=bB KB.out hb1;have cc:=bC k1;have zb:=lB k1;go_wp2_with fail;refine(HW.out _ B1).mono ?_;rintro e w2 ⟨er,rfl,hp⟩;have HP:=LH hp;clear hp;go_wp2_with fail;exact HP.out
theorem ep_Spoil (w:World) (L:EpL) (m:EpM) (F:Nat→Prop) (T:Nat) (o:Stp) (ho:o.kd=4) (hby:0≤o.by_∧o.by_≤255) (h:EpAt w L m F) (ok:EpOk L T m) (hT:T≤4611686018427380000) :Calls Tryz.prog 76 #[.pointer (some ⟨L.g,0,none⟩),.int .i64 o.i,.int .i64 o.at_,.int .u8 o.by_] w (EpPost L m F o w):=by
 have HE:=LH (ep_early w L m F h);have KB:=LH h.cells;unfold runC at KB
 cases hst:m.st
 ·have HP:Hid (∀W,Below w.heap.size w W→EpPost L m F o w (.returned (.int .i64 22)) W):=LH fun W hb=>.of (.early (by omega) (by omega) (by omega) hst) (.below h hb)
  rw [hst,if_neg (by decide)] at HE;clear h ok hst;generalize EpPost L m F o w=PP at*
  go_enter Tryz.func76,Tryz.ntmps76
  go_wp2_with fail;refine(HE.out).mono ?_;rintro e w1 ⟨rfl,hb1⟩;have B1:Below w.heap.size w w1:=Below.then_ bE hb1;have s1:=B1.size;go_wp2_with fail;exact HP.out _ B1
 ·have HW:Hid (∀W,Below w.heap.size w W→Calls Tryz.prog 140 #[.pointer (some ⟨L.gw,0,none⟩),.int .i64 o.i,.int .i64 o.at_,.int .u8 o.by_] W fun e W'=>∃er,e=.returned (.int .i64 er)∧EpPost L m F o w (.returned (.int .i64 er)) W'):=LH fun W hb=>by
   have hA:=h.below hb;refine(wave_Spoil W L.base L.gw m.wv o.i o.at_ o.by_ hA.wave.1 (ok.small hT) hA.bs (fun x hx=>by have:=(ok.it x hx).2.2;unfold maxLen;omega) hby).mono ?_;intro e W' hp;obtain⟨rfl,hr⟩:=hp.rel;exact⟨_,rfl,.of (.spoil ho hst) (.from_ hb (hA.wave.2 _ _ hr))⟩
  rw [hst,if_pos rfl] at HE;clear h ok hst;generalize EpPost L m F o w=PP at*
  go_enter Tryz.func76,Tryz.ntmps76
  go_wp2_with fail;refine(HE.out).mono ?_;rintro e w1 ⟨rfl,hb1⟩;have B1:Below w.heap.size w w1:=Below.then_ bE hb1;have s1:=B1.size;have k1:=bB KB.out hb1;have cc:=bC k1;have zb:=lB k1;go_wp2_with fail;refine(HW.out _ B1).mono ?_;rintro e w2 ⟨er,rfl,hp⟩;have HP:=LH hp;clear hp;go_wp2_with fail;exact HP.out
theorem EpOk.setS {L:EpL} {T:Nat} {m:EpM} (h:EpOk L T m) (i:Nat) {x:SR} (hx:SrOk L.l x) :EpOk L T (m.setS i x):=
 ⟨h.tree,h.l,by simpa [EpM.setS] using h.len,fun y hy=>by
  rcases List.mem_or_eq_of_mem_set hy with hy|rfl
  ·exact h.sen y hy
  ·exact hx,h.its,h.it,h.cnt⟩
theorem EpOk.wvTake {L:EpL} {T:Nat} {m:EpM} (h:EpOk L T m) (i:Int) :EpOk L (T+1) {m with wv:=m.wv.take i}:=by
 have:=h.wvOk.take i;exact⟨h.tree,h.l,h.len,h.sen,this.its,this.it,this.cnt⟩
def HearsOk (L:EpL) (m:EpM) (i:Int) :Prop:=∀(q j:Nat) (y:It) (x:SR) (s':Sen) (r':List Nd),i= (q:Int)→m.wv.items[q]? =some y→y.1= (j:Int)→m.ss[j]? =some x→HearTo L.l x.1 x.2 y.2.data.toList s' r'→SrOk L.l (s',r')
theorem ep_Deliver (w:World) (L:EpL) (m:EpM) (F:Nat→Prop) (T:Nat) (o:Stp) (ho:o.kd=1) (h:EpAt w L m F) (ok:EpOk L T m) (hT:T≤4611686018427379800) (hL: ∀x∈m.ss,lightOf L.l x.2 x.1.k=true) (hH:HearsOk L m o.i) :
 Calls Tryz.prog 18 #[.pointer (some ⟨L.g,0,none⟩),.int .i64 o.i] w (EpPost L m F o w):=by
 have HE:=LH (ep_early w L m F h)
 cases hst:m.st
 ·have HP:Hid (∀W,Below w.heap.size w W→EpPost L m F o w (.returned (.int .i64 22)) W):=LH fun W hb=>.of (.early (by omega) (by omega) (by omega) hst) (.below h hb)
  rw [hst,if_neg (by decide)] at HE;clear h ok hst hL hH;generalize EpPost L m F o w=PP at*
  go_enter Tryz.func18,Tryz.ntmps18
  go_wp2_with fail;refine(HE.out).mono ?_;rintro e w1 ⟨rfl,hb1⟩;have B1:Below w.heap.size w w1:=Below.then_ bE hb1;have s1:=B1.size;go_wp2_with fail;exact HP.out _ B1
 ·rw [hst,if_pos rfl] at HE
  have hR:=ok.tree;obtain⟨N,R⟩:=h.rd hR;have hn:=(rightG_len hR).2;have KB:=LH (h.blk R)
  cases hh:m.wv.has o.i
  ·have et:m.wv.take o.i=m.wv:=by unfold WS.take;rw [if_neg (by rw [hh];decide)]
   have ea:m.wv.at_ o.i= (0,⟨#[]⟩,false):=by unfold WS.at_;rw [if_neg (by rw [hh];decide)]
   have HW:Hid (∀W,Below w.heap.size w W→Calls Tryz.prog 53 #[.pointer (some ⟨L.gw,0,none⟩),.int .i64 o.i] W fun e W'=>e=.returned (.tuple #[.int .i64 0,.string ⟨#[]⟩,.bool false])∧EpPost L m F o w (.returned (.int .i64 2)) W'):=LH fun W hb=>by
    have hA:=h.below hb;refine(wave_Take W L.base L.gw m.wv o.i hA.wave.1 (ok.small (by omega)) ok.its hA.bs).mono ?_;intro e W' hp;obtain⟨rfl,hr⟩:=hp.rel;rw [et] at hr;rw [ea];exact⟨rfl,.of (.take_no ho hst hh) (.from_ hb (hA.wave.2 _ _ hr))⟩
   clear h ok hst hL hH hh et ea R;generalize EpPost L m F o w=PP at*
   go_enter Tryz.func18,Tryz.ntmps18
   go_wp2_with fail;refine(HE.out).mono ?_;rintro e w1 ⟨rfl,hb1⟩;have B1:Below w.heap.size w w1:=Below.then_ bE hb1;have s1:=B1.size;have k1:=bB KB.out hb1;have cc:=bC k1;have zb:=lB k1;go_wp2_with fail;refine(HW.out _ B1).mono ?_;rintro e w2 ⟨rfl,hp⟩;have HP:=LH hp;clear hp;go_wp2_with fail;exact HP.out
  ·obtain⟨q,hq,hql⟩:=WS.has_tt hh
   obtain⟨y,hy⟩ : ∃y,m.wv.items[q]? =some y:=⟨_,List.getElem?_eq_getElem hql⟩;have hyo:=ok.it y (List.mem_of_getElem? hy);obtain⟨j,hj⟩:=Int.eq_ofNat_of_zero_le hyo.1;have hjn:j<L.ps.length:=by have:=hyo.2.1;omega
   obtain⟨x,hx⟩:=h.at_ hjn
   have ea:m.wv.at_ o.i= (y.1,y.2,true):=by
    unfold WS.at_;rw [if_pos hh,hq,Int.toNat_natCast,List.getD_eq_getElem?_getD,hy]
    rfl
   have eS: (⟨y.2.data.toList.toArray⟩ :ByteArray) =y.2:=by cases y with|mk a b=>cases b;simp
   have hxo:=ok.sen x (List.mem_of_getElem? hx)
   have HW:Hid (∀W,Below w.heap.size w W→Calls Tryz.prog 53 #[.pointer (some ⟨L.gw,0,none⟩),.int .i64 o.i] W fun e W'=>e=.returned (.tuple #[.int .i64 j,.string y.2,.bool true])∧∃F1,EpAt W' L {m with wv:=m.wv.take q} F1∧Turn F w W'∧Grow w F F1):=LH fun W hb=>by
    have hA:=h.below hb;refine(wave_Take W L.base L.gw m.wv o.i hA.wave.1 (ok.small (by omega)) ok.its hA.bs).mono ?_;intro e W' hp;obtain⟨rfl,hr⟩:=hp.rel;rw [hq] at hr;rw [ea,←hj];exact⟨rfl,EpTo.from_ hb (hA.wave.2 _ _ hr)⟩
   have HHr:Hid (∀W F1,EpAt W L {m with wv:=m.wv.take q} F1→Calls Tryz.prog 54 #[.pointer (some ⟨L.gs.getD j 0,0,none⟩),.string y.2] W fun e W'=>e=.returned (.int .i64 (hearE L.l x.1 x.2 y.2.data.toList))∧∃s' r',HearTo L.l x.1 x.2 y.2.data.toList s' r'∧∃F2,EpAt W' L (({m with wv:=m.wv.take q} :EpM).setS j (s',r')) F2∧Turn F1 W W'∧Grow W F1 F2):=LH fun W F1 hA=>by
    obtain⟨Fi,h1,_,h2⟩:=hA.sens (i:=j) (x:=x) hx;have hsz:=hyo.2.2;have hle:y.2.data.toList.length≤8000000:=by rw [Array.length_toList];exact Nat.le_trans hsz (by decide)
    have:=sensor_Hear W _ _ _ _ _ _ y.2.data.toList h1 hxo.ok (hL x (List.mem_of_getElem? hx)) (by have:=hxo.len;omega) hle (right_lt hxo.ok.h) (right_lt hxo.ok.c) (decL_crew _);rw [eS] at this;refine this.mono ?_;rintro e W' ⟨rfl,s',r',ht,hh2⟩;exact⟨rfl,s',r',hh2,h2 _ _ _ ht⟩
   have HG:Hid (∀W F2 s' r',HearTo L.l x.1 x.2 y.2.data.toList s' r'→EpAt W L (({m with wv:=m.wv.take q} :EpM).setS j (s',r')) F2→Turn F w W→Grow w F F2→Calls Tryz.prog 49 #[.pointer (some ⟨L.g,0,none⟩)] W fun e W'=>e=.returned (.tuple #[])∧EpPost L m F o w (.returned (.int .i64 (hearE L.l x.1 x.2 y.2.data.toList))) W'):=LH fun W F2 s' r' hh2 hA t2 g2=>by
    refine(ep_goOn W L _ F2 (T+1) hA ((ok.wvTake q).setS j (hH q j y x s' r' hq hy hj hx hh2)) (by omega)).mono ?_;rintro e W' ⟨rfl,m',hOn,F3,hA3,t3,g3⟩;exact⟨rfl,.of (.take ho hst hq hy hj hx hh2 hOn) ⟨F3,hA3,t2.trans t3 g2,g2.trans g3 t2.size⟩⟩
   have HR2:=LH (fun W F1 (hA:EpAt W L {m with wv:=m.wv.take q} F1)=>And.intro (hA.blk R) (hA.senC R hjn));clear h ok hst hL hH hh ea R hR hxo hyo hx hy hj eS hql hq;generalize hearE L.l x.1 x.2 y.2.data.toList=er at*;generalize EpPost L m F o w=PP at*;generalize L.gs.getD j 0=gj at*;generalize y.2=tx at*;generalize L.ps.length=n at*
   go_enter Tryz.func18,Tryz.ntmps18
   go_wp2_with fail;refine(HE.out).mono ?_;rintro e w1 ⟨rfl,hb1⟩;have B1:Below w.heap.size w w1:=Below.then_ bE hb1;have s1:=B1.size;have k1:=bB KB.out hb1;have cc:=bC k1;have zb:=lB k1;go_wp2_with fail;refine(HW.out _ B1).mono ?_;rintro e w2 ⟨rfl,F1,hA1,t1,g1⟩;obtain⟨k2,sc,sz⟩:=HR2.out _ _ hA1;have A1:=LH hA1;have T1:=LH t1;have G1:=LH g1;clear cc zb k1 hA1 t1 g1;have cc:=bC k2;have zb:=lB k2;clear k2;go_wp2_with fail;refine(HHr.out _ _ A1.out).mono ?_;rintro e w3 ⟨rfl,s',r',hh2,F2,hA2,t2,g2⟩;have A2:=LH hA2;have HH2:=LH hh2;have T2:=LH (T1.out.trans t2 G1.out);have G2:=LH (G1.out.trans g2 T1.out.size);clear cc zb sc sz hA2 hh2 t2 g2;go_wp2_with fail;refine(HG.out _ _ _ _ HH2.out A2.out T2.out G2.out).mono ?_;rintro e w4 ⟨rfl,hp⟩;have HP:=LH hp;clear hp;go_wp2_with fail;exact HP.out
theorem modify_set {f:SR→SR} {l:List SR} {i:Nat} {x:SR} (h:l[i]? =some x) :l.modify i f=l.set i (f x):=by
 apply List.ext_getElem?
 intro j;have hi:=(List.getElem?_eq_some_iff.1 h).1;rw [List.getElem?_modify];by_cases e:i=j
 ·subst e
  rw [List.getElem?_set_self hi,h];simp
 ·rw [List.getElem?_set_ne e]
  simp [e]
theorem mapAt_prop {f:SR→SR} {p:SR→Prop} (hf: ∀x,p x→p (f x)) : ∀(pre:List Nat) (ss:List SR),(∀x∈ss,p x)→∀x∈mapAt f pre ss,p x
 | [],ss,h,x,hx=>h x hx
 |i :: pre,ss,h,x,hx=>by
  refine mapAt_prop hf pre (ss.modify i f) (fun y hy=> ?_) x hx;obtain⟨j,hj⟩:=List.getElem?_of_mem hy;rw [List.getElem?_modify] at hj;by_cases e:i=j
  ·subst e
   simp only [if_true] at hj
   cases hz:ss[i]? with
   |none=>rw [hz] at hj;simp at hj
   |some z=>
    rw [hz] at hj;simp at hj
    subst hj;exact hf z (h z (List.mem_of_getElem? hz))
  ·simp only [e,if_false] at hj
   cases hz:ss[j]? with
   |none=>rw [hz] at hj;simp at hj
   |some z=>
    rw [hz] at hj;simp at hj
    subst hj;exact h z (List.mem_of_getElem? hz)
theorem ep_tick1 (w:World) (L:EpL) (m:EpM) (F:Nat→Prop) (h:EpAt w L m F) (i:Nat) (x:SR) (hx:m.ss[i]? =some x) (ho:SenOk x.1) :
 Calls Tryz.prog 64 #[.int .i64 i,.pointer (some ⟨L.gs.getD i 0,0,none⟩)] w fun e w'=>e=.returned (.tuple #[])∧EpTo w L (m.setS i (tickSR x)) F w':=by
 obtain⟨Fi,h1,_,h2⟩:=h.sens hx;have h3:=ho.wait;have h4:=ho.t1;have HT:=LH (sensor_Tick w _ _ _ _ _ _ h1 (by omega) ho.t0);have H2:=LH h2;clear h hx ho h1 h2 h3 h4;generalize L.gs.getD i 0=gi at*
 go_enter Tryz.func64,Tryz.ntmps64
 go_wp2_with fail;refine HT.out.mono ?_;rintro e w1 ⟨rfl,ht⟩;have HF:=LH (H2.out _ _ _ ht);clear ht;go_wp2_with fail
 go_end0
 exact⟨rfl,HF.out⟩
theorem ep_next1 (w:World) (L:EpL) (m:EpM) (F:Nat→Prop) (h:EpAt w L m F) (i:Nat) (x:SR) (hx:m.ss[i]? =some x) (ho:SenOk x.1) :
 Calls Tryz.prog 67 #[.int .i64 i,.pointer (some ⟨L.gs.getD i 0,0,none⟩)] w fun e w'=>e=.returned (.tuple #[])∧EpTo w L (m.setS i (nextSR x)) F w':=by
 obtain⟨Fi,h1,_,h2⟩:=h.sens hx
 have HT:Hid (Calls Tryz.prog 68 #[.pointer (some ⟨L.gs.getD i 0,0,none⟩)] w fun e w'=>(∃er,e=.returned (.int .i64 er))∧EpTo w L (m.setS i (nextSR x)) F w'):=LH ((sensor_Next w _ _ _ _ _ _ h1 ho).mono (by
  rintro e w' (⟨he,rfl,hb⟩ | ⟨he,rfl,ht⟩)
  ·have e1:nextSR x=x:=by unfold nextSR nextS nextR;rw [if_pos he,if_pos he]
   rw [e1,EpM.set_same hx];exact⟨⟨_,rfl⟩,.below h hb⟩
  ·have e1:nextSR x= (senNew x.1.l x.1.k x.1.kd x.1.p (x.1.ep+1), []):=by unfold nextSR nextS nextR;rw [if_neg he,if_neg he]
   rw [e1];exact⟨⟨_,rfl⟩,h2 _ _ _ ht⟩))
 clear h hx ho h1 h2;generalize L.gs.getD i 0=gi at*
 go_enter Tryz.func67,Tryz.ntmps67
 go_wp2_with fail;refine HT.out.mono ?_;rintro e w1 ⟨⟨er,rfl⟩,ht⟩;have HF:=LH ht;clear ht;go_wp2_with fail
 go_end0
 exact⟨rfl,HF.out⟩
theorem SenOk.nextS {s:Sen} (h:SenOk s) :SenOk (nextS s):=by
 unfold Go.Proofs.YtmdidmclfbfmiaaGreatDoor.nextS
 split
 ·exact h
 ·rename_i he
  exact h.next he
theorem ep_eachF (w:World) (L:EpL) (m:EpM) (F:Nat→Prop) (h:EpAt w L m F) (hR:rightG L.ps=true) (fn:Nat) (eg: ∀args W,(callFunc fn args).run Tryz.prog W=.ok (.enter fn args) W) (f:SR→SR) (hf: ∀x,SenOk x.1→SenOk (f x).1) (ho: ∀x∈m.ss,SenOk x.1)
 (step: ∀(W:World) (m':EpM) (F':Nat→Prop) (i:Nat) (x:SR),EpAt W L m' F'→m'.ss[i]? =some x→SenOk x.1→Calls Tryz.prog fn #[.int .i64 i,.pointer (some ⟨L.gs.getD i 0,0,none⟩)] W fun e W'=>e=.returned (.tuple #[])∧EpTo W L (m'.setS i (f x)) F' W') :
 Calls Tryz.prog 63 #[.pointer (some ⟨L.g,0,none⟩),.func (.func fn) #[] #[]] w fun e w'=>e=.returned (.tuple #[])∧EpTo w L {m with ss:=m.ss.map f} F w':=by
 refine(ep_each w L hR fn #[] eg (fun pre W=>EpTo w L {m with ss:=mapAt f pre m.ss} F W) (fun pre W ⟨F',h1,_⟩=>⟨_,F',h1⟩) (.refl h) (fun pre i W hi _ ⟨F1,hA1,t1,g1⟩=> ?_)).mono ?_
 ·obtain⟨x,hx⟩:=hA1.at_ hi
  refine(step W _ F1 i x hA1 hx (mapAt_prop (p:=fun x=>SenOk x.1) hf pre m.ss ho x (List.mem_of_getElem? hx))).mono ?_;rintro e W' ⟨rfl,F2,hA2,t2,g2⟩;refine⟨rfl,F2,?_,t1.trans t2 g1,g1.trans g2 t1.size⟩;have hx': (mapAt f pre m.ss)[i]? =some x:=hx;rw [mapAt_snoc,modify_set hx'];exact hA2
 ·rintro e w' ⟨rfl,ht⟩
  rw [mapAt_all (order_nodup hR) (fun j hj=>(order_mem hR).2 (by rw [←h.lens.2];exact hj))] at ht;exact⟨rfl,ht⟩
theorem EpOk.tick {L:EpL} {T:Nat} {m:EpM} (h:EpOk L T m) :EpOk L T {m with ss:=m.ss.map tickSR}:=
 ⟨h.tree,h.l,by simpa using h.len,fun x hx=>by
  obtain⟨y,hy,rfl⟩:=List.mem_map.1 hx;have:=h.sen y hy;exact⟨this.ok.tick,this.len,this.fits,by show 1≤(tickedS y.1).k∧(tickedS y.1).k≤_;rw [(tick_same y.1).2.1];exact this.k⟩,h.its,h.it,h.cnt⟩
theorem ep_Tick (w:World) (L:EpL) (m:EpM) (F:Nat→Prop) (T:Nat) (o:Stp) (ho:o.kd≠0∧o.kd≠1∧o.kd≠2∧o.kd≠3∧o.kd≠4∧o.kd≠6∧o.kd≠7) (h:EpAt w L m F) (ok:EpOk L T m) (hT:T≤4611686018427379900) :Calls Tryz.prog 24 #[.pointer (some ⟨L.g,0,none⟩)] w (EpPost L m F o w):=by
 have HE:=LH (ep_early w L m F h)
 cases hst:m.st
 ·have HP:Hid (∀W,Below w.heap.size w W→EpPost L m F o w (.returned (.int .i64 22)) W):=LH fun W hb=>.of (.early ho.1 (by omega) (by omega) hst) (.below h hb)
  rw [hst,if_neg (by decide)] at HE;clear h ok hst ho;generalize EpPost L m F o w=PP at*
  go_enter Tryz.func24,Tryz.ntmps24
  go_wp2_with fail;refine(HE.out).mono ?_;rintro e w1 ⟨rfl,hb1⟩;have B1:Below w.heap.size w w1:=Below.then_ bE hb1;have s1:=B1.size;go_wp2_with fail;exact HP.out _ B1
 ·rw [hst,if_pos rfl] at HE
  have HEa:Hid (∀W,Below w.heap.size w W→Calls Tryz.prog 63 #[.pointer (some ⟨L.g,0,none⟩),.func (.func 64) #[] #[]] W fun e W'=>e=.returned (.tuple #[])∧EpTo w L {m with ss:=m.ss.map tickSR} F W'):=LH fun W hb=>
   (ep_eachF W L m F (h.below hb) ok.tree 64 (enters_of Tryz.func64 (by kernel_rfl) rfl) tickSR (fun x hx=>hx.tick) (fun x hx=>(ok.sen x hx).ok) (fun W m' F' i x h1 h2 h3=>ep_tick1 W L m' F' h1 i x h2 h3)).mono fun e W' ⟨he,ht⟩=>⟨he,.from_ hb ht⟩
  have HG:Hid (∀W,EpTo w L {m with ss:=m.ss.map tickSR} F W→Calls Tryz.prog 49 #[.pointer (some ⟨L.g,0,none⟩)] W fun e W'=>e=.returned (.tuple #[])∧EpPost L m F o w (.returned (.int .i64 0)) W'):=LH fun W ⟨F2,hA,t2,g2⟩=>by
   refine(ep_goOn W L _ F2 T hA ok.tick hT).mono ?_;rintro e W' ⟨rfl,m',hOn,F3,hA3,t3,g3⟩;exact⟨rfl,.of (.tick ho hst hOn) ⟨F3,hA3,t2.trans t3 g2,g2.trans g3 t2.size⟩⟩
  clear h ok hst ho;generalize EpPost L m F o w=PP at*
  go_enter Tryz.func24,Tryz.ntmps24
  go_wp2_with fail;refine(HE.out).mono ?_;rintro e w1 ⟨rfl,hb1⟩;have B1:Below w.heap.size w w1:=Below.then_ bE hb1;have s1:=B1.size;go_wp2_with fail;refine(HEa.out _ B1).mono ?_;rintro e w2 ⟨rfl,ht⟩;have HT:=LH ht;clear ht;go_wp2_with fail;refine(HG.out _ HT.out).mono ?_;rintro e w3 ⟨rfl,hp⟩;have HP:=LH hp;clear hp;go_wp2_with fail;exact HP.out
theorem ep_Next (w:World) (L:EpL) (m:EpM) (F:Nat→Prop) (T:Nat) (o:Stp) (ho:o.kd=7) (h:EpAt w L m F) (ok:EpOk L T m) :Calls Tryz.prog 26 #[.pointer (some ⟨L.g,0,none⟩)] w (EpPost L m F o w):=by
 have cc:=bC h.cells;have zb:=lB h.cells;unfold runC at cc
 cases hen:m.en
 ·have HP:Hid (EpPost L m F o w (.returned (.int .i64 22)) w):=LH (.of (.next_no ho hen) (.refl h))
  rw [hen] at cc;clear h ok hen;generalize EpPost L m F o w=PP at*
  go_enter Tryz.func26,Tryz.ntmps26
  go_wp2_with fail;exact HP.out
 ·have HN:=LH (ep_Number w L m F h ok.tree)
  rw [hen] at cc;by_cases hE:m.E=1099511627776
  ·have HP:Hid (∀W,Below w.heap.size w W→EpPost L m F o w (.returned (.int .i64 21)) W):=LH fun W hb=>.of (.limit ho hen hE) (.below h hb)
   have hEd: (m.E == 1099511627776) =true:=by simpa using hE
   clear h ok hen hE;generalize EpPost L m F o w=PP at*;generalize m.E=E at*
   go_enter Tryz.func26,Tryz.ntmps26
   go_wp2_with fail;refine(HN.out).mono ?_;rintro e w1 ⟨rfl,hb1⟩;have B1:Below w.heap.size w w1:=Below.then_ bE hb1;have s1:=B1.size;go_wp2_with fail;exact HP.out _ B1
  ·have hEd: (m.E == 1099511627776) =false:=by simpa using hE
   have HEa:Hid (∀W,Below w.heap.size w W→Calls Tryz.prog 63 #[.pointer (some ⟨L.g,0,none⟩),.func (.func 67) #[] #[]] W fun e W'=>e=.returned (.tuple #[])∧EpTo w L {m with ss:=m.ss.map nextSR} F W'):=LH fun W hb=>
    (ep_eachF W L m F (h.below hb) ok.tree 67 (enters_of Tryz.func67 (by kernel_rfl) rfl) nextSR (fun x hx=>hx.nextS) (fun x hx=>(ok.sen x hx).ok) (fun W m' F' i x h1 h2 h3=>ep_next1 W L m' F' h1 i x h2 h3)).mono fun e W' ⟨he,ht⟩=>⟨he,.from_ hb ht⟩
   have HP:Hid (∀W,EpTo w L {m with ss:=m.ss.map nextSR} F W→EpPost L m F o w (.returned (.int .i64 0)) ((W.setCell ⟨L.g,4,none⟩ (.bool false)).setCell ⟨L.g,5,none⟩ (.bool false))):=LH fun W ht=>
    .of (.next ho hen hE) ((ht.then_ fun F1 hA=>hA.flag (o:=4) (u:=.bool false) (st:=false) (en:=m.en) rfl).then_ fun F1 hA=>hA.flag (o:=5) (u:=.bool false) (st:=false) (en:=false) rfl)
   have HC:=LH (fun W (ht:EpTo w L {m with ss:=m.ss.map nextSR} F W)=>ht.cells);unfold runC at HC;clear h ok hen hE;generalize EpPost L m F o w=PP at*;generalize m.E=E at*
   go_enter Tryz.func26,Tryz.ntmps26
   go_wp2_with fail;refine(HN.out).mono ?_;rintro e w1 ⟨rfl,hb1⟩;have B1:Below w.heap.size w w1:=Below.then_ bE hb1;have s1:=B1.size;go_wp2_with fail;refine(HEa.out _ B1).mono ?_;rintro e w2 ⟨rfl,ht⟩;have HT:=LH ht;have hc2:=HC.out _ ht;clear ht cc zb;have cc:=bC hc2;have zb:=lB hc2;have fc:=bF hc2;clear hc2;go_wp2_with fail;exact HP.out _ HT.out
theorem order_end {ps:List Int} (h:rightG ps=true) : ∃hl:ps.length - 1< (orderG ps).length,(orderG ps)[ps.length - 1] =rootG ps:=by
 obtain⟨l,hl⟩:=order_last (ps:=ps);have h1:=order_len h;have h2:=(rightG_len h).1;have h3:l.length=ps.length - 1:=by rw [hl] at h1;simp at h1;omega
 refine⟨by omega,?_⟩;have: (orderG ps)[ps.length - 1]? =some (rootG ps):=by rw [hl,←h3];simp
 exact(List.getElem?_eq_some_iff.1 this).2
def ResPost (K l:Nat) (x:SR) (w:World) (e:Ending) (w':World) :Prop:=∃g' F',e=.returned (.tuple #[.pointer (some ⟨g',0,none⟩),.int .u64 x.1.cover,.int .i64 0])∧DigAt w' g' K l x.1.k x.2 F'∧(∀b,F' b→w.heap.size≤b)∧Below w.heap.size w w'
theorem ep_Result (w:World) (L:EpL) (m:EpM) (F:Nat→Prop) (x:SR) (h:EpAt w L m F) (hR:rightG L.ps=true) (he:m.en=true) (hx:m.ss[rootG L.ps]? =some x) :Calls Tryz.prog 19 #[.pointer (some ⟨L.g,0,none⟩)] w (ResPost L.K L.l x w):=by
 obtain⟨N,R⟩:=h.rd hR;have hn:=rightG_len hR;have hri:rootG L.ps<L.ps.length:=by rw [←h.lens.2];exact(List.getElem?_eq_some_iff.1 hx).1
 have HB:=LH (h.blk R);obtain⟨hl,hroot⟩:=order_end hR;have HO:=LH (h.ordC R hl);rw [hroot] at HO;have HS:=LH (h.senC R hri);obtain⟨Fi,h1,_⟩:=h.sens hx;have HD:=LH (fun W (hb:Below w.heap.size w W)=>sensor_Digest W _ _ _ _ _ _ (h1.below hb));have HC:=LH (fun W (hb:Below w.heap.size w W)=>sensor_CoverS W _ _ _ _ _ _ (h1.below hb));rw [he] at HB;unfold ResPost;clear h hR R hl hroot h1 hx he;generalize rootG L.ps=rt at*;generalize L.gs.getD rt 0=gr at*;obtain⟨n1,hn1⟩ : ∃n1,L.ps.length=n1+1:=⟨L.ps.length - 1,by omega⟩;rw [hn1] at HO HB hn hri;rw [Nat.add_sub_cancel] at HO;have cc:=bC HB.out;have zb:=lB HB.out;obtain⟨oc,oz⟩:=HO.out;obtain⟨sc,sz⟩:=HS.out;have hw1: ((n1+1:Nat) :Int) - 1= (n1:Int):=by omega
 clear hn1
 go_enter Tryz.func19,Tryz.ntmps19
 go_upto_region 5 with fail;refine rX (by kernel_rfl) (by kernel_rfl) ?_
 repeat (go_big_quiet_step (fail))
 refine wpQuiet_nil ?_;intro w1 hb1;replace hb1:=bX hb1;have B1:Below w.heap.size w w1:=Below.then_ bE hb1;have s1:=B1.size;clear cc oc sc;go_wp2_with fail;refine(HD.out _ B1).mono ?_;rintro e w2 ⟨g',F',rfl,hd,hF,hb2⟩;have D2:=LH hd;have F2:=LH (fun b hb=>Nat.le_trans s1 (hF b hb));have B2:=LH (Below.then_ B1 hb2);clear hd hF hb2;go_wp2_with fail;refine(HC.out _ B2.out).mono ?_;rintro e w3 ⟨rfl,hb3⟩;have D3:=LH (D2.out.below hb3);have B3:=LH (Below.then_ B2.out hb3);clear hb3;go_wp2_with fail;exact bR (v:=.tuple #[.pointer (some ⟨g',0,none⟩),.int .u64 x.1.cover,.int .i64 0]) (by simp only [results,Tryz.results19];go_simp) rfl ⟨g',F',rfl,D3.out,F2.out,B3.out⟩
def lenOf:Value→Nat
 | .slice _ n _=>n
 |_=>0
def UpPost (ps:List Int) (i:Nat) (w:World) (e:Ending) (w':World) :Prop:=
 ∃v,e=.returned (.tuple #[v,.bool (upR ps ps.length i).isSome])∧Own w' w.heap.size 3 encZ v (natZ ((upR ps ps.length i).getD []))∧Below w.heap.size w w'
theorem up_step {ps:List Int} {m cur:Nat} (h:cur<ps.length) :upR ps (m+1) cur=if ps[cur] = -1 then some [cur] else if ps[cur] <0∨(ps.length:Int)≤ps[cur] then none else (upR ps m (ps[cur]).toNat).map (cur :: ·):=by
 rw [show upR ps (m+1) cur= (if ps[cur]? =some (-1) then some [cur] else if (ps.getD cur 0) <0∨(ps.length:Int)≤ps.getD cur 0 then none else (upR ps m (ps.getD cur 0).toNat).map (cur :: ·)) from rfl,getG_at h,List.getElem?_eq_getElem h];simp
theorem grove_up (w:World) (A:Option Addr) (cap:Nat) (ps:List Int) (i:Nat) (hS:Sl w w.heap.size encZ A ps) (hi:i<ps.length) (hn:ps.length≤48) :Calls Tryz.prog 234 #[.slice A ps.length cap,.int .i64 i] w (UpPost ps i w):=by
 have HS:=LH hS;have HP:Hid (∀W v,Own W w.heap.size 3 encZ v (natZ ((upR ps ps.length i).getD []))→Below w.heap.size w W→UpPost ps i w (.returned (.tuple #[v,.bool (upR ps ps.length i).isSome])) W):=LH fun W v h1 h2=>⟨v,rfl,h1,h2⟩;obtain⟨R,hR⟩ : ∃R,R=upR ps ps.length i:=⟨_,rfl⟩;rw [←hR] at HP;have HR:=LH hR.symm;obtain⟨n,hnn⟩ : ∃n,n=ps.length:=⟨_,rfl⟩;have HN:=LH hnn;clear hS hR;rw [←hnn] at hi hn HR⊢;clear hnn;generalize UpPost ps i w=PP at HP⊢
 go_enter Tryz.func234,Tryz.ntmps234
 go_wp2_with fail
 go_step3
 go_wp2_with fail
 go_step3
 go_wp2_with fail
 go_loopw [1,6] (fun a v wr=>∃(cur:Nat) (L:List Nat) (B:Option Addr) (c:Nat),a=.int .i64 cur∧v=.slice B L.length c∧cur<n∧Own wr w.heap.size 3 encZ v (natZ L)∧L.length≤n∧Below w.heap.size w wr∧Hid ((upR ps (n - L.length) cur).map (L ++ ·) =R)) (fun _ v _=>n+1 - lenOf v)
 case atStart=>exact⟨i, [],none,0,rfl,rfl,hi,Own.nil _ _ _ _,Nat.zero_le _,Below.refl _ _,LH (by rw [←HR.out];simp)⟩
 case round=>
  obtain⟨cur,L,B,c,rfl,rfl,hc,hown,hL,hb,hE⟩:=hrel;have KO:=LH hown;have KB:=LH hb;clear hown hb;have hsz:=KB.out.size;by_cases hfull:L.length=n
  ·have hd: ((L.length:Int) == (n:Int)) =true:=by simp [hfull]
   have hR0:R=none:=by rw [←hE.out,hfull,Nat.sub_self];rfl
   clear hfull;subst hR0;go_wp2_with fail;exact HP.out _ (.slice none 0 0) (Own.nil _ _ _ _) KB.out
  ·have hd: ((L.length:Int) == (n:Int)) =false:=by simp;omega
   obtain⟨b,off,rfl,hbb,hcl⟩:=HS.out.at_ (k:=cur) (by have:=HN.out;omega);have d0:=hcl 0 (.int .i64 ps[cur]) rfl;simp only [Nat.add_zero,Nat.mul_one] at d0;obtain⟨p,hp⟩ : ∃p,p=ps[cur]'(by have:=HN.out;omega):=⟨_,rfl⟩;rw [←hp] at d0
   have HE:Hid (R=if p= -1 then some (L ++ [cur]) else if p<0∨(n:Int)≤p then none else (upR ps (n - (L.length+1)) p.toNat).map ((L ++ [cur]) ++ ·)):=LH (by
    have hm:n - L.length= (n - (L.length+1)) +1:=by omega
    have hcp:cur<ps.length:=by have:=HN.out;omega
    rw [←hE.out,hm,up_step hcp,←hp,←HN.out];by_cases h1:p= -1
    ·rw [if_pos h1,if_pos h1];rfl
    ·rw [if_neg h1,if_neg h1]
     by_cases h2:p<0∨(n:Int)≤p
     ·rw [if_pos h2,if_pos h2];rfl
     ·rw [if_neg h2,if_neg h2,Option.map_map]
      congr 1
      funext t
      simp)
   have dw:=fun W (h:Below w.heap.size w W)=>(h.cell (p:=⟨b,off+cur,none⟩) hbb).trans d0;have DW:=LH dw;clear hE hcl d0 dw hp;go_wp2_with ((at_builtin;refine wpList_push tyZ rfl _ _ rfl encZ wr w.heap.size _ (natZ L) rfl KO.out (cur:Int) (by go_simp) rfl ?c1 ?c2 ?c3 ?c4))
   case c1=>simp [natZ];omega
   case c2=>simp [natZ,maxLen];omega
   case c3=>exact hsz
   case c4=>
    intro v' w' ho' hg' hs' _ hb' _;obtain⟨A',cap',rfl,_⟩:=ho'.form;have hlen: (natZ L ++ [(cur:Int)]).length= (L ++ [cur]).length:=by simp [natZ]
    have eL:natZ L ++ [(cur:Int)] =natZ (L ++ [cur]):=by simp [natZ]
    rw [hlen,eL] at ho';rw [hlen];have KO2:=LH ho';have KB2:=LH (KB.out.trans hb');have d0:=DW.out _ KB2.out;have zb:b<w'.heap.size:=by have:=KB2.out.size;omega
    have hlen2:Hid ((L ++ [cur]).length=L.length+1):=LH (by simp);clear hlen eL ho' hg' hb' KO KB DW;by_cases h1:p= -1
    ·rw [if_pos h1] at HE
     have hR:=HE.out;subst h1;subst hR;go_wp2_with fail;have X:=HP.out _ (.slice A' (L ++ [cur]).length cap') KO2.out KB2.out;rw [hlen2.out] at X;exact X
    ·rw [if_neg h1] at HE
     have h1d: (p == -1) =false:=by simpa using h1
     by_cases h2:p<0
     ·rw [if_pos (.inl h2)] at HE
      have hR:=HE.out;subst hR;have h2d:decide (p<0) =true:=by simpa using h2
      go_wp2_with fail;exact HP.out _ (.slice none 0 0) (Own.nil _ _ _ _) KB2.out
     ·have h2d:decide (p<0) =false:=by simpa using h2
      by_cases h3: (n:Int)≤p
      ·rw [if_pos (.inr h3)] at HE
       have hR:=HE.out;subst hR;go_wp2_with fail;exact HP.out _ (.slice none 0 0) (Own.nil _ _ _ _) KB2.out
      ·rw [if_neg (by omega)] at HE
       obtain⟨q,rfl⟩:=Int.eq_ofNat_of_zero_le (show 0≤p by omega);have h3d:decide ((n:Int)≤(q:Int)) =false:=by simpa using h3
       go_wp2_with fail;go_roundw
       case rel=>exact⟨q,L ++ [cur],A',cap',rfl,rfl,by omega,KO2.out,by rw [hlen2.out];omega,KB2.out,LH (by rw [hlen2.out];exact HE.out.symm)⟩
       case measure=>
        have:=hlen2.out;simp only [lenOf];omega
theorem grove_Right (w:World) (A:Option Addr) (cap:Nat) (ps:List Int) (hS:Sl w w.heap.size encZ A ps) (hm:ps.length≤maxLen) :Calls Tryz.prog 192 #[.slice A ps.length cap] w fun e w'=>e=.returned (.bool (rightG ps))∧Below w.heap.size w w':=by
 have HS:=LH hS;have HR:Hid (rightG ps= (decide (1≤ps.length) && decide (ps.length≤48) && ((List.range ps.length).all fun i=>(upR ps ps.length i).isSome) && decide (ps.count (-1) =1))):=LH rfl;obtain⟨n,hnn⟩ : ∃n,n=ps.length:=⟨_,rfl⟩;have HN:=LH hnn;have HU:=LH (fun W i h1 h2 h3=>grove_up W A cap ps i h1 h2 h3);unfold maxLen at hm;clear hS;rw [←hnn] at hm HU HR⊢;clear hnn;by_cases h1:n<1
 ·have h1d:decide ((n:Int) <1) =true:=by simp;omega
  have e:rightG ps=false:=by rw [HR.out,decide_eq_false (by omega)];rfl
  rw [e]
  go_enter Tryz.func192,Tryz.ntmps192
  go_wp2_with fail;exact bR (v:=.bool false) (by simp only [results,Tryz.results192];go_simp) rfl ⟨rfl,bE⟩
 ·have h1d:decide ((n:Int) <1) =false:=by simp;omega
  by_cases h2:48<n
  ·have e:rightG ps=false:=by rw [HR.out,decide_eq_true (show 1≤n by omega),decide_eq_false (show ¬n≤48 by omega)];rfl
   have h2d: (48:Int) < (n:Int):=by omega
   rw [e]
   go_enter Tryz.func192,Tryz.ntmps192
   go_wp2_with fail;exact bR (v:=.bool false) (by simp only [results,Tryz.results192];go_simp) rfl ⟨rfl,bE⟩
  ·have h2d:decide ((48:Int) < (n:Int)) =false:=by simp;omega
   have e:rightG ps= (((List.range n).all fun i=>(upR ps n i).isSome) && decide (ps.count (-1) =1)):=by rw [HR.out,decide_eq_true (show 1≤n by omega),decide_eq_true (show n≤48 by omega)];rfl
   have E:=LH e;generalize rightG ps=R at E⊢;clear HR e
   go_enter Tryz.func192,Tryz.ntmps192
   go_wp2_with fail
   go_loopw [3,18] (fun c q wr=>∃(j k:Nat),q=.int .i64 j∧c=.int .i64 k∧j≤n∧k≤j∧Hid (k= (ps.take j).count (-1))∧Hid (∀i<j,(upR ps n i).isSome=true)∧Below w.heap.size w wr) (fun _ q _=>n - (intOf q).toNat)
   case atStart=>exact⟨0,0,rfl,rfl,Nat.zero_le _,Nat.le_refl _,LH (by simp),LH (fun i h=>by omega),Below.refl _ _⟩
   case round=>
    obtain⟨j,k,rfl,rfl,hj,hk,hc,hall,hb⟩:=hrel;have KB:=LH hb;clear hb;by_cases hlt:j<n
    ·obtain⟨b,off,rfl,hbb,hcl⟩:=HS.out.at_ (k:=j) (by have:=HN.out;omega)
     have d0:=hcl 0 (.int .i64 (ps[j]'(by have:=HN.out;omega))) rfl;simp only [Nat.add_zero,Nat.mul_one] at d0;obtain⟨p,hp⟩ : ∃p,p=ps[j]'(by have:=HN.out;omega):=⟨_,rfl⟩;rw [←hp] at d0
     have hcnt:Hid ((ps.take (j+1)).count (-1) =k+if p= -1 then 1 else 0):=LH (by
      have hjp:j<ps.length:=by have:=HN.out;omega
      rw [List.take_add_one,List.count_append,←hc.out,List.getElem?_eq_getElem hjp,←hp];by_cases e:p= -1
      ·subst e;simp
      ·simp [e])
     have d0w:=(KB.out.cell (p:=⟨b,off+j,none⟩) hbb).trans d0;have zb:b<wr.heap.size:=by have:=KB.out.size;omega
     have SW:=LH (HS.out.keep KB.out.size fun q hq=>KB.out.cell hq);have HUp:=LH (HU.out wr j SW.out hlt (by omega));unfold UpPost at HUp;obtain⟨z,hz⟩ : ∃z,z=upR ps n j:=⟨_,rfl⟩;rw [←HN.out,←hz] at HUp;have HZ:=LH hz;clear hcl d0 hp hz
     cases z with
     |none=>
      have eR:R=false:=by
       rw [E.out]
       have: ((List.range n).all fun i=>(upR ps n i).isSome) =false:=by
        rw [List.all_eq_false];exact⟨j,List.mem_range.2 hlt,by rw [←HZ.out];simp⟩
       rw [this];rfl
      subst eR;go_wp2_with fail;refine HUp.out.mono ?_;rintro e w1 ⟨v,rfl,hv,hb1⟩;have B1:=LH (KB.out.trans (hb1.mono KB.out.size));clear hv hb1;go_wp2_with fail;exact bR (v:=.bool false) (by simp only [results,Tryz.results192];go_simp) rfl ⟨rfl,B1.out⟩
     |some l=>
      have hall2:Hid (∀i<j+1,(upR ps n i).isSome=true):=LH (fun i hi=>by
       by_cases e:i=j
       ·subst e;rw [←HZ.out];rfl
       ·exact hall.out i (by omega))
      by_cases hp1:p= -1
      ·rw [if_pos hp1] at hcnt
       subst hp1;go_wp2_with fail;refine HUp.out.mono ?_;rintro e w1 ⟨v,rfl,hv,hb1⟩;have B1:=LH (KB.out.trans (hb1.mono KB.out.size));clear hv hb1;go_wp2_with fail;go_roundw
       case rel=>exact⟨j+1,k+1,by go_num,by go_num,by omega,by omega,LH hcnt.out.symm,hall2,B1.out⟩
       case measure=>simp [intOf];omega
      ·rw [if_neg hp1] at hcnt
       have hpd: (p == -1) =false:=by simpa using hp1
       go_wp2_with fail;refine HUp.out.mono ?_;rintro e w1 ⟨v,rfl,hv,hb1⟩;have B1:=LH (KB.out.trans (hb1.mono KB.out.size));clear hv hb1;go_wp2_with fail;go_roundw
       case rel=>exact⟨j+1,k,by go_num,rfl,by omega,by omega,LH hcnt.out.symm,hall2,B1.out⟩
       case measure=>simp [intOf];omega
    ·obtain rfl:j=n:=by omega
     have eR:R= ((k:Int) == 1):=by
      rw [E.out];have h1: ((List.range j).all fun i=>(upR ps j i).isSome) =true:=List.all_eq_true.2 fun i hi=>hall.out i (List.mem_range.1 hi)
      have h2:k=ps.count (-1):=by
       have:=hc.out
       rwa [HN.out,List.take_length] at this
      rw [h1,←h2,Bool.true_and,Bool.eq_iff_iff,decide_eq_true_eq,beq_iff_eq];omega
     subst eR;go_wp2_with fail;exact bR (v:=.bool ((k:Int) == 1)) (by simp only [results,Tryz.results192];go_simp) rfl ⟨rfl,KB.out⟩
def wrongG (ps:List Int) (i:Int) :Int:=if rightG ps=false then 15 else if i<0∨(ps.length:Int)≤i then 16 else 0
theorem grove_wrong (w:World) (A:Option Addr) (cap:Nat) (ps:List Int) (i:Int) (hS:Sl w w.heap.size encZ A ps) (hm:ps.length≤maxLen) :Calls Tryz.prog 146 #[.slice A ps.length cap,.int .i64 i] w fun e w'=>e=.returned (.int .i64 (wrongG ps i))∧Below w.heap.size w w':=by
 have HR:=LH (grove_Right w A cap ps hS hm);have hml:ps.length≤18446744073709551615:=Nat.le_trans hm (by decide);unfold wrongG;generalize rightG ps=R at HR⊢;generalize ps.length=n at HR hm hml⊢;unfold maxLen at hm
 cases R
 ·go_enter Tryz.func146,Tryz.ntmps146
  go_wp2_with fail;refine(HR.out).mono ?_;rintro e w1 ⟨rfl,hb1⟩;have B1:Below w.heap.size w w1:=Below.then_ bE hb1;have s1:=B1.size;go_wp2_with fail;exact bR (v:=.int .i64 15) (by simp only [results,Tryz.results146];go_simp) rfl ⟨rfl,B1⟩
 ·rw [if_neg (by decide)]
  by_cases h1:i<0
  ·have h1d:decide (i<0) =true:=by simpa using h1
   rw [if_pos (.inl h1)]
   go_enter Tryz.func146,Tryz.ntmps146
   go_wp2_with fail;refine(HR.out).mono ?_;rintro e w1 ⟨rfl,hb1⟩;have B1:Below w.heap.size w w1:=Below.then_ bE hb1;have s1:=B1.size;go_wp2_with fail;exact bR (v:=.int .i64 16) (by simp only [results,Tryz.results146];go_simp) rfl ⟨rfl,B1⟩
  ·have h1d:decide (i<0) =false:=by simpa using h1
   by_cases h2: (n:Int)≤i
   ·rw [if_pos (.inr h2)]
    go_enter Tryz.func146,Tryz.ntmps146
    go_wp2_with fail;refine(HR.out).mono ?_;rintro e w1 ⟨rfl,hb1⟩;have B1:Below w.heap.size w w1:=Below.then_ bE hb1;have s1:=B1.size;go_wp2_with fail;exact bR (v:=.int .i64 16) (by simp only [results,Tryz.results146];go_simp) rfl ⟨rfl,B1⟩
   ·have h2d:decide ((n:Int)≤i) =false:=by simpa using h2
    rw [if_neg (by omega)]
    go_enter Tryz.func146,Tryz.ntmps146
    go_wp2_with fail;refine(HR.out).mono ?_;rintro e w1 ⟨rfl,hb1⟩;have B1:Below w.heap.size w w1:=Below.then_ bE hb1;have s1:=B1.size;go_wp2_with fail;exact bR (v:=.int .i64 0) (by simp only [results,Tryz.results146];go_simp) rfl ⟨rfl,B1⟩
theorem kidF_lt64 (ps:List Int) (i:Int) {m:Nat} (hm:m≤48) :kidF ps i m<2^64:=Nat.lt_of_lt_of_le (kidF_lt ps i hm) (Nat.pow_le_pow_right (by decide) (by omega))
theorem grove_kids (w:World) (A:Option Addr) (cap:Nat) (ps:List Int) (i:Int) (hS:Sl w w.heap.size encZ A ps) (hm:ps.length≤48) :Calls Tryz.prog 147 #[.slice A ps.length cap,.int .i64 i] w fun e w'=>e=.returned (.int .u64 (kidsC ps i))∧Below w.heap.size w w':=by
 have HS:=LH hS;have HK:Hid (kidsC ps i=kidF ps i ps.length):=LH rfl;obtain⟨n,hnn⟩ : ∃n,n=ps.length:=⟨_,rfl⟩;have HN:=LH hnn;clear hS;rw [←hnn] at hm HK⊢;clear hnn;generalize kidsC ps i=C at HK⊢
 go_enter Tryz.func147,Tryz.ntmps147
 go_wp2_with fail
 go_loopw [5,10] (fun c q wr=>∃(j k:Nat),q=.int .i64 j∧c=.int .u64 k∧j≤n∧Hid (k=kidF ps i j)∧Below w.heap.size w wr) (fun _ q _=>n - (intOf q).toNat)
 case atStart=>exact⟨0,0,rfl,rfl,Nat.zero_le _,LH rfl,Below.refl _ _⟩
 case round=>
  obtain⟨j,k,rfl,rfl,hj,hk,hb⟩:=hrel;have KB:=LH hb;clear hb;by_cases hlt:j<n
  ·obtain⟨b,off,rfl,hbb,hcl⟩:=HS.out.at_ (k:=j) (by have:=HN.out;omega)
   have d0:=hcl 0 (.int .i64 (ps[j]'(by have:=HN.out;omega))) rfl;simp only [Nat.add_zero,Nat.mul_one] at d0;obtain⟨p,hp⟩ : ∃p,p=ps[j]'(by have:=HN.out;omega):=⟨_,rfl⟩;rw [←hp] at d0
   have hnx:Hid (kidF ps i (j+1) =if p=i then withC k j else k):=LH (by
    have hjp:j<ps.length:=by have:=HN.out;omega
    show (if ps[j]? =some i then withC (kidF ps i j) j else kidF ps i j) =_
    rw [List.getElem?_eq_getElem hjp,←hp,←hk.out];by_cases e:p=i
    ·rw [if_pos (by rw [e]),if_pos e]
    ·rw [if_neg (fun h=>e (Option.some.inj h)),if_neg e])
   have d0w:=(KB.out.cell (p:=⟨b,off+j,none⟩) hbb).trans d0;have zb:b<wr.heap.size:=by have:=KB.out.size;omega
   have hk64:k<2^64:=by rw [hk.out];exact kidF_lt64 ps i (by omega)
   have HW:=LH (fun W=>crew_With k (j:Int) hk64 W);clear hcl d0 hp hk64;by_cases he:p=i
   ·rw [if_pos he] at hnx
    have hed: (p == i) =true:=by simpa using he
    clear he;generalize withC k (j:Int) =k2 at HW hnx;go_wp2_with fail;refine(HW.out _).mono ?_;rintro e w1 ⟨rfl,hb1⟩;have B1:=LH (KB.out.trans (hb1.mono KB.out.size));clear hb1;go_wp2_with fail;go_roundw
    case rel=>exact⟨j+1,k2,by go_num,rfl,by omega,LH hnx.out.symm,B1.out⟩
    case measure=>simp [intOf];omega
   ·rw [if_neg he] at hnx
    have hed: (p == i) =false:=by simpa using he
    clear he;go_wp2_with fail;go_roundw
    case rel=>exact⟨j+1,k,by go_num,rfl,by omega,LH hnx.out.symm,KB.out⟩
    case measure=>simp [intOf];omega
  ·obtain rfl:j=n:=by omega
   have eC:C=k:=by rw [HK.out,hk.out]
   subst eC;go_wp2_with fail;exact bR (v:=.int .u64 C) (by simp only [results,Tryz.results147];go_simp) rfl ⟨rfl,KB.out⟩
theorem grove_Kids (w:World) (A:Option Addr) (cap:Nat) (ps:List Int) (i:Nat) (hS:Sl w w.heap.size encZ A ps) (hR:rightG ps=true) (hi:i<ps.length) :Calls Tryz.prog 85 #[.slice A ps.length cap,.int .i64 i] w fun e w'=>e=.returned (.tuple #[.int .u64 (kidsC ps i),.int .i64 0])∧Below w.heap.size w w':=by
 have hm:ps.length≤48:=by simp only [rightG,Bool.and_eq_true,decide_eq_true_eq] at hR;exact hR.1.1.2
 have HW:=LH (grove_wrong w A cap ps i hS (by unfold maxLen;omega));have e0:wrongG ps i=0:=by unfold wrongG;rw [if_neg (by rw [hR];decide),if_neg (by omega)]
 rw [e0] at HW;have HK:=LH (fun W (h:Below w.heap.size w W)=>grove_kids W A cap ps i (hS.keep h.size fun p hp=>h.cell hp) hm);generalize kidsC ps i=C at HK⊢;clear hS e0 hR hi;generalize ps.length=n at*
 go_enter Tryz.func85,Tryz.ntmps85
 go_wp2_with fail;refine(HW.out).mono ?_;rintro e w1 ⟨rfl,hb1⟩;have B1:Below w.heap.size w w1:=Below.then_ bE hb1;have s1:=B1.size;go_wp2_with fail;refine(HK.out _ B1).mono ?_;rintro e w2 ⟨rfl,hb2⟩;have B2:=Below.then_ B1 hb2;go_wp2_with fail;exact bR (v:=.tuple #[.int .u64 C,.int .i64 0]) (by simp only [results,Tryz.results85];go_simp) rfl ⟨rfl,B2⟩
theorem idx_root {ps:List Int} (h:rightG ps=true) :Lib.idxOf ps (-1) = (rootG ps:Int):=by
 have hr:=rightG_root h;have hlt:=(List.getElem?_eq_some_iff.1 hr).1;have hc:ps.count (-1) =1:=by simp only [rightG,Bool.and_eq_true,decide_eq_true_eq] at h;exact h.2
 have:=Lib.idxFrom_hit (-1) ps (rootG ps) 0 hlt (by rw [List.getD_eq_getElem?_getD,hr];rfl) (fun j hj e=>by
  have hj2:j<ps.length:=by omega
  rw [getG_at hj2] at e;have:=count_one hc hr (i:=rootG ps) (j:=j) (by rw [List.getElem?_eq_getElem hj2,e]);omega)
 simpa [Lib.idxOf] using this
theorem grove_Root (w:World) (A:Option Addr) (cap:Nat) (ps:List Int) (hS:Sl w w.heap.size encZ A ps) (hm:ps.length≤maxLen) :Calls Tryz.prog 144 #[.slice A ps.length cap] w fun e w'=>e=.returned (.tuple #[.int .i64 (if rightG ps=true then (rootG ps:Int) else 0),.int .i64 (if rightG ps=true then 0 else 15)])∧Below w.heap.size w w':=by
 have HR:=LH (grove_Right w A cap ps hS hm)
 cases hr:rightG ps
 ·rw [hr] at HR
  rw [if_neg (by decide),if_neg (by decide)];clear hr hS;generalize ps.length=n at*
  go_enter Tryz.func144,Tryz.ntmps144
  go_wp2_with fail;refine(HR.out).mono ?_;rintro e w1 ⟨rfl,hb1⟩;have B1:Below w.heap.size w w1:=Below.then_ bE hb1;have s1:=B1.size;go_wp2_with fail;exact bR (v:=.tuple #[.int .i64 0,.int .i64 15]) (by simp only [results,Tryz.results144];go_simp) rfl ⟨rfl,B1⟩
 ·rw [hr] at HR
  rw [if_pos rfl,if_pos rfl];have hn:0<ps.length:=by simp only [rightG,Bool.and_eq_true,decide_eq_true_eq] at hr;omega
  obtain⟨b,off,rfl,hb,hcl⟩:=hS.at_ hn;clear hcl;have hI:=idx_root hr
  have HX:=LH (fun W (h:Below w.heap.size w W)=>Tryz.slices_Index_int b off ps.length cap ps (-1) W (Nat.le_refl _) (Nat.le_trans hm (by decide)) (fun j hj=>by
   rcases hS with h0| ⟨b',off',hA,_,hc⟩
   ·subst h0;simp at hj
   ·cases hA
    have:=hc j _ (List.getElem?_eq_getElem hj) 0 (.int .i64 ps[j]) rfl;rw [Nat.mul_one,Nat.add_zero] at this;rw [(h.cell (p:=⟨b,off+j,none⟩) hb),this];simp [List.getD,hj]))
  rw [List.take_length,hI] at HX;clear hS hI hr hn;generalize ps.length=n at*;generalize rootG ps=R at HX⊢
  go_enter Tryz.func144,Tryz.ntmps144
  go_wp2_with fail;refine(HR.out).mono ?_;rintro e w1 ⟨rfl,hb1⟩;have B1:Below w.heap.size w w1:=Below.then_ bE hb1;have s1:=B1.size;go_wp2_with fail;refine(HX.out _ B1).mono ?_;rintro e w2 ⟨rfl,rfl⟩;go_wp2_with fail;exact bR (v:=.tuple #[.int .i64 R,.int .i64 0]) (by simp only [results,Tryz.results144];go_simp) rfl ⟨rfl,B1⟩
def tabL:List (String×DataW Unit):= [("math/bits.deBruijn64tab",Rows.laid_math_bits_deBruijn64tab)]
def TabZ (W:World) :Prop:=∀j,j<Lib.deBruijn64tab.length→W.cell? ⟨0,j,none⟩ =some (.int .u8 (Lib.deBruijn64tab.getD j 0))
theorem TabZ.below {w w':World} (h:TabZ w) (hb:Below w.heap.size w w') :TabZ w':=fun j hj=>by
 have hc:=h j hj
 have hz:0<w.heap.size:=by
  rcases Nat.lt_or_ge 0 w.heap.size with h'|h'
  ·exact h'
  ·simp [World.cell?,Array.getElem?_eq_none h'] at hc
 exact(hb.cell (p:=⟨0,j,none⟩) hz).trans hc
theorem door_met (os:Os) (args:Array Value) :laidMetH Tryz.prog tabL ((World.doorLaid Tryz.prog 14 os).forCall (fun _ _=>0) ⟨#[],args, []⟩).memory:=
 laidMetH_of_parts3 (fuel:=8) (laidMet_of_run' 8 (by kernel_rfl) (by kernel_rfl)) (by kernel_rfl) (by kernel_rfl)
theorem tab_in {W:World} (h:laidMetH Tryz.prog tabL W) :TabZ W:=by
 rw [MakeChecks.laidMetH_plain _ _ _ (by kernel_rfl)] at h
 have hT:Lib.TabIs Tryz.prog W "math/bits.deBruijn64tab" .u8 (Lib.deBruijn64tab.map Int.ofNat):=
  Lib.tabIs_of_head (rest:= []) (g:=0) (n:=64) (by kernel_rfl) (by kernel_rfl) Tryz.underlying340 Tryz.underlying5 (by kernel_rfl) (by kernel_rfl) h
 intro j hj;have h1:=hT.cell (g:=0) (by kernel_rfl) j (by simpa using hj);rw [h1]
 congr 2
 simp [List.getD]
 cases h2:Lib.deBruijn64tab[j]? with
 |none=>rfl
 |some n=>rfl
section
attribute [local go_sem] Oper.semAt_some
theorem tz64_core (x k idx:Nat) (w:World) (hx0: ((x:Int) == 0) =false)
 (key:IntKind.u64.wrap (bits BinOp.and IntKind.u64 (x:Int) (IntKind.u64.wrap (-(x:Int))) *285870213051353865) / 288230376151711744= (idx:Int))
 (hi:idx<64) (hk:k<64) (hcell:w.cell? ⟨0,idx,none⟩ =some (.int .u8 k)) :
 Calls Tryz.prog 236 #[.int .u64 x] w fun e w'=>e=.returned (.int .i64 k)∧w'=w:=by
 go_enter Tryz.func236,Tryz.ntmps236
 go_wp2_with (simp only [key]);go_ret;exact⟨rfl,rfl⟩
theorem tz64 (x:Nat) (hx:x<18446744073709551616) (hx0:x≠0) (w:World) (hT:TabZ w) :
 Calls Tryz.prog 236 #[.int .u64 x] w fun e w'=>e=.returned (.int .i64 (Lib.ctz 64 x:Nat))∧w'=w:=by
 obtain⟨hlow,hk⟩:=Lib.lowest_bit 64 x hx0 hx;obtain⟨hi,htab⟩:=Lib.deBruijn64_at _ hk;have hcell:=hT _ hi;rw [htab] at hcell;exact tz64_core x _ _ w (by simp;omega) (tz64_key x _ hx hx0 hlow) hi hk hcell
theorem crew_Each (w:World) (s:Nat) :Calls Tryz.prog 195 #[.int .u64 s] w fun e w'=>e=.returned (.func (.func 235) #[] #[.pointer (some ⟨w.heap.size,0,none⟩)])∧w.alloc (.cells #[.int .u64 s] 47) =w':=by
 go_enter Tryz.func195,Tryz.ntmps195
 go_wp2_with fail;go_ret;exact⟨rfl,rfl⟩
theorem each_all (s:Nat) :eachL (s &&& 281474976710655) =eachL s:=by
 unfold eachL
 apply List.filter_congr
 intro j hj;have hj':=List.mem_range.1 hj;rw [Nat.testBit_and,show (281474976710655:Nat) =2^48 - 1 from rfl,Nat.testBit_two_pow_sub_one];simp [hj']
theorem crew_stops {α:Type} (f:α→Nat) (xs:List α) (n Bs s:Nat) (hxs:xs.map f=eachL s) (K:World→World→Prop) (w:World) (hn:1≤n) (hs:s<18446744073709551616) (hBs:w.heap[Bs]? =some (.cells #[.int .u64 s] 47 (0,0))) (hT:TabZ w) (hK: ∀A B,K A B→TabZ A→TabZ B) :
 SeqStopsK Fence.wide n Tryz.prog 235 #[.pointer (some ⟨Bs,0,none⟩)] (fun x:α=> #[Value.int .i64 (f x:Int)]) K (fun ys=>ys=xs) (fun pre=>pre <+: xs) xs.length w:=fun q J Jx W hW hJ hJx hY h0=>by
 have kb:=bB hBs hW;have cb:=bC kb;have T0:=LH (hT.below hW);have HY:=LH hY;have H0:=LH h0;have HK:=LH hK;have hand:bits BinOp.and IntKind.u64 (s:Int) 281474976710655= ((s &&& 281474976710655:Nat) :Int):=bits_and_u64_nat s 281474976710655 hs (by decide);have hm0:s &&& 281474976710655<281474976710656:=Nat.lt_of_le_of_lt Nat.and_le_right (by decide);have he0:=each_all s;rw [←hxs] at he0;have HE:=LH he0;generalize s &&& 281474976710655=m0 at hand hm0 HE;clear hBs hT hY hJ hJx h0 hK kb he0 hxs;refine callsIn_of_wp Tryz.func235 rfl trivial ?_ rfl;simp only [Tryz.ntmps235,List.size_toArray,List.length_cons,List.length_nil,Nat.reduceAdd,Nat.reduceSub,Array.replicate_succ,Array.replicate_zero,List.push_toArray,List.append_toArray,List.nil_append,List.cons_append]
 gi_wp2_with (simp only [hand])
 gi_loopw [3] (fun i wr=>∃(m:Nat) (pre rest:List α),i=.int .u64 m∧m<281474976710656∧Hid (xs=pre ++ rest∧rest.map f=eachL m)∧J pre wr∧TabZ wr) (fun i _=>(intOf i).toNat)
 case atStart=>exact⟨m0, [],xs,rfl,hm0,LH ⟨rfl,HE.out.symm⟩,H0.out,T0.out⟩
 case round=>
  obtain⟨m,pre,rest,rfl,hm,KL,hJk,hTk⟩:=hrel;have KJ:=LH hJk;have KT:=LH hTk;clear hJk hTk;by_cases hz:m=0
  ·subst hz
   have hl:pre=xs:=by
    have h2:=KL.out.2;rw [eachL_zero,List.map_eq_nil_iff] at h2;rw [KL.out.1,h2,List.append_nil]
   rw [hl] at KJ
   gi_wp2_with fail
   go_end0
   exact⟨⟨_,rfl⟩,.inl ⟨_,rfl,KJ.out⟩⟩
  ·obtain⟨h1,h2,h3⟩:=eachL_step hz hm
   have HZ:=LH (tz64 m (by omega) hz wr KT.out);have hne: ((m:Int) == 0) =false:=by simp;omega
   have hw1:IntKind.u64.wrap ((m:Int) - 1) = ((m - 1:Nat) :Int):=by rw [IntKind.wrap_u64];omega
   have hand2:bits BinOp.and IntKind.u64 (m:Int) ((m - 1:Nat) :Int) = ((m &&& (m - 1) :Nat) :Int):=bits_and_u64_nat m (m - 1) (by omega) (by omega)
   obtain⟨x,rest2,hr,hfx,hr2⟩ : ∃x rest2,rest=x :: rest2∧f x=Lib.ctz 64 m∧rest2.map f=eachL (m &&& (m - 1)):=by
    have h4:=KL.out.2;rw [h1] at h4
    cases rest with
    |nil=>simp at h4
    |cons x rest2=>
     rw [List.map_cons] at h4;obtain⟨h5,h6⟩:=List.cons.inj h4;exact⟨x,rest2,rfl,h5,h6⟩
   have KE:Hid (xs= (pre ++ [x]) ++ rest2∧rest2.map f=eachL (m &&& (m - 1))):=LH ⟨by rw [KL.out.1,hr,List.append_assoc];rfl,hr2⟩;have hlen:pre.length<xs.length:=by rw [KL.out.1,hr];simp
   obtain⟨fn,tmps,assign,body,hy,hR⟩:=HY.out pre x _ KJ.out hlen;rw [hfx] at hy;clear hr hr2 hfx;generalize Lib.ctz 64 m=k at*
   gi_wp2_with fail
   refine⟨trivial,?_⟩;refine(callsIn_wide.2 HZ.out).mono ?_;rintro e w1 ⟨rfl,rfl⟩
   gi_wp2_with fail
   refine hR.mono ?_;rintro e w3 (⟨rfl,hJ3,hk3⟩ | ⟨rfl,hJx3⟩)
   ·have K3:=LH (HK.out _ _ hk3 KT.out)
    have J3:=LH hJ3;clear hJ3 hk3
    gi_wp2_with (simp only [hw1,hand2])
    go_roundw
    case rel=>exact⟨m &&& (m - 1),pre ++ [x],rest2,rfl,by omega,KE,J3.out,K3.out⟩
    case measure=>simp [intOf];omega
   ·have J3:=LH hJx3
    clear hJx3
    gi_wp2_with fail
    refine bR (results_none rfl _ _ _) rfl ?_;exact⟨⟨_,rfl⟩,.inr ⟨_,⟨_,KE.out.1.symm⟩,J3.out⟩⟩
end
section
attribute [local go_sem] Oper.semAt_some
@[local go_sem] theorem run_store_funcGw (P:Program) (w:World) (a:Addr) (m:Mode) (f:Fn) (ts:Array Value) (cs:Array Value) : (store a (.func f ts cs) m).run P w=stored P w a (.func f ts cs) m:=run_store P w a _ m rfl
structure WkAt (w:World) (zs z:Nat) (A:Option Addr) (cap:Nat) (ps:List Int) (pp pd po:Nat) (v:Value) (o:List Nat) :Prop where
 cp:w.heap[pp]? =some (.cells #[.slice A ps.length cap] 22 (0,0))
 cd:w.heap[pd]? =some (.cells #[.func (.func 194) #[] #[.pointer (some ⟨pp,0,none⟩),.pointer (some ⟨pd,0,none⟩),.pointer (some ⟨po,0,none⟩)]] 181 (0,0))
 co:w.heap[po]? =some (.cells #[v] 22 (0,0))
 own:Own w z 3 encZ v (natZ o)
 sl:Sl w zs encZ A ps
 tab:TabZ w
 z0:0<zs
 z1:zs≤po
 z2: (pp≠po∧pd≠po)∧pp<z∧pd<z∧po<z
 z3:z≤w.heap.size
structure WkTo (z po:Nat) (w w':World) :Prop where
 os:w'.os=w.os
 tape:w'.tape=w.tape
 output:w'.output=w.output
 size:w.heap.size≤w'.heap.size
 low: ∀b,b<z→b≠po→w'.heap[b]? =w.heap[b]?
 oth: ∀(b:Nat) (o:Obj),w.heap[b]? =some o→o.isCells=false→w'.heap[b]? =some o
section
variable {w w' W:World} {zs z:Nat} {A:Option Addr} {cap:Nat} {ps:List Int} {pp pd po:Nat} {v:Value} {o:List Nat}
theorem WkTo.trans (h:WkTo z po w w') (k:WkTo z po w' W) :WkTo z po w W:=
 ⟨k.os.trans h.os,k.tape.trans h.tape,k.output.trans h.output,Nat.le_trans h.size k.size,fun b h1 h2=>(k.low b h1 h2).trans (h.low b h1 h2),fun b o h1 h2=>k.oth b o (h.oth b o h1 h2) h2⟩
theorem WkTo.of_below (hb:Below w.heap.size w w') (hz:z≤w.heap.size) :WkTo z po w w':=⟨hb.os,hb.tape,hb.output,hb.size,fun b h1 _=>hb.block b (by omega),fun b o h1 _=>bB h1 hb⟩
theorem WkTo.keeps (h:WkTo z po w w') (B:Nat) :KeepsFrom B w w':=⟨h.size,fun k o _ h1 h2=>h.oth k o h1 h2⟩
theorem WkAt.below (h:WkAt w zs z A cap ps pp pd po v o) (hb:Below w.heap.size w w') :WkAt w' zs z A cap ps pp pd po v o:=by
 have h2:=h.z2;have h3:=h.z3;have h1:=h.z1;exact⟨bB h.cp hb,bB h.cd hb,bB h.co hb,h.own.below hb,h.sl.keep (Nat.le_refl _) (fun p hp=>hb.cell (by omega)),h.tab.below hb,h.z0,h.z1,h.z2,Nat.le_trans h3 hb.size⟩
theorem WkAt.grown (h:WkAt w zs z A cap ps pp pd po v o) {row:Option Nat} (hg:w.grownBy w' row) (hr: ∀r,row=some r→∃o:Obj,w.heap[r]? =some o∧o.isCells=false) :WkAt w' zs z A cap ps pp pd po v o:=by
 refine⟨row_grown h.cp hg hr,row_grown h.cd hg hr,row_grown h.co hg hr,own_grown h.own hg hr,?_,?_,h.z0,h.z1,h.z2,Nat.le_trans h.z3 hg.size⟩
 ·rcases h.sl with h1| ⟨b,off,rfl,hz,hc⟩
  ·exact .inl h1
  ·exact .inr ⟨b,off,rfl,hz,fun i x hi j u hj=>cell_kept (hc i x hi j u hj) hg hr⟩
 ·exact fun j hj=>cell_kept (h.tab j hj) hg hr
theorem WkAt.store {v':Value} {o':List Nat} (h:WkAt w zs z A cap ps pp pd po v o) (hg:w.grownBy w' v.ownBlock) (ho:Own w' z 3 encZ v' (natZ o')) :WkAt (w'.setCell ⟨po,0,none⟩ v') zs z A cap ps pp pd po v' o'∧WkTo z po w (w'.setCell ⟨po,0,none⟩ v'):=by
 have h1:=h.z1;have h2:=h.z2;have h3:=h.z3;have h0:=h.z0;have row: ∀q,q<z→∀ob:Obj,w.heap[q]? =some ob→w'.heap[q]? =some ob:=fun q hq ob hb=>blk_grown_not hb hg fun e=>by have:=(h.own.lt q e).1;omega
 have rowe: ∀q,q<z→w'.heap[q]? =w.heap[q]? :=fun q hq=>hg.block q (by omega) fun e=>by have:=(h.own.lt q e.symm).1;omega
 have st: ∀q,q≠po→∀ob:Obj,w'.heap[q]? =some ob→(w'.setCell ⟨po,0,none⟩ v').heap[q]? =some ob:=fun q hq ob hb=>(Below.heap_setCell _ _ _ _ hq).trans hb;have ste: ∀q,q≠po→(w'.setCell ⟨po,0,none⟩ v').heap[q]? =w'.heap[q]? :=fun q hq=>Below.heap_setCell _ _ _ _ hq;have hs:=hg.size;have cel: ∀b o u,b<zs→w.cell? ⟨b,o,none⟩ =some u→(w'.setCell ⟨po,0,none⟩ v').cell? ⟨b,o,none⟩ =some u:=fun b o u hb hc=>(World.cell?_of_block ((ste b (by omega)).trans (rowe b (by omega)))).trans hc;refine⟨⟨st _ (by omega) _ (row _ (by omega) _ h.cp),st _ (by omega) _ (row _ (by omega) _ h.cd),zH (i:=0) (row _ (by omega) _ h.co) v',ho.setCell (p:=⟨po,0,none⟩) (fun e=>by have:=(ho.lt _ e).1;simp only at*;omega) v',?_,fun j hj=>cel 0 j _ h0 (h.tab j hj),h.z0,h.z1,h.z2,by simp [World.setCell];omega⟩,hg.os,hg.tape,hg.output,by simp [World.setCell];exact hs,fun b hb hne=>(ste b hne).trans (rowe b hb),fun b ob h4 h5=> ?_⟩
 ·rcases h.sl with h4| ⟨b,off,rfl,hz,hc⟩
  ·exact .inl h4
  ·exact .inr ⟨b,off,rfl,hz,fun i x hi j u hj=>cel b _ u hz (hc i x hi j u hj)⟩
 ·have hne:b≠po:=by rintro rfl;rw [h.co] at h4;cases h4;cases h5
  have hnr:some b≠v.ownBlock:=fun e=>by
   obtain⟨cs,fr,h6⟩ :TypeAt w b 3:=by
    rcases h.own with ⟨rfl,_⟩ | ⟨g1,o1,c1,u1,rfl,_,hh1,_⟩
    ·cases e
    ·have:b=g1:=by simpa [Value.ownBlock] using e
     subst this;exact .of hh1
   rw [h6] at h4;cases h4;cases h5
  exact st _ hne _ ((hg.block b (lB h4) hnr).trans h4)
end
theorem WkTo.grown {w A B:World} {z po:Nat} (h:WkTo z po w A) {row:Option Nat} (hg:A.grownBy B row) (hr: ∀r,row=some r→w.heap.size≤r) (hz:z≤w.heap.size) :WkTo z po w B:=
 ⟨hg.os.trans h.os,hg.tape.trans h.tape,hg.output.trans h.output,Nat.le_trans h.size hg.size,fun b hb hne=>(hg.block b (by have:=h.size;omega) (fun e=>by have:=hr b e.symm;omega)).trans (h.low b hb hne),
  fun b o h1 h2=>(hg.block b (lB (h.oth b o h1 h2)) (fun e=>by have:=hr b e.symm;have:=lB h1;omega)).trans (h.oth b o h1 h2)⟩
theorem tab_keep {A B:World} (h:TabZ A) (hk: ∀cs t fr,A.heap[0]? =some (.cells cs t fr)→B.heap[0]? =A.heap[0]?) :TabZ B:=fun j hj=>by
 have hc:=h j hj;obtain⟨ob,h1,h2⟩:=cells_of_cell hc
 cases ob with
 |cells cs t fr=>exact(World.cell?_of_block (hk cs t fr h1)).trans hc
 |_=>simp [Obj.isCells] at h2
theorem down_len {ps:List Int} (W:Ways ps) {m i:Nat} {l:List Nat} (h:IsWay ps i l) (hm:ps.length+1≤m+l.length) (h48:ps.length≤48) : (downF ps m i).length≤48:=by
 have h1:=down_nodup W m i l h hm
 have h2: ∀x∈downF ps m i,x∈List.range ps.length:=fun x hx=>by
  obtain⟨lx,h3,_⟩:=(mem_down W m i l x h hm).1 hx;exact List.mem_range.2 h3.lt
 have h3:=(List.perm_ext_iff_of_nodup h1 (List.nodup_range.filter fun x=>decide (x∈downF ps m i))).2 fun x=>by
  rw [List.mem_filter,decide_eq_true_eq];exact⟨fun h=>⟨h2 x h,h⟩,fun h=>h.2⟩
 have h4:=List.length_filter_le (fun x=>decide (x∈downF ps m i)) (List.range ps.length);rw [h3.length_eq];rw [List.length_range] at h4;omega
theorem kids_len (ps:List Int) (i:Nat) (h48:ps.length≤48) : (kidsN ps i).length≤48:=by
 unfold kidsN;have:=List.length_filter_le (fun k=>decide (ps[k]? =some (i:Int))) (List.range ps.length);rw [List.length_range] at this;omega
theorem flat_len48 {α:Type} {f:α→List Nat} : ∀{l:List α},(∀x∈l,(f x).length≤48)→(l.flatMap f).length≤48*l.length
 | [],_=>by simp
 |x :: l,h=>by
  rw [List.flatMap_cons,List.length_append,List.length_cons];have h1:=h x (by simp);have h2:=flat_len48 (l:=l) fun y hy=>h y (by simp [hy]);omega
theorem grove_down (ps:List Int) (WY:Ways ps) (h48:ps.length≤48) (zs z:Nat) (A:Option Addr) (cap:Nat) (pp pd po:Nat) : ∀(m:Nat) (w:World) (v:Value) (o:List Nat) (i:Nat) (l:List Nat),IsWay ps i l→ps.length+1≤m+l.length→WkAt w zs z A cap ps pp pd po v o→o.length+2400* (m+1)≤67108864→
 Calls Tryz.prog 194 #[.int .i64 i,.pointer (some ⟨pp,0,none⟩),.pointer (some ⟨pd,0,none⟩),.pointer (some ⟨po,0,none⟩)] w fun e w'=>e=.returned (.tuple #[])∧(∃v',WkAt w' zs z A cap ps pp pd po v' (o ++ downF ps m i))∧WkTo z po w w':=by
 intro m
 induction m with
 |zero=>
  intro w v o i l hl hm;obtain⟨l',h2,h3⟩:=WY i hl.lt;rw [hl.unique h2] at hm;omega
 |succ m ih=>
  intro w v o i l hl hm hW hlen;have HW:=LH hW;have hil:=hl.lt;have IH:=LH (fun (k: {k:Nat // k∈kidsN ps i}) W v' o' h1 h2=>ih W v' o' k.1 (k.1 :: l) (.up (mem_kids.1 k.2) hl) (by simp only [List.length_cons];omega) h1 h2);have HDL:=LH (fun (k: {k:Nat // k∈kidsN ps i})=>down_len WY (m:=m) (.up (mem_kids.1 k.2) hl) (by simp only [List.length_cons];omega) h48);have hkl:=kids_len ps i h48
  have hDe:Hid (downF ps (m+1) i= ((kidsN ps i).attach.flatMap fun k=>downF ps m k.1) ++ [i]):=LH (by
   show (kidsN ps i).flatMap (downF ps m) ++ [i] =_
   congr 1
   conv=>lhs;rw [←List.attach_map_subtype_val (kidsN ps i),List.flatMap_map])
  have hmap: (kidsN ps i).attach.map (fun k=>k.1) =eachL (kidsC ps i):=by rw [List.attach_map_subtype_val,each_kids h48]
  have hatl: (kidsN ps i).attach.length= (kidsN ps i).length:=List.length_attach;have hkc:kidsC ps i<18446744073709551616:=kidF_lt64 ps i h48;have HK:=LH (fun W (h:Sl W W.heap.size encZ A ps)=>grove_kids W A cap ps i h h48);have hzz:=hW.z3;have cp:=bC hW.cp;have zp:=lB hW.cp;have hzs:zs≤w.heap.size:=by have:=hW.z1;have:=hW.z2;omega
  have SL:=LH (fun W (h:Below w.heap.size w W)=>(hW.sl.keep (B':=W.heap.size) (by have:=h.size;omega) (fun p hp=>h.cell (by omega)) :Sl W W.heap.size encZ A ps));clear hW ih hl hm;generalize hC:kidsC ps i=C at*;generalize downF ps (m+1) i=DD at hDe⊢;refine(callsIn_wide (n:=3)).1 ?_;refine callsIn_of_wp_marks Tryz.func194 rfl trivial ?_ rfl;simp only [Tryz.ntmps194,List.size_toArray,List.length_cons,List.length_nil,Nat.reduceAdd,Nat.reduceSub,Array.replicate_succ,Array.replicate_zero,List.push_toArray,List.append_toArray,List.nil_append,List.cons_append]
  gi_wp2_with fail
  refine⟨trivial,?_⟩;refine(callsIn_wide.2 (HK.out w (SL.out w (Below.refl _ _)))).mono ?_;rintro e w1 ⟨rfl,hb1⟩;have W1:=LH (HW.out.below hb1);have T1:=LH (WkTo.of_below (po:=po) hb1 hzz);have s1:=hb1.size;clear hb1 cp zp HK
  gi_wp2_with fail
  refine⟨trivial,?_⟩;refine(callsIn_wide.2 (crew_Each _ C)).mono ?_;rintro e w2 ⟨rfl,rfl⟩
  gi_wp2_with fail
  have BA:Below w1.heap.size w1 (w1.alloc (.cells #[.int .u64 C] 47)):=(Below.refl _ _).alloc (Nat.le_refl _) _;have kb:=LH (heap_alloc_new w1 (.cells #[.int .u64 C] 47));have W2:=LH (W1.out.below BA);have T2:=LH (T1.out.trans (WkTo.of_below (po:=po) BA (by omega)));have s2:=BA.size;clear BA;generalize w1.alloc (.cells #[.int .u64 C] 47) =W0 at kb W2 T2 s2⊢
  refine wpIn_rangeFunc_ownG rfl (by decide) (gf:=235) (lb:= #[.pointer (some ⟨w1.heap.size,0,none⟩)]) rfl trivial (enters_of Tryz.func235 (by kernel_rfl) rfl)
   (crew_stops (fun k: {k:Nat // k∈kidsN ps i}=>k.1) (kidsN ps i).attach (3 - 1) w1.heap.size C hmap (fun A B=>TabZ A→TabZ B) W0 (by decide) hkc kb.out W2.out.tab (fun A B h=>h))
   (fun h k t=>k (h t)) (fun W q o o' _ h hc _ hT=>tab_keep hT (fun cs t fr h0=>World.putObj_heap_other (by rintro rfl;rw [h] at h0;cases h0;cases hc))) (Below.refl _ _) (fun _=>rfl)
   (fun pre W=>(∃v',WkAt W zs z A cap ps pp pd po v' (o ++ pre.flatMap fun k=>downF ps m k.1))∧WkTo z po w W)
   (fun _ _ _=>False)
   (OwnFrom.and (Go.Own.from (fun s A B row hs hg hr=>by obtain⟨v',h1⟩:=hs;exact⟨v',h1.grown hg hr⟩) _) (fun s A B row hs hg hr=>hs.grown hg (fun r e=>by have:=(hr r e).1;omega) hzz))
   (fun c=>fun _ _ _ _ hs _ _=>hs)
   ⟨⟨v,by simpa using W2.out⟩,T2.out⟩
   (fun x=>{tmps:= #[.int .i64 i,.pointer (some ⟨pp,0,none⟩),.pointer (some ⟨pd,0,none⟩),.pointer (some ⟨po,0,none⟩),undef,.int .i64 x.1,.slice A ps.length cap,.int .i64 i,.int .u64 C,.func (.func 235) #[] #[.pointer (some ⟨w1.heap.size,0,none⟩)],.int .i64 x.1,undef,undef,undef,undef,undef,undef,undef],defers:= []}) ?assign ?body ?done ?stop
  case assign=>
   intro q x W Kc hK
   gi_wp2
   exact hK
  case body=>
   rintro q pre x W ⟨⟨v',hWk⟩,hT⟩ hlen2;have KW:=LH hWk;have KT:=LH hT;have cd:=bC hWk.cd;have zd:=lB hWk.cd;have hfl:=flat_len48 (f:=fun k: {k:Nat // k∈kidsN ps i}=>downF ps m k.1) (l:=pre) fun y _=>HDL.out y;have hll: (o ++ pre.flatMap fun k=>downF ps m k.1).length+2400* (m+1)≤67108864:=by rw [List.length_append];omega
   have HI:=LH (IH.out x W v' _ KW.out hll);have hpre:Hid ((o ++ pre.flatMap fun k=>downF ps m k.1) ++ downF ps m x.1=o ++ (pre ++ [x]).flatMap fun k=>downF ps m k.1):=LH (by simp);rw [hpre.out] at HI;clear hWk hT hll hfl;obtain⟨xk,hxk⟩:=x;dsimp only at HI
   gi_wp2_with fail
   refine⟨trivial,?_⟩;refine(CallsIn.inRound q (callsIn_wide.2 HI.out)).mono ?_;rintro e w5 ⟨rfl,⟨v5,h5⟩,t5⟩;have H5:=LH h5;have T5:=LH t5;clear h5 t5
   gi_wp2_with fail
   exact⟨T5.out.keeps _,fun _=>H5.out.tab,⟨v5,H5.out⟩,KT.out.trans T5.out⟩
  case done=>
   rintro D ys W hD hys ⟨⟨v',hWk⟩,hT⟩ hK;have hys':ys= (kidsN ps i).attach:=hys;rw [hys'] at hWk;clear hys hys';have hfl:=flat_len48 (f:=fun k: {k:Nat // k∈kidsN ps i}=>downF ps m k.1) (l:=(kidsN ps i).attach) fun y _=>HDL.out y;have DE:Hid (natZ (o ++ (kidsN ps i).attach.flatMap fun k=>downF ps m k.1) ++ [(i:Int)] =natZ (o ++ DD)):=LH (by rw [hDe.out];simp [natZ]);have hol: (natZ (o ++ (kidsN ps i).attach.flatMap fun k=>downF ps m k.1)).length≤67107000:=by simp only [natZ,List.length_map,List.length_append];omega
   generalize (o ++ (kidsN ps i).attach.flatMap fun k=>downF ps m k.1) =O at*;have KW:=LH hWk;have KT:=LH hT;have KK:=LH hK;have co:=bC hWk.co;have fo:=bF hWk.co;have zo:=lB hWk.co;have hz3:=hWk.z3;obtain⟨A1,c1,rfl,_⟩:=hWk.own.form;clear hWk hT hK
   gi_wp2_with ((gi_at_builtin;refine wpListIn_push tyZ rfl _ _ rfl encZ W z _ (natZ O) rfl KW.out.own (i:Int) (by go_simp) rfl ?c1 ?c2 ?c3 ?c4))
   case c1=>omega
   case c2=>simp only [maxLen];omega
   case c3=>exact hz3
   case c4=>
    intro v6 w6 hown6 hgrow6 _ _ hb6 _;rw [DE.out] at hown6;obtain⟨A6,c6,rfl,_⟩:=hown6.form;have fin:=KW.out.store hgrow6 hown6;have FIN:=LH fin;have hpo:po<z:=KW.out.z2.2.2.2;have fo6:w6.frozen? ⟨po,0,none⟩ =false:=(hb6.frozen (p:=⟨po,0,none⟩) hpo).trans (fo 0);have co6:=(hb6.cell (p:=⟨po,0,none⟩) hpo).trans (co 0);have zo6:po<w6.heap.size:=by have:=hgrow6.size;omega
    clear hown6 hgrow6 hb6 fin co fo
    gi_wp2_with fail
    have hK6:=FIN.out.2.oth D _ KK.out rfl;refine⟨by simp,.inl ⟨_,_,rfl,run_takeDeferred hK6,?_⟩⟩;have hgp:=grownBy_putObj' ((w6.setCell ⟨po,0,none⟩ (.slice A6 (natZ (o ++ DD)).length c6))) D (.deferred none);refine⟨.tuple #[],by simp [results,Tryz.f194,go_sem],rfl,⟨_,FIN.out.1.grown hgp (fun r e=>by cases e;exact⟨_,hK6,rfl⟩)⟩,(KT.out.trans FIN.out.2).grown hgp (fun r e=>by cases e;omega) hzz⟩
  case stop=>
   rintro D c pre W hD hpre h hK;exact h.elim
theorem grove_walk (w:World) (A:Option Addr) (cap:Nat) (ps:List Int) (i:Nat) (l:List Nat) (hS:Sl w w.heap.size encZ A ps) (hT:TabZ w) (WY:Ways ps) (h48:ps.length≤48) (hl:IsWay ps i l) :
 Calls Tryz.prog 145 #[.slice A ps.length cap,.int .i64 i] w fun e w'=>∃v,e=.returned v∧Own w' w.heap.size 3 encZ v (natZ (downF ps ps.length i))∧Below w.heap.size w w':=by
 have z0:0<w.heap.size:=by
  rcases Nat.lt_or_ge 0 w.heap.size with h'|h'
  ·exact h'
  ·have hc:=hT 0 (by decide)
   simp [World.cell?,Array.getElem?_eq_none h'] at hc
 have hlen:1≤l.length:=by obtain⟨t,rfl⟩:=hl.head;simp
 have HD:=LH (fun W v o h1 h2=>grove_down ps WY h48 w.heap.size (w.heap.size+3) A cap w.heap.size (w.heap.size+1+1) (w.heap.size+1) ps.length W v o i l hl (by omega) h1 h2);have HS:=LH hS;have HT:=LH hT;clear hS hT hl hlen;generalize downF ps ps.length i=DD at HD⊢
 go_enter Tryz.func145,Tryz.ntmps145
 go_upto_region 4 with fail;have B0:Below w.heap.size w (((w.alloc (.cells #[.slice A ps.length cap] 22)).alloc (.cells #[.slice none 0 0] 22)).alloc (.cells #[.func (.func 194) #[] #[.pointer (some ⟨w.heap.size,0,none⟩),.pointer (some ⟨w.heap.size+1+1,0,none⟩),.pointer (some ⟨w.heap.size+1,0,none⟩)]] 181)):=bE
 have K0:WkAt (((w.alloc (.cells #[.slice A ps.length cap] 22)).alloc (.cells #[.slice none 0 0] 22)).alloc (.cells #[.func (.func 194) #[] #[.pointer (some ⟨w.heap.size,0,none⟩),.pointer (some ⟨w.heap.size+1+1,0,none⟩),.pointer (some ⟨w.heap.size+1,0,none⟩)]] 181)) w.heap.size (w.heap.size+3) A cap ps w.heap.size (w.heap.size+1+1) (w.heap.size+1) (.slice none 0 0) []:=
  ⟨(Below.heap_alloc _ _ _ (by simp;omega)).trans ((Below.heap_alloc _ _ _ (by simp)).trans (heap_alloc_new w _)),heap_new_at ((w.alloc _).alloc _) _ _ (by simp),(Below.heap_alloc _ _ _ (by simp)).trans (heap_new_at (w.alloc _) _ _ (by simp)),Own.nil _ _ _ _,
   HS.out.keep (Nat.le_refl _) fun p hp=>B0.cell hp,HT.out.below B0,z0,by omega,by omega,by simp⟩
 have K1:=LH K0;have B1:=LH B0;clear K0 B0;generalize (((w.alloc (.cells #[.slice A ps.length cap] 22)).alloc (.cells #[.slice none 0 0] 22)).alloc (.cells #[.func (.func 194) #[] #[.pointer (some ⟨w.heap.size,0,none⟩),.pointer (some ⟨w.heap.size+1+1,0,none⟩),.pointer (some ⟨w.heap.size+1,0,none⟩)]] 181)) =W0 at K1 B1⊢;have cd:=bC K1.out.cd;have zd:=lB K1.out.cd;have HC:=LH (HD.out W0 _ _ K1.out (by simp;omega));go_wp2_with fail;refine HC.out.mono ?_;rintro e w1 ⟨rfl,⟨v',h1⟩,t1⟩;have H1:=LH h1;have BF:Hid (Below w.heap.size w w1):=LH ⟨t1.os.trans B1.out.os,t1.tape.trans B1.out.tape,t1.output.trans B1.out.output,Nat.le_trans B1.out.size t1.size,fun k hk=>(t1.low k (by omega) (by omega)).trans (B1.out.block k hk)⟩;have co:=bC h1.co;have zo:=lB h1.co;clear h1 t1 cd zd HC;obtain⟨A1,c1,rfl,_⟩:=H1.out.own.form;go_wp2_with fail;exact bR (v:=.slice A1 (natZ ([] ++ DD)).length c1) (by simp only [results,Tryz.results145];go_simp) rfl ⟨_,rfl,H1.out.own.base_le (by omega),BF.out⟩
def OrdPost (ps:List Int) (w:World) (e:Ending) (w':World) :Prop:=∃v,e=.returned (.tuple #[v,.int .i64 0])∧Own w' w.heap.size 3 encZ v (natZ (orderG ps))∧Below w.heap.size w w'
theorem grove_Order (w:World) (A:Option Addr) (cap:Nat) (ps:List Int) (hS:Sl w w.heap.size encZ A ps) (hT:TabZ w) (hR:rightG ps=true) :Calls Tryz.prog 82 #[.slice A ps.length cap] w (OrdPost ps w):=by
 have hm:ps.length≤48:=by simp only [rightG,Bool.and_eq_true,decide_eq_true_eq] at hR;exact hR.1.1.2
 have HR:=LH (grove_Root w A cap ps hS (by unfold maxLen;omega));rw [if_pos hR,if_pos hR] at HR;have HW:=LH (fun W (h:Below w.heap.size w W)=>grove_walk W A cap ps (rootG ps) _ (hS.keep h.size fun p hp=>h.cell hp) (hT.below h) (rightG_ways hR) hm (.root (rightG_root hR)));unfold OrdPost orderG;clear hS hR hT hm;generalize downF ps ps.length (rootG ps) =DD at HW⊢;generalize rootG ps=R at*;generalize ps.length=n at*
 go_enter Tryz.func82,Tryz.ntmps82
 go_wp2_with fail;refine(HR.out).mono ?_;rintro e w1 ⟨rfl,hb1⟩;have B1:Below w.heap.size w w1:=Below.then_ bE hb1;have s1:=B1.size;go_wp2_with fail;refine(HW.out _ B1).mono ?_;rintro e w2 ⟨v,rfl,hv,hb2⟩;have B2:=LH (Below.then_ B1 hb2);have HV:=LH (hv.base_le s1);obtain⟨A1,c1,rfl,_⟩:=hv.form;clear hv hb2;go_wp2_with fail;exact bR (v:=.tuple #[.slice A1 (natZ DD).length c1,.int .i64 0]) (by simp only [results,Tryz.results82];go_simp) rfl ⟨_,rfl,HV.out,B2.out⟩
theorem grove_Order_no (w:World) (A:Option Addr) (cap:Nat) (ps:List Int) (hS:Sl w w.heap.size encZ A ps) (hm:ps.length≤maxLen) (hR:rightG ps=false) :Calls Tryz.prog 82 #[.slice A ps.length cap] w fun e w'=>e=.returned (.tuple #[.slice none 0 0,.int .i64 15])∧Below w.heap.size w w':=by
 have HR:=LH (grove_Root w A cap ps hS hm);rw [if_neg (by rw [hR];decide),if_neg (by rw [hR];decide)] at HR;clear hS hR;generalize ps.length=n at*
 go_enter Tryz.func82,Tryz.ntmps82
 go_wp2_with fail;refine(HR.out).mono ?_;rintro e w1 ⟨rfl,hb1⟩;have B1:Below w.heap.size w w1:=Below.then_ bE hb1;have s1:=B1.size;go_wp2_with fail;exact bR (v:=.tuple #[.slice none 0 0,.int .i64 15]) (by simp only [results,Tryz.results82];go_simp) rfl ⟨rfl,B1⟩
end
def plcE (ps:List Int) (wt:Int) (i:Nat) :Plc:=⟨i,kidsC ps i,wt⟩
def newE (ps:List Int) (l k K wt ep:Int) :Int:=if rightG ps=false then 15 else if newS l k K (plcE ps wt 0) ep=false then 2 else 0
def epNew (ps:List Int) (l k K wt ep:Int) :EpM:=⟨(List.range ps.length).map fun i=>(senNew l k K (plcE ps wt i) ep, []),⟨0,0,0,0,0, []⟩,false,false⟩
theorem kids_not_me {ps:List Int} (h:rightG ps=true) {i:Nat} (hi:i<ps.length) :hasC (kidsC ps i) (i:Int) =false:=by
 have h48:=(rightG_len h).2;rw [bit_has (by omega)];unfold kidsC;rw [kidF_bit ps i _ h48]
 have:ps[i]? ≠some (i:Int):=fun e=>by
  obtain⟨l,hl,_⟩:=rightG_ways h i hi;exact hl.not_below e hl.mem
 simp [this]
theorem kids_right {ps:List Int} (h:rightG ps=true) (i:Int) :rightC (kidsC ps i) =true:=by
 have h48:=(rightG_len h).2;have h1:=kidF_lt ps i h48;have h2:=Nat.pow_le_pow_right (n:=2) (by decide) h48;unfold rightC kidsC;simp only [decide_eq_true_eq];omega
theorem right_plc {ps:List Int} (h:rightG ps=true) (wt:Int) {i:Nat} (hi:i<ps.length) :rightS (plcE ps wt i) = (decide (1≤wt) && decide (wt≤1048576)):=by
 have h48:=(rightG_len h).2;have hc:isCrew (i:Int) =true:=by simp only [isCrew,decide_eq_true_eq];omega
 unfold rightS plcE;dsimp only;rw [hc,kids_right h,kids_not_me h hi];simp
theorem new_same {ps:List Int} (h:rightG ps=true) {l k K wt ep:Int} {i:Nat} (hi:i<ps.length) :newS l k K (plcE ps wt i) ep=newS l k K (plcE ps wt 0) ep:=by
 unfold newS;rw [right_plc h wt hi,right_plc h wt (by omega)]
structure EpPa (w:World) (base g K l gw:Nat) (vp vo vs:Value) (gs:List Nat) (ps:List Int) (ss:List SR) (Fs:Nat→Nat→Prop) :Prop where
 cs:w.heap[g]? =some (.cells #[.pointer (some ⟨gw,0,none⟩),vp,vo,vs,.bool false,.bool false] 101 (0,0))
 gb:base≤g
 bs:base≤w.heap.size
 wv:WaveAt w base gw ⟨0,0,0,0,0, []⟩
 p:Own w base 3 encZ vp ps
 o:Own w base 3 encZ vo (ordZ ps)
 s:Own w base 89 encEp vs gs
 lg:gs.length=ss.length
 at_: ∀i x,ss[i]? =some x→SensAt w (gs.getD i 0) K l x.1 x.2 (Fs i)
 fb: ∀i,i<ss.length→∀b,Fs i b→base≤b
 ap: ∀i j,i<ss.length→j<ss.length→i≠j→∀b,Fs i b→¬Fs j b
 fp: ∀i,i<ss.length→∀b,Fs i b→vp.ownBlock≠some b∧vo.ownBlock≠some b
section
variable {w W W2 W3:World} {base g K l gw:Nat} {vp vo vs vs':Value} {gs:List Nat} {ps:List Int} {ss:List SR} {Fs:Nat→Nat→Prop}
theorem EpPa.below (h:EpPa W base g K l gw vp vo vs gs ps ss Fs) (hb:Below W.heap.size W W2) :EpPa W2 base g K l gw vp vo vs gs ps ss Fs:=
 ⟨bB h.cs hb,h.gb,Nat.le_trans h.bs hb.size,h.wv.below hb,h.p.below hb,h.o.below hb,h.s.below hb,h.lg,fun i x hx=>(h.at_ i x hx).below hb,h.fb,h.ap,h.fp⟩
theorem EpPa.add (h:EpPa W base g K l gw vp vo vs gs ps ss Fs) (hb:Below W.heap.size W W2) {gx:Nat} {x:SR} {Fx:Nat→Prop} (hs:SensAt W2 gx K l x.1 x.2 Fx) (hF: ∀b,Fx b→W.heap.size≤b) (hg:W2.grownBy W3 vs.ownBlock) (ho:Own W3 base 89 encEp vs' (gs ++ [gx])) :
 EpPa (W3.setCell ⟨g,3,none⟩ vs') base g K l gw vp vo vs' (gs ++ [gx]) ps (ss ++ [x]) (fun i=>if i=ss.length then Fx else Fs i):=by
 have h2:=h.below hb;have hn:vs.ownBlock≠some g:=h2.s.ne_block h2.cs (by decide);have kb: ∀b,b<W2.heap.size→vs.ownBlock≠some b→b≠g→(W3.setCell ⟨g,3,none⟩ vs').heap[b]? =W2.heap[b]? :=fun b hlt hne hgb=>(Below.heap_setCell _ _ _ _ hgb).trans (hg.block b hlt (Ne.symm hne));have kt: ∀{b t:Nat},TypeAt W2 b t→t≠89∧t≠101→(W3.setCell ⟨g,3,none⟩ vs').heap[b]? =W2.heap[b]? :=fun {b t} hT ht=>kb b hT.lt (fun e=>ht.1 (typeAt_eq hT (own_tyAt h2.s b e))) (by rintro rfl;exact ht.2 (typeAt_eq hT (.of h2.cs)));have ks: ∀{gi:Nat} {s:Sen} {r:List Nd} {Fi:Nat→Prop},SensAt W2 gi K l s r Fi→SensAt (W3.setCell ⟨g,3,none⟩ vs') gi K l s r Fi:=fun {gi s r Fi} hi=>hi.keep fun b hb=>kb b (hi.lt b hb) (fun e=>hi.not_type (own_tyAt h2.s b e) (by decide) hb) (by rintro rfl;exact hi.not_type (.of h2.cs) (by decide) hb);have hs3:W2.heap.size≤(W3.setCell ⟨g,3,none⟩ vs').heap.size:=by simp [World.setCell];exact hg.size
 have hll: ∀i,i< (ss ++ [x]).length→i=ss.length∨i<ss.length:=fun i hi=>by rw [List.length_append,List.length_singleton] at hi;omega
 refine⟨?_,h.gb,Nat.le_trans h2.bs hs3,?_,?_,?_,?_,by simp [h.lg],?_,?_,?_,?_⟩
 ·exact zH (i:=3) ((hg.block g (lB h2.cs) (Ne.symm hn)).trans h2.cs) vs'
 ·exact h2.wv.keepF fun b hb=>by
   rcases (h2.wv.type hb).1 with h|h
   ·exact kt h (by decide)
   ·exact kt h (by decide)
 ·exact h2.p.of_block fun b hb=>kt (own_tyAt h2.p b hb) (by decide)
 ·exact h2.o.of_block fun b hb=>kt (own_tyAt h2.o b hb) (by decide)
 ·exact ho.setCell (p:=⟨g,3,none⟩) (fun e=>by
   obtain⟨cs,fr,hh⟩:=own_tyAt ho g e;have:=(hg.block g (lB h2.cs) (Ne.symm hn)).trans h2.cs;rw [this] at hh
   cases hh) vs'
 ·intro i y hy
  rcases hll i (List.getElem?_eq_some_iff.1 hy).1 with rfl|hi
  ·rw [List.getElem?_append_right (Nat.le_refl _),Nat.sub_self] at hy
   cases hy
   rw [if_pos rfl,←h.lg,List.getD_eq_getElem?_getD,List.getElem?_append_right (Nat.le_refl _),Nat.sub_self];exact ks hs
  ·rw [List.getElem?_append_left hi] at hy
   rw [if_neg (by omega),List.getD_eq_getElem?_getD,List.getElem?_append_left (by rw [h.lg];exact hi),←List.getD_eq_getElem?_getD];exact ks (h2.at_ i y hy)
 ·intro i hi b hf
  rcases hll i hi with rfl|hi
  ·rw [if_pos rfl] at hf
   exact Nat.le_trans h.bs (hF b hf)
  ·rw [if_neg (by omega)] at hf
   exact h.fb i hi b hf
 ·intro i j hi hj hij b hf hf2
  rcases hll i hi with rfl|hi
  ·rcases hll j hj with rfl|hj
   ·exact hij rfl
   ·rw [if_pos rfl] at hf
    rw [if_neg (by omega)] at hf2;have h3:=hF b hf;have h4:=(h.at_ j _ (List.getElem?_eq_getElem hj)).lt b hf2;omega
  ·rw [if_neg (by omega)] at hf
   rcases hll j hj with rfl|hj
   ·rw [if_pos rfl] at hf2
    have h3:=hF b hf2;have h4:=(h.at_ i _ (List.getElem?_eq_getElem hi)).lt b hf;omega
   ·rw [if_neg (by omega)] at hf2
    exact h.ap i j hi hj hij b hf hf2
 ·intro i hi b hf
  rcases hll i hi with rfl|hi
  ·rw [if_pos rfl] at hf
   have h3:=hF b hf;exact⟨fun e=>by have:=(h.p.lt b e).2;omega,fun e=>by have:=(h.o.lt b e).2;omega⟩
  ·rw [if_neg (by omega)] at hf
   exact h.fp i hi b hf
theorem EpPa.done (h:EpPa W base g K l gw vp vo vs gs ps ss Fs) (hl:ss.length=ps.length) : ∃F,EpAt W ⟨base,g,K,l,gw,vp,vo,vs,gs,ps⟩ ⟨ss,⟨0,0,0,0,0, []⟩,false,false⟩ F:=
 ⟨epF W ⟨base,g,K,l,gw,vp,vo,vs,gs,ps⟩ Fs,Fs,⟨h.cs,h.gb,h.bs,h.wv,h.p,h.o,h.s,by rw [←hl];exact h.lg,hl,h.at_,fun i hi=>h.fb i (by rw [hl];exact hi),fun i j hi hj=>h.ap i j (by rw [hl];exact hi) (by rw [hl];exact hj),fun i hi=>h.fp i (by rw [hl];exact hi)⟩,fun b=>Iff.rfl⟩
end
def NewEp (ps:List Int) (l K:Nat) (k wt ep:Int) (w:World) (e:Ending) (w':World) :Prop:=
 ∃(L:EpL) (F:Nat→Prop),e=.returned (.tuple #[.pointer (some ⟨L.g,0,none⟩),.int .i64 0])∧EpAt w' L (epNew ps l k K wt ep) F∧L.ps=ps∧L.l=l∧L.K=K∧L.base=w.heap.size∧Below w.heap.size w w'
theorem ep_New_tree (w:World) (A:Option Addr) (cap:Nat) (ps:List Int) (l k K wt ep:Int) (hS:Sl w w.heap.size encZ A ps) (hm:ps.length≤maxLen) (hR:rightG ps=false) :
 Calls Tryz.prog 37 #[.slice A ps.length cap,confV l k K,.int .i64 wt,.int .i64 ep] w fun e w'=>e=.returned (.tuple #[.pointer none,.int .i64 15])∧Below w.heap.size w w':=by
 unfold confV;have HO:=LH (fun W (h:Below w.heap.size w W)=>grove_Order_no W A cap ps (hS.keep h.size fun p hp=>h.cell hp) hm hR);have hb0:Below w.heap.size w (w.alloc (.cells #[.int .i64 l,.int .i64 k,.int .i64 K] 24)):=bE;have HO0:=LH (HO.out _ hb0);clear hS hR hb0 HO;generalize ps.length=n at*
 go_enter Tryz.func37,Tryz.ntmps37
 go_wp2_with fail;refine(HO0.out).mono ?_;rintro e w1 ⟨rfl,hb1⟩;have B1:Below w.heap.size w w1:=Below.then_ bE hb1;have s1:=B1.size;go_wp2_with fail;exact bR (v:=.tuple #[.pointer none,.int .i64 15]) (by simp only [results,Tryz.results37];go_simp) rfl ⟨rfl,B1⟩
theorem WaveAt.base_le {w:World} {base b g:Nat} {s:WS} (h:WaveAt w base g s) (hb:b≤base) :WaveAt w b g s:=by
 obtain⟨v,hh,hg,ho⟩:=h;exact⟨v,hh,Nat.le_trans hb hg,ho.base_le hb⟩
theorem clone_ints (w:World) (A:Option Addr) (cap:Nat) (ps:List Int) (hS:Sl w w.heap.size encZ A ps) (h0:0<ps.length) (hm:ps.length≤48) :
 Calls Tryz.prog 84 #[.slice A ps.length cap] w fun e w'=>∃v,e=.returned v∧Own w' w.heap.size 3 encZ v ps∧Below w.heap.size w w':=by
 obtain⟨b,off,rfl,hb,hcl⟩:=hS.at_ h0;clear hcl
 refine(Tryz.slices_Clone_int b off ps.length cap ps w (Nat.le_refl _) (by omega) (fun j hj=>by
  rcases hS with h0| ⟨b',off',hA,_,hc⟩
  ·subst h0;simp at hj
  ·cases hA
   have:=hc j _ (List.getElem?_eq_getElem hj) 0 (.int .i64 ps[j]) rfl;rw [Nat.mul_one,Nat.add_zero] at this;rw [this];simp [List.getD,hj])).mono ?_
 rintro e w' ⟨v,rfl,hrow,_,hbl⟩;rw [List.take_length] at hrow
 have hfl:ps.map (Value.int .i64) =ps.flatMap encZ.enc:=by
  clear hrow hS h0 hm
  induction ps with
  |nil=>rfl
  |cons x t ih=>rw [List.map_cons,List.flatMap_cons,ih];rfl
 rw [hfl] at hrow;exact⟨v,rfl,Own.of_row hrow rfl (by decide),hbl⟩
theorem ep_New (w:World) (A:Option Addr) (cap:Nat) (ps:List Int) (l K:Nat) (k wt ep:Int) (hS:Sl w w.heap.size encZ A ps) (hT:TabZ w) (hR:rightG ps=true) (hN:newS l k K (plcE ps wt 0) ep=true) :
 Calls Tryz.prog 37 #[.slice A ps.length cap,confV l k K,.int .i64 wt,.int .i64 ep] w (NewEp ps l K k wt ep w):=by
 unfold confV;have hn:=rightG_len hR;have hb0:Below w.heap.size w (w.alloc (.cells #[.int .i64 l,.int .i64 k,.int .i64 K] 24)):=bE;have c0:=LH (heap_alloc_new w (.cells #[.int .i64 l,.int .i64 k,.int .i64 K] 24));have SL:=LH (fun W (h:Below w.heap.size w W)=>(hS.keep (B':=W.heap.size) h.size (fun p hp=>h.cell hp) :Sl W W.heap.size encZ A ps));have HO:=LH (fun W (h:Below w.heap.size w W)=>grove_Order W A cap ps (SL.out W h) (hT.below h) hR);have HC:=LH (fun W (h:Below w.heap.size w W)=>clone_ints W A cap ps (SL.out W h) (by omega) hn.2);have HK:=LH (fun W (h:Below w.heap.size w W) i hi=>grove_Kids W A cap ps i (SL.out W h) hR hi)
 have HNs:Hid (∀W i,i<ps.length→Calls Tryz.prog 86 #[.agg #[.int .i64 l,.int .i64 k,.int .i64 K],.agg #[.int .i64 i,.int .u64 (kidsC ps i),.int .i64 wt],.int .i64 ep] W (SenPost K l (senNew l k K (plcE ps wt i) ep) W)):=LH fun W i hi=>
  sensor_New W l K k (plcE ps wt i) ep (kidF_lt64 ps i hn.2) (by rw [new_same hR hi];exact hN)
 clear hS hT hN;obtain⟨n,hnn⟩ : ∃n,n=ps.length:=⟨_,rfl⟩;have HNn:=LH hnn
 have HP:Hid (∀W g gw vp vo vs gs Fs,EpPa W w.heap.size g K l gw vp vo vs gs ps ((List.range n).map fun i=>(senNew l k K (plcE ps wt i) ep, [])) Fs→Below w.heap.size w W→NewEp ps l K k wt ep w (.returned (.tuple #[.pointer (some ⟨g,0,none⟩),.int .i64 0])) W):=LH fun W g gw vp vo vs gs Fs h hb=>by
  obtain⟨F,hA⟩:=h.done (by rw [List.length_map,List.length_range,hnn]);rw [hnn] at hA;exact⟨_,F,rfl,hA,rfl,rfl,rfl,rfl,hb⟩
 unfold OrdPost at HO;rw [←hnn] at hn HC HK HNs HO⊢;have HO0:=LH (HO.out _ hb0);clear hnn HO;generalize NewEp ps l K k wt ep w=PP at*;obtain⟨pc,hpc⟩ : ∃q,q=w.heap.size:=⟨_,rfl⟩
 go_enter Tryz.func37,Tryz.ntmps37
 go_upto_region 1 with fail;have c0':=c0;rw [←hpc] at c0'⊢;have zz:w.heap.size≤pc:=by omega
 generalize w.alloc (.cells #[.int .i64 l,.int .i64 k,.int .i64 K] 24) =W0 at c0' HO0 hb0⊢;clear c0 hpc;go_wp2_with fail;refine HO0.out.mono ?_;rintro e w1 ⟨vo,rfl,ho,hb1⟩;have B1:=LH (hb0.trans (hb1.mono hb0.size));have C1:=LH (bB c0'.out hb1);have O1:=LH (ho.base_le hb0.size);clear ho hb1 c0' hb0 HO0;go_wp2_with fail;refine(wave_New w1).mono ?_;rintro e w2 ⟨rfl,hb2,hw2⟩;have B2:=LH (B1.out.trans (hb2.mono B1.out.size));have C2:=LH (bB C1.out hb2);have O2:=LH (O1.out.below hb2);have W2:=LH (hw2.base_le B1.out.size);clear hw2 hb2 C1 O1;go_wp2_with fail;refine(HC.out w2 B2.out).mono ?_;rintro e w3 ⟨vp,rfl,hp,hb3⟩;have B3:=LH (B2.out.trans (hb3.mono B2.out.size));have C3:=LH (bB C2.out hb3);have O3:=LH (O2.out.below hb3);have W3:=LH (W2.out.below hb3);have P3:=LH (hp.base_le B2.out.size);clear hp hb3 C2 O2 W2;obtain⟨Ap,cp,rfl,_⟩:=P3.out.form;obtain⟨Ao,co,rfl,_⟩:=O3.out.form;go_upto_region 5 with fail
 have E0:EpPa (w3.alloc (.cells #[.pointer (some ⟨w1.heap.size,0,none⟩),.slice Ap ps.length cp,.slice Ao (natZ (orderG ps)).length co,.slice none 0 0,.bool false,.bool false] 101)) w.heap.size w3.heap.size K l w1.heap.size (.slice Ap ps.length cp) (.slice Ao (natZ (orderG ps)).length co) (.slice none 0 0) [] ps [] (fun _ _=>False):=by
  have ba:Below w3.heap.size w3 (w3.alloc (.cells #[.pointer (some ⟨w1.heap.size,0,none⟩),.slice Ap ps.length cp,.slice Ao (natZ (orderG ps)).length co,.slice none 0 0,.bool false,.bool false] 101)):=(Below.refl _ _).alloc (Nat.le_refl _) _;exact⟨heap_alloc_new w3 _,B3.out.size,Nat.le_trans B3.out.size ba.size,W3.out.below ba,P3.out.below ba,O3.out.below ba,Own.nil _ _ _ _,rfl,fun i x h=>by simp at h,fun i h=>by simp at h,fun i j h=>by simp at h,fun i h=>by simp at h⟩
 have E1:=LH E0;have B4:Hid (Below w.heap.size w (w3.alloc (.cells #[.pointer (some ⟨w1.heap.size,0,none⟩),.slice Ap ps.length cp,.slice Ao (natZ (orderG ps)).length co,.slice none 0 0,.bool false,.bool false] 101))):=LH (B3.out.alloc B3.out.size _);have C4:Hid ((w3.alloc (.cells #[.pointer (some ⟨w1.heap.size,0,none⟩),.slice Ap ps.length cp,.slice Ao (natZ (orderG ps)).length co,.slice none 0 0,.bool false,.bool false] 101)).heap[pc]? =some (.cells #[.int .i64 l,.int .i64 k,.int .i64 K] 24 (0,0))):=LH (bB C3.out ((Below.refl _ _).alloc (Nat.le_refl _) _));have hpcg:pc≠w3.heap.size:=by have:=lB C3.out;omega
 clear E0 C3 O3 W3 P3 B3 B2 B1;generalize w3.alloc (.cells #[.pointer (some ⟨w1.heap.size,0,none⟩),.slice Ap ps.length cp,.slice Ao (natZ (orderG ps)).length co,.slice none 0 0,.bool false,.bool false] 101) =W4 at E1 B4 C4⊢;generalize Value.slice Ap ps.length cp=vp at*;generalize Value.slice Ao (natZ (orderG ps)).length co=vo at*;generalize w3.heap.size=g at*;generalize w1.heap.size=gw at*;go_wp2_with fail
 go_loopw [35] (fun i wr=>∃(q:Nat) (vs:Value) (gs:List Nat) (Fs:Nat→Nat→Prop),i=.int .i64 q∧q≤n∧EpPa wr w.heap.size g K l gw vp vo vs gs ps ((List.range q).map fun i=>(senNew l k K (plcE ps wt i) ep, [])) Fs∧wr.heap[pc]? =some (.cells #[.int .i64 l,.int .i64 k,.int .i64 K] 24 (0,0))∧Below w.heap.size w wr) (fun i _=>n - (intOf i).toNat)
 case atStart=>exact⟨0,_,_,_,rfl,Nat.zero_le _,E1.out,C4.out,B4.out⟩
 case round=>
  obtain⟨q,vs,gs,Fs,rfl,hq,hE,hC,hB⟩:=hrel;have KE:=LH hE;have KC:=LH hC;have KB:=LH hB;clear hE hC hB;by_cases hlt:q<n
  ·have hrange:Hid ((List.range (q+1)).map (fun i=>((senNew l k K (plcE ps wt i) ep, []) :SR)) = (List.range q).map (fun i=>(senNew l k K (plcE ps wt i) ep, [])) ++ [(senNew l k K (plcE ps wt q) ep, [])]):=LH (by rw [List.range_succ,List.map_append];rfl)
   go_wp2_with fail;refine(HK.out wr KB.out q hlt).mono ?_;rintro e w5 ⟨rfl,hb5⟩;have c5:=bB KC.out hb5;have cc:=bC c5;have zc:=lB c5;have E5:=LH (KE.out.below hb5);have C5:=LH c5;have B5:=LH (KB.out.trans (hb5.mono KB.out.size));clear hb5 c5;go_wp2_with fail;refine(HNs.out w5 q (by have:=HNn.out;omega)).mono ?_;rintro e w6 ⟨gx,Fx,rfl,hs,hF,hb6⟩;have S6:=LH hs;have F6:=LH hF;have H6:=LH hb6;have e6:=E5.out.below hb6;have C6:=LH (bB C5.out hb6);have B6:=LH (B5.out.trans (hb6.mono B5.out.size));have O6:=LH e6.s;have c6:=bC e6.cs;have z6:=lB e6.cs;have f6:=bF e6.cs;have hgl:Hid (gs.length=q):=LH (by rw [KE.out.lg];simp);have n1:=e6.s.ne_block e6.cs (by decide);obtain⟨As,cs,rfl,_⟩:=e6.s.form;have hbw:w.heap.size≤w6.heap.size:=B6.out.size;have E6:=LH e6;clear hs hF hb6 e6 cc zc;go_wp2_with ((at_builtin;refine wpList_push tyEp rfl _ _ rfl encEp w6 w.heap.size _ gs rfl O6.out gx (by go_simp) rfl ?c1 ?c2 ?c3 ?c4))
   case c1=>have:=hgl.out;omega
   case c2=>have:=hgl.out;simp only [maxLen];omega
   case c3=>exact hbw
   case c4=>
    intro v7 w7 hown7 hgrow7 hs7 _ hb7 _;have fin:=E5.out.add (x:=(senNew l k K (plcE ps wt q) ep, [])) H6.out S6.out F6.out hgrow7 hown7;rw [←hrange.out] at fin;have FIN:=LH fin;have c7:w7.heap[g]? =_:=(hgrow7.block g (lB E6.out.cs) (Ne.symm n1)).trans E6.out.cs;have cc7:=bC c7;have z7:=lB c7;have f7:=bF c7
    have k7:w7.heap[pc]? =_:=(hgrow7.block pc (lB C6.out) (fun e=>by
     obtain⟨cs2,fr2,hh⟩:=own_tyAt O6.out pc e.symm;rw [C6.out] at hh
     cases hh)).trans C6.out
    have K7:=LH ((Below.heap_setCell w7 ⟨g,3,none⟩ v7 pc hpcg).trans k7);have B7:=LH ((B6.out.trans hb7).setCell (p:=⟨g,3,none⟩) E6.out.gb v7);obtain⟨A7,c7c,rfl,_⟩:=hown7.form;have el: (gs ++ [gx]).length=gs.length+1:=by simp
    rw [el] at FIN K7 B7⊢;clear el hown7 hgrow7 hb7 fin c7 k7 c6 z6 f6;go_wp2_with fail;go_roundw
    case rel=>exact⟨q+1,_,gs ++ [gx],_,by go_num,by omega,FIN.out,K7.out,B7.out⟩
    case measure=>simp [intOf];omega
  ·obtain rfl:q=n:=by omega
   go_wp2_with fail;exact HP.out _ _ _ _ _ _ _ _ KE.out KB.out
theorem ep_New_arg (w:World) (A:Option Addr) (cap:Nat) (ps:List Int) (l k K wt ep:Int) (hS:Sl w w.heap.size encZ A ps) (hT:TabZ w) (hR:rightG ps=true) (hN:newS l k K (plcE ps wt 0) ep=false) :
 Calls Tryz.prog 37 #[.slice A ps.length cap,confV l k K,.int .i64 wt,.int .i64 ep] w fun e w'=>e=.returned (.tuple #[.pointer none,.int .i64 2])∧Below w.heap.size w w':=by
 unfold confV;have hn:=rightG_len hR;have hb0:Below w.heap.size w (w.alloc (.cells #[.int .i64 l,.int .i64 k,.int .i64 K] 24)):=bE;have c0:=LH (heap_alloc_new w (.cells #[.int .i64 l,.int .i64 k,.int .i64 K] 24));have SL:=LH (fun W (h:Below w.heap.size w W)=>(hS.keep (B':=W.heap.size) h.size (fun p hp=>h.cell hp) :Sl W W.heap.size encZ A ps));have HO:=LH (fun W (h:Below w.heap.size w W)=>grove_Order W A cap ps (SL.out W h) (hT.below h) hR);have HC:=LH (fun W (h:Below w.heap.size w W)=>clone_ints W A cap ps (SL.out W h) (by omega) hn.2);have HK:=LH (fun W (h:Below w.heap.size w W)=>grove_Kids W A cap ps 0 (SL.out W h) hR (by omega))
 have HNs:Hid (∀W,Calls Tryz.prog 86 #[.agg #[.int .i64 l,.int .i64 k,.int .i64 K],.agg #[.int .i64 0,.int .u64 (kidsC ps 0),.int .i64 wt],.int .i64 ep] W fun e w'=>e=.returned (.tuple #[.pointer none,.int .i64 2])∧Below W.heap.size W w'):=LH fun W=>
  sensor_New_no W l k K (plcE ps wt 0) ep (kidF_lt64 ps _ hn.2) hN
 clear hS hT hN;unfold OrdPost at HO;rw [show ((0:Nat) :Int) =0 from rfl] at HK;generalize ps.length=n at*;have HO0:=LH (HO.out _ hb0);clear HO;obtain⟨pc,hpc⟩ : ∃q,q=w.heap.size:=⟨_,rfl⟩
 go_enter Tryz.func37,Tryz.ntmps37
 go_upto_region 1 with fail;have c0':=c0;rw [←hpc] at c0'⊢;have zz:w.heap.size≤pc:=by omega
 generalize w.alloc (.cells #[.int .i64 l,.int .i64 k,.int .i64 K] 24) =W0 at c0' HO0 hb0⊢;rw [hpc] at*;clear c0;go_wp2_with fail;refine HO0.out.mono ?_;rintro e w1 ⟨vo,rfl,ho,hb1⟩;have B1:=LH (hb0.trans (hb1.mono hb0.size));have C1:=LH (bB c0'.out hb1);obtain⟨Ao,co,rfl,_⟩:=ho.form;clear ho hb1 c0' hb0 HO0;go_wp2_with fail;refine(wave_New w1).mono ?_;rintro e w2 ⟨rfl,hb2,hw2⟩;have B2:=LH (B1.out.trans (hb2.mono B1.out.size));have C2:=LH (bB C1.out hb2);clear hw2 hb2 C1;go_wp2_with fail;refine(HC.out w2 B2.out).mono ?_;rintro e w3 ⟨vp,rfl,hp,hb3⟩;have B3:=LH (B2.out.trans (hb3.mono B2.out.size));have C3:=LH (bB C2.out hb3);obtain⟨Ap,cp,rfl,_⟩:=hp.form;clear hp hb3 C2;go_upto_region 5 with fail;have B4:Hid (Below w.heap.size w (w3.alloc (.cells #[.pointer (some ⟨w1.heap.size,0,none⟩),.slice Ap ps.length cp,.slice Ao (natZ (orderG ps)).length co,.slice none 0 0,.bool false,.bool false] 101))):=LH (B3.out.alloc B3.out.size _);have C4:Hid ((w3.alloc (.cells #[.pointer (some ⟨w1.heap.size,0,none⟩),.slice Ap ps.length cp,.slice Ao (natZ (orderG ps)).length co,.slice none 0 0,.bool false,.bool false] 101)).heap[w.heap.size]? =some (.cells #[.int .i64 l,.int .i64 k,.int .i64 K] 24 (0,0))):=LH (bB C3.out ((Below.refl _ _).alloc (Nat.le_refl _) _));generalize w3.alloc (.cells #[.pointer (some ⟨w1.heap.size,0,none⟩),.slice Ap ps.length cp,.slice Ao (natZ (orderG ps)).length co,.slice none 0 0,.bool false,.bool false] 101) =W4 at B4 C4⊢;clear C3 B3 B2 B1 hpc zz;go_wp2_with fail
 go_loopw [35] (fun i wr=>i=.int .i64 0∧wr.heap[w.heap.size]? =some (.cells #[.int .i64 l,.int .i64 k,.int .i64 K] 24 (0,0))∧Below w.heap.size w wr) (fun i _=>0)
 case atStart=>exact⟨rfl,C4.out,B4.out⟩
 case round=>
  obtain⟨rfl,hC,hB⟩:=hrel;have KC:=LH hC;have KB:=LH hB;clear hC hB;have h0n: (0:Int) < (n:Int):=by omega
  go_wp2_with fail;refine(HK.out wr KB.out).mono ?_;rintro e w5 ⟨rfl,hb5⟩;have c5:=bB KC.out hb5;have cc:=bC c5;have zc:=lB c5;have B5:=LH (KB.out.trans (hb5.mono KB.out.size));clear hb5 c5;go_wp2_with fail;refine(HNs.out w5).mono ?_;rintro e w6 ⟨rfl,hb6⟩;have B6:=LH (B5.out.trans (hb6.mono B5.out.size));clear hb6 cc zc;go_wp2_with fail;exact bR (v:=.tuple #[.pointer none,.int .i64 2]) (by simp only [results,Tryz.results37];go_simp) rfl ⟨rfl,B6.out⟩
theorem OnTo.snoc_inv {l:Nat} {ps:List Int} {m m':EpM} {is:List Nat} {i:Nat} (h:OnTo l ps m (is ++ [i]) m') : ∃m1,OnTo l ps m is m1∧OnStep l ps m1 i m':=by
 generalize hl:is ++ [i] =L at h
 cases h with
 |nil=>simp at hl
 | @snoc is' m1 _ i' h1 h2=>
  obtain⟨rfl,h3⟩:=List.append_inj' hl rfl;obtain rfl:i=i':=by simpa using h3
  exact⟨m1,h1,h2⟩
theorem OnTo.nil_inv {l:Nat} {ps:List Int} {m m':EpM} (h:OnTo l ps m [] m') :m'=m:=by
 generalize hl: ([] :List Nat) =L at h
 cases h with
 |nil=>rfl
 |snoc h1 h2=>simp at hl
theorem OnStep.skip_inv {l:Nat} {ps:List Int} {m m':EpM} {i:Nat} {x:SR} (h:OnStep l ps m i m') (hx:m.ss[i]? =some x) (hr:readyS x.1=false) :m'=m:=by
 cases h with
 |skip _ _=>rfl
 |send h1 h2 _=>
  rw [hx] at h1
  cases h1
  rw [hr] at h2
  cases h2
theorem OnStep.send_inv {l:Nat} {ps:List Int} {m m':EpM} {i:Nat} {x:SR} (h:OnStep l ps m i m') (hx:m.ss[i]? =some x) (hr:readyS x.1=true) : ∃pl r',RunTo l (sumR x.2 / x.1.k) x.2 pl r'∧m'=sendM l ps m i x.1 r':=by
 cases h with
 |skip h1 h2=>
  rw [hx] at h1
  cases h1
  rw [hr] at h2
  cases h2
 |send h1 h2 h3=>
  rw [hx] at h1
  cases h1
  exact⟨_,_,h3,rfl⟩
section
variable {l K:Nat} {k wt:Int} {ps:List Int} {E:Int} {D D':Nat→List Nd} {N N':Nat→Int} {m m':EpM} {j:Nat} {x:SR} {y:It}
theorem kidsC_of {ps:List Int} (h:ps.length≤48) {i j:Nat} (hj:ps[j]? =some (i:Int)) :hasC (kidsC ps i) (j:Int) =true:=by
 have hjl:=(List.getElem?_eq_some_iff.1 hj).1;rw [bit_has (by omega)];unfold kidsC;rw [kidF_bit ps i _ h];rw [hj];simp [hjl]
theorem EpJ.hearNow (h:EpJ l K k wt ps E D N m) {i:Nat} (hx:m.ss[i]? =some x) {z:Ltr} {r:List Nd} {tx:List UInt8} (a:tx=ltrT z) (b:rightL z=true) (c:z.e=E) (d:z.f= (j:Int)) (e:ps[j]? =some (i:Int)) (h1:readW z.b= ((l,k,sumR r,r),0)) :
 hearE l x.1 x.2 tx=if x.1.sent=true then 18 else if x.1.heard.testBit j=true∨apartC x.1.cover z.c=false then 19 else if 72057594037927935<sumR x.2+sumR r then 5 else 0:=by
 have hs:=h.s i x hx;have hln:=rightG_len h.tree;have hj48:j<48:=by have:=(List.getElem?_eq_some_iff.1 e).1;omega
 have hd:decL tx= (z,0):=by rw [a];exact decL_enc b (by have:=h.e1.2;omega)
 unfold hearE;rw [hd];simp only [ne_eq,not_true_eq_false,if_false];have hk:hasC x.1.p.kids z.f=true:=by rw [hs.p,d];exact kidsC_of hln.2 e
 have hh:hasC x.1.heard z.f=x.1.heard.testBit j:=by rw [d,bit_has hj48]
 have hRf:refusedE x.1 z=if x.1.sent=true then 18 else if x.1.heard.testBit j=true∨apartC x.1.cover z.c=false then 19 else 0:=by
  unfold refusedE;rw [if_neg (by rw [hs.ep,c];simp),hk,if_neg (by decide),hh]
 rw [hRf];by_cases h2:x.1.sent=true
 ·rw [if_pos h2,if_pos h2];rfl
 ·rw [if_neg h2,if_neg h2]
  by_cases h3:x.1.heard.testBit j=true∨apartC x.1.cover z.c=false
  ·rw [if_pos h3,if_pos h3];rfl
  ·rw [if_neg h3,if_neg h3,if_neg (by simp)]
   unfold moreE;rw [h1];simp [hs.k_]
theorem HearTo.was {s s':Sen} {r r':List Nd} {tx:List UInt8} (h:HearTo l s r tx s' r') (h0:hearE l s r tx≠0) :s'=s∧r'=r:=by
 rcases h with ⟨_,h1,h2⟩ | ⟨h1,_,_⟩
 ·exact⟨h1,h2⟩
 ·exact absurd h1 h0
theorem HearTo.is {s s':Sen} {r r':List Nd} {tx:List UInt8} (h:HearTo l s r tx s' r') (h0:hearE l s r tx=0) :s'=heardS s (decL tx).1:=by
 rcases h with ⟨h1,_,_⟩ | ⟨_,h1,_⟩
 ·exact absurd h0 h1
 ·exact h1
theorem EpJ.new {K:Nat} (hR:rightG ps=true) {ep:Int} (h:newS l k K (plcE ps wt 0) ep=true) :EpJ l K k wt ps ep (fun _=> []) (fun _=>0) (epNew ps l k K wt ep):=by
 have hln:=rightG_len hR
 have at_: ∀i x,(epNew ps l k K wt ep).ss[i]? =some x→i<ps.length∧x= (senNew l k K (plcE ps wt i) ep, []):=fun i x hx=>by
  have hx: ((List.range ps.length).map fun i=>((senNew l k K (plcE ps wt i) ep, []) :SR))[i]? =some x:=hx;rw [List.getElem?_map] at hx;obtain⟨y,hy,rfl⟩:=Option.map_eq_some_iff.1 hx;have hi:=(List.getElem?_eq_some_iff.1 hy).1;rw [List.length_range] at hi;rw [List.getElem?_range hi] at hy
  cases hy
  exact⟨hi,rfl⟩
 have h':=h;simp only [newS,isDig,isPool,Bool.and_eq_true,decide_eq_true_eq] at h'
 have hS: ∀j,¬SentA (epNew ps l k K wt ep) j:=fun j ⟨x,h1,h2⟩=>by
  obtain⟨_,rfl⟩:=at_ j x h1
  cases h2
 refine⟨hR,by omega,by omega,by omega,by simp [epNew],fun j=>.nil l,fun j=>Int.le_refl _,by rw [totN_zero];decide,fun j x hx=> ?_,fun y hy=>by simp [epNew] at hy,⟨fun (h:false=true)=>absurd h (by decide),fun h=>absurd h (hS _)⟩⟩;obtain⟨hj,rfl⟩:=at_ j x hx;have hn:newS l k K (plcE ps wt j) ep=true:=by rw [new_same hR hj];exact h
 refine⟨rfl,rfl,rfl,rfl,rfl,SenOk.new hn,?_,?_,?_⟩
 ·exact Covers.new (by omega) rfl rfl
 ·intro i hi
  have hi: (withC 0 (j:Int)).testBit i=true:=hi;rw [withC_zero (by omega),decide_eq_true_eq] at hi;subst hi;exact .here (by show (withC 0 (j:Int)).testBit j=true;rw [withC_zero (by omega)];simp)
 ·intro i hi hne
  have hi: (withC 0 (j:Int)).testBit i=true:=hi;rw [withC_zero (by omega),decide_eq_true_eq] at hi;exact absurd hi.symm hne
theorem WvOk.new (n:Nat) :WvOk n 0 ⟨0,0,0,0,0, []⟩:=⟨by simp,by simp,by simp [WS.total]⟩
end
def psA:List Int:= [-1,0]
theorem psA_right:rightG psA=true:=by decide
theorem psA_order:orderG psA= [1,0]:=by decide
theorem psA_root:rootG psA=0:=by decide
theorem psA_new:newS 3 2 2 (plcE psA 3 0) 0=true:=by decide
def xA0:SR:=(senNew 3 2 2 (plcE psA 3 0) 0, [])
def xA1:SR:=(senNew 3 2 2 (plcE psA 3 1) 0, [])
def mA (r0 r1:List Nd) (st:Bool) :EpM:=⟨[(xA0.1,r0),(xA1.1,r1)],⟨0,0,0,0,0, []⟩,st,false⟩
theorem put_A0:putErr 3 xA0.1 [] 5 1=0:=by decide
theorem put_A1:putErr 3 xA1.1 [] 6 2=0:=by decide
def dA:Nat→List Nd:=upd (upd (fun _=> []) 0 [(5,1)]) 1 [(6,2)]
def nA:Nat→Int:=upd (upd (fun _=>0) 0 1) 1 1
theorem alive_J {r0 r1:List Nd} (p0:PutTo 3 xA0.1 [] 5 1 r0) (p1:PutTo 3 xA1.1 [] 6 2 r1) :EpJ 3 2 2 3 psA 0 dA nA (mA r0 r1 false):=by
 have J0:EpJ 3 2 2 3 psA 0 (fun _=> []) (fun _=>0) (mA [] [] false):=EpJ.new (K:=2) psA_right psA_new;have J1:=(J0.put (i:=0) (x:=xA0) rfl p0 put_A0 (by rw [totN_zero];decide)).2;have J2:=(J1.put (i:=1) (x:=xA1) rfl p1 put_A1 (by decide)).2;exact J2
theorem heard_parts (s:Sen) (x:Ltr) : (heardS s x).heard=withC s.heard x.f∧(heardS s x).p=s.p∧(heardS s x).sent=s.sent∧(heardS s x).cover=s.cover ||| x.c:=⟨rfl,rfl,rfl,rfl⟩
theorem alive_ready (b:List UInt8) :readyS (heardS xA0.1 ⟨0,1,xA1.1.cover,b⟩) =true:=by
 obtain⟨a1,a2,a3,_⟩:=heard_parts xA0.1 ⟨0,1,xA1.1.cover,b⟩
 have h1: (heardS xA0.1 ⟨0,1,xA1.1.cover,b⟩).heard= (heardS xA0.1 ⟨0,1,xA1.1.cover,b⟩).p.kids:=by
  rw [a1,a2];exact(by decide:withC xA0.1.heard 1=xA0.1.p.kids)
 have h2: (heardS xA0.1 ⟨0,1,xA1.1.cover,b⟩).sent=false:=by rw [a3];decide
 unfold readyS;rw [h2,decide_eq_true h1]
 rfl
theorem alive_run {r0 r1:List Nd} {m4:EpM} (p0:PutTo 3 xA0.1 [] 5 1 r0) (p1:PutTo 3 xA1.1 [] 6 2 r1) (hOn:OnTo 3 psA (mA r0 r1 true) (orderG psA) m4) :
 ∃(tx:ByteArray) (r1':List Nd),m4= ⟨[(xA0.1,r0),(sentS xA1.1,r1')],⟨1,0,0,0,0, [(0,tx)]⟩,true,false⟩∧hearE 3 xA0.1 r0 tx.data.toList=0∧EpJ 3 2 2 3 psA 0 dA nA m4∧
  ∀s' r' m6,HearTo 3 xA0.1 r0 tx.data.toList s' r'→OnTo 3 psA ⟨[(s',r'),(sentS xA1.1,r1')],⟨1,1,0,0,0, []⟩,true,false⟩ (orderG psA) m6→m6.en=true∧∃x,m6.ss[0]? =some x∧x.1.cover=3∧sumR x.2=3:=by
 have J:=(alive_J p0 p1).flag true;have J4:=J.on hOn;rw [psA_order,show ([1,0] :List Nat) = [1] ++ [0] from rfl] at hOn;obtain⟨ma,h1,h2⟩:=hOn.snoc_inv;rw [show ([1] :List Nat) = [] ++ [1] from rfl] at h1;obtain⟨mb,h3,h4⟩:=h1.snoc_inv;obtain rfl:=h3.nil_inv;obtain⟨pl,r1',hrun,rfl⟩:=h4.send_inv (x:=(xA1.1,r1)) rfl (by show readyS xA1.1=true;decide);have e1:sendM 3 psA (mA r0 r1 true) 1 xA1.1 r1'= ⟨[(xA0.1,r0),(sentS xA1.1,r1')],⟨1,0,0,0,0, [(0,⟨(ltrT (senL 3 xA1.1 r1')).toArray⟩)]⟩,true,false⟩:=rfl;rw [e1] at h2;obtain rfl:=h2.skip_inv (x:=(xA0.1,r0)) rfl (by show readyS xA0.1=false;decide);have hw:=(J4.w (0,⟨(ltrT (senL 3 xA1.1 r1')).toArray⟩) (by simp)).1;have hsr:=J4.sr (j:=1) (x:=(sentS xA1.1,r1')) rfl;have hR:=senL_right (l:=3) (s:=xA1.1) (r:=r1') (J.sr (j:=1) (x:=(xA1.1,r1)) rfl).ok (by decide) hsr.fits (by decide) (by decide) hsr.len
 have hdec:decL ((⟨(ltrT (senL 3 xA1.1 r1')).toArray⟩ :ByteArray)).data.toList= (senL 3 xA1.1 r1',0):=by
  rw [List.toList_toArray];exact decL_enc hR (by show (0:Int)≤_;decide)
 have hE:hearE 3 xA0.1 r0 ((⟨(ltrT (senL 3 xA1.1 r1')).toArray⟩ :ByteArray)).data.toList=0:=by
  cases hw with
  |bad h=>rw [hdec] at h;exact absurd rfl h
  |old z a b c=>
   rw [a,decL_enc b (by omega)] at hdec;obtain rfl:=congrArg Prod.fst hdec;exact absurd c (by show ¬((0:Int) <0);decide)
  |now z j r a b c d e f g h1 h2=>
   have hz:z=senL 3 xA1.1 r1':=by
    rw [a,decL_enc b (by omega)] at hdec;exact congrArg Prod.fst hdec
   subst hz
   have hj:j=1:=by
    have: (1:Int) = (j:Int):=d;omega
   subst hj;rw [J4.hearNow (i:=0) (x:=(xA0.1,r0)) rfl a b c d e h1,if_neg (by show ¬(false=true);decide),if_neg (by show ¬(xA0.1.heard.testBit 1=true∨apartC xA0.1.cover xA1.1.cover=false);decide),if_neg];have hs0:=(J4.s 0 (xA0.1,r0) rfl).cov.sum J4.D_;have hs1:=h2.sum J4.D_;have e0:wsum (fun j=>sumR (dA j)) xA0.1.cover=1:=by decide
   have e2:wsum (fun j=>sumR (dA j)) (senL 3 xA1.1 r1').c=2:=by
    show wsum (fun j=>sumR (dA j)) xA1.1.cover=2
    decide
   have hs0:sumR r0=wsum (fun j=>sumR (dA j)) xA0.1.cover:=hs0;rw [e0] at hs0;rw [e2] at hs1;show ¬(72057594037927935<sumR r0+sumR r)
   omega
 refine⟨_,r1',rfl,hE,J4,fun s' r' m6 hh ho=> ?_⟩;have hs':=hh.is hE
 have J5:EpJ 3 2 2 3 psA 0 dA nA ⟨[(s',r'),(sentS xA1.1,r1')],⟨1,1,0,0,0, []⟩,true,false⟩:=
  (J4.wave (wv:=⟨1,1,0,0,0, []⟩) (by simp)).hear (i:=0) (x:=(xA0.1,r0)) (y:=(0,⟨(ltrT (senL 3 xA1.1 r1')).toArray⟩)) rfl hw hh
 have J6:=J5.on ho;rw [hdec] at hs';subst hs';rw [psA_order,show ([1,0] :List Nat) = [1] ++ [0] from rfl] at ho;obtain⟨mc,g1,g2⟩:=ho.snoc_inv;rw [show ([1] :List Nat) = [] ++ [1] from rfl] at g1;obtain⟨md,g3,g4⟩:=g1.snoc_inv;obtain rfl:=g3.nil_inv;obtain rfl:=g4.skip_inv (x:=(sentS xA1.1,r1')) rfl (ready_sent _);obtain⟨pl2,r2,hrun2,rfl⟩:=g2.send_inv (x:=(heardS xA0.1 (senL 3 xA1.1 r1'),r')) rfl (alive_ready _);refine⟨rfl,(sentS (heardS xA0.1 (senL 3 xA1.1 r1')),r2),rfl,?_,?_⟩
 ·show xA0.1.cover ||| xA1.1.cover=3
  decide
 ·have h:=(J6.s 0 (sentS (heardS xA0.1 (senL 3 xA1.1 r1')),r2) rfl).cov.sum J6.D_
  have h:sumR r2=wsum (fun j=>sumR (dA j)) (xA0.1.cover ||| xA1.1.cover):=h;show sumR r2=3
  rw [h]
  decide
section
variable {l:Nat} {ps:List Int} {m m':EpM} {o:Stp} {e:Int}
theorem EpStep.put_inv (h:EpStep l ps m o e m') (h0:o.kd=0) {i:Nat} {x:SR} (hi:o.i= (i:Int)) (hx:m.ss[i]? =some x) (hl:m.ss.length=ps.length) : ∃r',PutTo l x.1 x.2 o.x o.w r'∧e=putErr l x.1 x.2 o.x o.w∧m'=m.setS i (x.1,r'):=by
 cases h with
 |put_no h1 h2=>exact absurd ⟨by omega,by have:=(List.getElem?_eq_some_iff.1 hx).1;omega⟩ h2
 | @put i' x' r' h1 h2 h3 h4=>
  obtain rfl:i=i':=by omega
  rw [hx] at h3
  cases h3
  exact⟨r',h4,rfl,rfl⟩
 |early h1 h2 h3 h4=>omega
 |take_no h1=>omega
 |take h1=>omega
 |lose h1=>omega
 |copy h1=>omega
 |spoil h1=>omega
 |late h1=>omega
 |start h1=>omega
 |next_no h1=>omega
 |limit h1=>omega
 |next h1=>omega
 |tick h1=>omega
theorem EpStep.start_inv (h:EpStep l ps m o e m') (h0:o.kd=6) (hs:m.st=false) :e=0∧OnTo l ps {m with st:=true} (orderG ps) m':=by
 cases h with
 |put_no h1 h2=>omega
 |put h1=>omega
 |early h1 h2 h3 h4=>omega
 |take_no h1=>omega
 |take h1=>omega
 |lose h1=>omega
 |copy h1=>omega
 |spoil h1=>omega
 |late h1 h2=>rw [hs] at h2;cases h2
 |start h1 h2 h3=>exact⟨rfl,h3⟩
 |next_no h1=>omega
 |limit h1=>omega
 |next h1=>omega
 |tick h1=>omega
theorem EpStep.take_inv (h:EpStep l ps m o e m') (h0:o.kd=1) (hs:m.st=true) {q j:Nat} {y:It} {x:SR} (hq:o.i= (q:Int)) (hy:m.wv.items[q]? =some y) (hj:y.1= (j:Int)) (hx:m.ss[j]? =some x) :
 ∃s' r',e=hearE l x.1 x.2 y.2.data.toList∧HearTo l x.1 x.2 y.2.data.toList s' r'∧OnTo l ps (({m with wv:=m.wv.take q} :EpM).setS j (s',r')) (orderG ps) m':=by
 cases h with
 |put_no h1 h2=>omega
 |put h1=>omega
 |early h1 h2 h3 h4=>rw [hs] at h4;cases h4
 |take_no h1 h2 h3=>
  have:=(List.getElem?_eq_some_iff.1 hy).1;rw [hq] at h3;unfold WS.has at h3;simp at h3
  omega
 | @take q' j' y' x' s' r' m2 h1 h2 h3 h4 h5 h6 h7 h8=>
  obtain rfl:q=q':=by omega
  rw [hy] at h4
  cases h4
  obtain rfl:j=j':=by omega
  rw [hx] at h6
  cases h6
  exact⟨s',r',rfl,h7,h8⟩
 |lose h1=>omega
 |copy h1=>omega
 |spoil h1=>omega
 |late h1=>omega
 |start h1=>omega
 |next_no h1=>omega
 |limit h1=>omega
 |next h1=>omega
 |tick h1=>omega
end
def EpS (w:World) (L:EpL) (m:EpM) (W:World) :Prop:=∃F,EpAt W L m F∧(∀b,F b→w.heap.size≤b)∧Below w.heap.size w W
section
variable {w W W':World} {L:EpL} {m m':EpM} {F:Nat→Prop} {T:Nat}
theorem EpS.below (h:EpS w L m W) (hb:Below W.heap.size W W') :EpS w L m W':=by
 obtain⟨F,h1,h2,h3⟩:=h;exact⟨F,h1.below hb,h2,Below.then_ h3 hb⟩
theorem EpS.blw (h:EpS w L m W) :Below w.heap.size w W:=by
 obtain⟨F,h1,h2,h3⟩:=h;exact h3
theorem EpS.at_ (h:EpS w L m W) : ∃F,EpAt W L m F:=by
 obtain⟨F,h1,h2,h3⟩:=h;exact⟨F,h1⟩
theorem EpS.new {ps:List Int} {l K:Nat} {k wt ep:Int} {w0:World} {e:Ending} (h:NewEp ps l K k wt ep w0 e W) (hb:Below w.heap.size w w0) : ∃L,e=.returned (.tuple #[.pointer (some ⟨L.g,0,none⟩),.int .i64 0])∧EpS w L (epNew ps l k K wt ep) W∧L.ps=ps∧L.l=l∧L.K=K:=by
 obtain⟨L,F,rfl,h1,h2,h3,h4,h5,h6⟩:=h;exact⟨L,rfl,⟨F,h1,fun b hf=>by have:=h1.ge b hf;rw [h5] at this;exact Nat.le_trans hb.size this,Below.then_ hb h6⟩,h2,h3,h4⟩
def EpE (w:World) (L:EpL) (m:EpM) (o:Stp) (e:Ending) (W':World) :Prop:=∃er m',e=.returned (.int .i64 er)∧EpStep L.l L.ps m o er m'∧EpS w L m' W'
theorem EpS.post (h:EpS w L m W) {o:Stp} {f:Nat} {args:Array Value} (k: ∀F,EpAt W L m F→Calls Tryz.prog f args W (EpPost L m F o W)) :Calls Tryz.prog f args W (EpE w L m o):=by
 obtain⟨F,h1,h2,h3⟩:=h;refine(k F h1).mono ?_;rintro e W' ⟨er,m',rfl,hs,F',k1,k2,k3⟩;exact⟨er,m',rfl,hs,F',k1,fun b hb=>(k3 b hb).elim (h2 b) fun h=>Nat.le_trans h3.size h,h3.trans (k2.below h2 h3.size)⟩
theorem EpS.put (h:EpS w L m W) (ok:EpOk L T m) (o:Stp) (ho:o.kd=0) :Calls Tryz.prog 13 #[.pointer (some ⟨L.g,0,none⟩),.int .i64 o.i,.int .i64 o.x,.int .i64 o.w] W (EpE w L m o):=
 h.post fun F hA=>(ep_Put W L m F o.i o.x o.w hA ok.tree (fun x hx=>by have:=(ok.sen x hx).len;omega)).mono (by
  rintro e W' (⟨h1,rfl,hb⟩ | ⟨k,x,r',h1,h2,rfl,h3,h4⟩)
  ·exact .of (.put_no ho h1) (.below hA hb)
  ·exact .of (.put ho h1 h2 h3) h4)
theorem EpS.start (h:EpS w L m W) (ok:EpOk L T m) (hT:T≤4611686018427379800) (o:Stp) (ho:o.kd=6) :Calls Tryz.prog 15 #[.pointer (some ⟨L.g,0,none⟩)] W (EpE w L m o):=
 h.post fun F hA=>ep_Start W L m F T o ho hA ok (by omega)
theorem EpS.deliver (h:EpS w L m W) (ok:EpOk L T m) (hT:T≤4611686018427379800) (o:Stp) (ho:o.kd=1) (hL: ∀x∈m.ss,lightOf L.l x.2 x.1.k=true) (hH:HearsOk L m o.i) :Calls Tryz.prog 18 #[.pointer (some ⟨L.g,0,none⟩),.int .i64 o.i] W (EpE w L m o):=
 h.post fun F hA=>ep_Deliver W L m F T o ho hA ok hT hL hH
theorem EpS.flight (h:EpS w L m W) :Calls Tryz.prog 16 #[.pointer (some ⟨L.g,0,none⟩)] W fun e W'=>e=.returned (.int .i64 m.wv.items.length)∧Below W.heap.size W W':=by
 obtain⟨F,h1⟩:=h.at_;exact ep_Flight W L m F h1
theorem EpS.letter (h:EpS w L m W) (i:Int) :Calls Tryz.prog 28 #[.pointer (some ⟨L.g,0,none⟩),.int .i64 i] W fun e W'=>e=.returned (atV (m.wv.at_ i))∧Below W.heap.size W W':=by
 obtain⟨F,h1⟩:=h.at_;exact ep_Letter W L m F i h1
theorem EpS.ended (h:EpS w L m W) :Calls Tryz.prog 20 #[.pointer (some ⟨L.g,0,none⟩)] W fun e W'=>e=.returned (.bool m.en)∧Below W.heap.size W W':=by
 obtain⟨F,h1⟩:=h.at_;exact ep_Ended W L m F h1
theorem EpS.result (h:EpS w L m W) (hR:rightG L.ps=true) (he:m.en=true) {x:SR} (hx:m.ss[rootG L.ps]? =some x) :Calls Tryz.prog 19 #[.pointer (some ⟨L.g,0,none⟩)] W (ResPost L.K L.l x W):=by
 obtain⟨F,h1⟩:=h.at_;exact ep_Result W L m F x h1 hR he hx
end
theorem EpJ.hearsOk {L:EpL} {K:Nat} {k wt E:Int} {D:Nat→List Nd} {N:Nat→Int} {m:EpM} (h:EpJ L.l K k wt L.ps E D N m) (i:Int) :HearsOk L m i:=fun q j y x s' r' h1 h2 h3 h4 h5=>by
 have hj:=h.hear h4 (h.w y (List.mem_of_getElem? h2)).1 h5;exact hj.sr (j:=j) (by show (m.ss.set j (s',r'))[j]? =_;rw [List.getElem?_set_self (List.getElem?_eq_some_iff.1 h4).1])
theorem EpJ.lights {L:EpL} {K:Nat} {k wt E:Int} {D:Nat→List Nd} {N:Nat→Int} {m:EpM} (h:EpJ L.l K k wt L.ps E D N m) : ∀x∈m.ss,lightOf L.l x.2 x.1.k=true:=fun x hx=>by
 obtain⟨j,hj⟩:=List.getElem?_of_mem hx;exact h.light hj
theorem law32_alive (w:World) (hT:TabZ w) :Calls Tryz.prog 11 #[] w fun e w'=>e=.returned (.bool true)∧Below w.heap.size w w':=by
 have b0:Below w.heap.size w (w.alloc (.cells #[.int .i64 (-1),.int .i64 0] 3)):=bE
 have HN:Hid (Calls Tryz.prog 37 #[.slice (some ⟨w.heap.size,0,none⟩) 2 2,.agg #[.int .i64 3,.int .i64 2,.int .i64 2],.int .i64 3,.int .i64 0] (w.alloc (.cells #[.int .i64 (-1),.int .i64 0] 3)) fun e W=>∃L,e=.returned (.tuple #[.pointer (some ⟨L.g,0,none⟩),.int .i64 0])∧EpS w L (mA [] [] false) W∧L.ps=psA∧L.l=3∧L.K=2):=LH (by
  refine(ep_New (w.alloc (.cells #[.int .i64 (-1),.int .i64 0] 3)) (some ⟨w.heap.size,0,none⟩) 2 psA 3 2 2 3 0 ?_ (hT.below b0) psA_right psA_new).mono ?_
  ·have:=(sl_lit w encZ psA 3 w.heap.size rfl).keep (w':=w.alloc (.cells #[.int .i64 (-1),.int .i64 0] 3)) (B':=(w.alloc (.cells #[.int .i64 (-1),.int .i64 0] 3)).heap.size) (by simp) (fun p hp=>rfl)
   exact this
  ·intro e W h
   obtain⟨L,h1,h2,h3⟩:=EpS.new h b0;exact⟨L,h1,h2,h3⟩)
 clear hT b0
 go_enter Tryz.func11,Tryz.ntmps11
 go_wp2_with fail;refine HN.out.mono ?_;rintro e w1 ⟨L,rfl,hS,hps,hl,hK⟩;have S1:=LH hS
 have hP0:Hid (∀W,EpS w L (mA [] [] false) W→Calls Tryz.prog 13 #[.pointer (some ⟨L.g,0,none⟩),.int .i64 0,.int .i64 5,.int .i64 1] W fun e W'=>e=.returned (.int .i64 0)∧∃r0,PutTo 3 xA0.1 [] 5 1 r0∧EpS w L (mA r0 [] false) W'):=LH fun W h=>by
  have J0:EpJ L.l 2 2 3 L.ps 0 (fun _=> []) (fun _=>0) (mA [] [] false):=by rw [hps,hl];exact EpJ.new (K:=2) psA_right psA_new
  refine(h.put (J0.epOk (WvOk.new _)) ⟨0,0,5,1,0,0⟩ rfl).mono ?_;rintro e W' ⟨er,m',rfl,hs,h'⟩;rw [hl,hps] at hs;obtain⟨r',h1,rfl,rfl⟩:=hs.put_inv rfl (i:=0) (x:=xA0) rfl rfl (by rfl);exact⟨rfl,r',h1,h'⟩
 have hP1:Hid (∀W r0,PutTo 3 xA0.1 [] 5 1 r0→EpS w L (mA r0 [] false) W→Calls Tryz.prog 13 #[.pointer (some ⟨L.g,0,none⟩),.int .i64 1,.int .i64 6,.int .i64 2] W fun e W'=>e=.returned (.int .i64 0)∧∃r1,PutTo 3 xA1.1 [] 6 2 r1∧EpS w L (mA r0 r1 false) W'):=LH fun W r0 p0 h=>by
  have J0:EpJ 3 2 2 3 psA 0 (fun _=> []) (fun _=>0) (mA [] [] false):=EpJ.new (K:=2) psA_right psA_new;have J1:=(J0.put (i:=0) (x:=xA0) rfl p0 put_A0 (by rw [totN_zero];decide)).2;have J1':EpJ L.l 2 2 3 L.ps 0 (upd (fun _=> []) 0 [(5,1)]) (upd (fun _=>0) 0 1) (mA r0 [] false):=by rw [hps,hl];exact J1
  refine(h.put (J1'.epOk (WvOk.new _)) ⟨0,1,6,2,0,0⟩ rfl).mono ?_;rintro e W' ⟨er,m',rfl,hs,h'⟩;rw [hl,hps] at hs;obtain⟨r',h1,rfl,rfl⟩:=hs.put_inv rfl (i:=1) (x:=xA1) rfl rfl (by rfl);exact⟨rfl,r',h1,h'⟩
 have hSt:Hid (∀W r0 r1,PutTo 3 xA0.1 [] 5 1 r0→PutTo 3 xA1.1 [] 6 2 r1→EpS w L (mA r0 r1 false) W→Calls Tryz.prog 15 #[.pointer (some ⟨L.g,0,none⟩)] W fun e W'=>e=.returned (.int .i64 0)∧∃m4,EpS w L m4 W'∧m4.wv.items.length=1∧(∀W,EpS w L m4 W→Calls Tryz.prog 18 #[.pointer (some ⟨L.g,0,none⟩),.int .i64 0] W fun e W'=>e=.returned (.int .i64 0)∧∃m6 x,EpS w L m6 W'∧m6.en=true∧m6.ss[0]? =some x∧x.1.cover=3∧sumR x.2=3)):=LH fun W r0 r1 p0 p1 h=>by
  have J2:EpJ L.l 2 2 3 L.ps 0 dA nA (mA r0 r1 false):=by rw [hps,hl];exact alive_J p0 p1
  refine(h.start (J2.epOk (WvOk.new _)) (by decide) ⟨6,0,0,0,0,0⟩ rfl).mono ?_;rintro e W' ⟨er,m4,rfl,hs,h'⟩;have hw4:=hs.wave J2 (WvOk.new _);rw [hl,hps] at hs;obtain⟨rfl,hOn⟩:=hs.start_inv rfl rfl;obtain⟨tx,r1',e4,hE,J4,hfin⟩:=alive_run p0 p1 hOn;refine⟨rfl,m4,h',by rw [e4];rfl,fun W2 h2=> ?_⟩;have J4':EpJ L.l 2 2 3 L.ps 0 dA nA m4:=by rw [hps,hl];exact J4
  refine(h2.deliver (J4'.epOk hw4) (by decide) ⟨1,0,0,0,0,0⟩ rfl J4'.lights (J4'.hearsOk _)).mono ?_;rintro e W3 ⟨er,m6,rfl,hs,h3⟩;rw [hl,hps] at hs;subst e4;obtain⟨s',r',rfl,hh,ho⟩:=hs.take_inv rfl rfl (q:=0) (j:=0) (y:=(0,tx)) (x:=(xA0.1,r0)) rfl rfl rfl rfl;obtain⟨h4,x,h5,h6,h7⟩:=hfin s' r' m6 hh ho;exact⟨by rw [hE],m6,x,h3,h4,h5,h6,h7⟩
 have hFl:=LH (fun (m:EpM) W (h:EpS w L m W)=>h.flight);have hRs:Hid (∀(m:EpM) (x:SR) W,EpS w L m W→m.en=true→m.ss[0]? =some x→Calls Tryz.prog 19 #[.pointer (some ⟨L.g,0,none⟩)] W (ResPost L.K L.l x W)):=LH fun m x W h h1 h2=>h.result (by rw [hps];exact psA_right) h1 (by rw [hps,psA_root];exact h2);have hEn:=LH (fun (m:EpM) W (h:EpS w L m W)=>h.ended);clear hS hps HN;go_wp2_with fail;refine(hP0.out _ S1.out).mono ?_;rintro e w2 ⟨rfl,r0,p0,hS2⟩;have S2:=LH hS2;have P0:=LH p0;clear hS2 p0;go_wp2_with fail;refine(hP1.out _ r0 P0.out S2.out).mono ?_;rintro e w3 ⟨rfl,r1,p1,hS3⟩;have S3:=LH hS3;have P1:=LH p1;clear hS3 p1;go_wp2_with fail;refine(hSt.out _ r0 r1 P0.out P1.out S3.out).mono ?_;rintro e w4 ⟨rfl,m4,hS4,hlen,hD⟩;have S4:=LH hS4;have HD:=LH hD;have HF:=hFl.out m4 w4 hS4;rw [hlen] at HF;have HF4:=LH HF;clear hS4 hlen hD HF;go_wp2_with fail;refine HF4.out.mono ?_;rintro e w5 ⟨rfl,hb5⟩;have S5:=LH (S4.out.below hb5);clear hb5;go_wp2_with fail;refine(HD.out _ S5.out).mono ?_;rintro e w6 ⟨rfl,m6,x,hS6,he,hx,hc,hs⟩;have S6:=LH hS6;have HR:=hRs.out m6 x w6 hS6 he hx;unfold ResPost at HR;rw [hc] at HR;have HR6:=LH HR;have HE:=hEn.out m6;rw [he] at HE;have HE6:=LH HE;have HN6:=LH (fun W g' F' (h:DigAt W g' L.K L.l x.1.k x.2 F')=>digest_N W g' L.K L.l x.1.k x.2 F' h);rw [hs] at HN6;clear hS6 he hx hc hs HR HE;go_wp2_with fail;refine HR6.out.mono ?_;rintro e w7 ⟨g',F',rfl,hd,hF,hb7⟩;have D7:=LH hd;have S7:=LH (S6.out.below hb7);clear hd hF hb7;go_wp2_with fail;refine(HE6.out _ S7.out).mono ?_;rintro e w8 ⟨rfl,hb8⟩;have D8:=LH (D7.out.below hb8);have S8:=LH (S7.out.below hb8);clear hb8;go_wp2_with fail;refine(HN6.out _ _ _ D8.out).mono ?_;rintro e w9 ⟨rfl,hb9⟩;have S9:=LH (S8.out.below hb9);clear hb9;go_wp2_with fail;exact bR (v:=.bool true) (by simp only [results,Tryz.results11];go_simp) rfl ⟨rfl,S9.out.blw⟩
end Go.Proofs.YtmdidmclfbfmiaaGreatDoor
