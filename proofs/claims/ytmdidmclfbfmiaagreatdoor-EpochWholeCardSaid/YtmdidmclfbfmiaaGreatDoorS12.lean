/-
  Texts of this proof, one behind the other: EpNil, EpDoL, OpenBase, EpFew, EpRun, EpQ, Begun32, EpExactL, EpEndL, Stands32, Ref28, Ref10Pour, Exact32, Books32, BooksB, EpochExactW.
-/
import Derived.Deep.RegionHeld3
import Derived.Test.YtmdidmclfbfmiaaGreatDoorS2
import Derived.Test.YtmdidmclfbfmiaaGreatDoorS4
import Derived.Test.YtmdidmclfbfmiaaGreatDoorS5
import Derived.Test.YtmdidmclfbfmiaaGreatDoorS6
import Derived.Test.YtmdidmclfbfmiaaGreatDoorS8
import Derived.Test.YtmdidmclfbfmiaaGreatDoorS10
import Derived.Test.YtmdidmclfbfmiaaGreatDoorS11
set_option linter.unusedVariables false
set_option linter.unusedSimpArgs false
set_option maxRecDepth 100000
set_option maxHeartbeats 16000000
namespace Go.Proofs.YtmdidmclfbfmiaaGreatDoor
open Go.ChangeShapes Go.WideShapes Go.ChangeAt Go.RowKit

def Stp.v (o:Stp) :Value:=stepV o.kd o.i o.x o.w o.at_ o.by_
def stpC (o:Stp) :Array Value:= #[.int .i64 o.kd,.int .i64 o.i,.int .i64 o.x,.int .i64 o.w,.int .i64 o.at_,.int .u8 o.by_]
theorem law32_DoP (w:World) (p:Option Addr) (o:Stp) (PP:Ending→World→Prop)
 (h: ∀W,Below w.heap.size w W→∃PQ:Ending→World→Prop,(∀e W',PQ e W'→∃er,e=.returned (.int .i64 er)∧PP e W')∧
   (o.kd=0→Calls Tryz.prog 13 #[.pointer p,.int .i64 o.i,.int .i64 o.x,.int .i64 o.w] W PQ)∧
   (o.kd=1→Calls Tryz.prog 18 #[.pointer p,.int .i64 o.i] W PQ)∧
   (o.kd=2→Calls Tryz.prog 75 #[.pointer p,.int .i64 o.i] W PQ)∧
   (o.kd=3→Calls Tryz.prog 17 #[.pointer p,.int .i64 o.i] W PQ)∧
   (o.kd=4→Calls Tryz.prog 76 #[.pointer p,.int .i64 o.i,.int .i64 o.at_,.int .u8 o.by_] W PQ)∧
   (o.kd=6→Calls Tryz.prog 15 #[.pointer p] W PQ)∧
   (o.kd=7→Calls Tryz.prog 26 #[.pointer p] W PQ)∧
   ((o.kd≠0∧o.kd≠1∧o.kd≠2∧o.kd≠3∧o.kd≠4∧o.kd≠6∧o.kd≠7)→Calls Tryz.prog 24 #[.pointer p] W PQ)) :
 Calls Tryz.prog 34 #[.pointer p,o.v] w PP:=by
 obtain⟨kd,i,x,c,a,b⟩:=o;unfold Stp.v stepV;dsimp only at*;have b0:Below w.heap.size w (w.alloc (.cells #[.int .i64 kd,.int .i64 i,.int .i64 x,.int .i64 c,.int .i64 a,.int .u8 b] 37)):=bE;obtain⟨PQ,hq,h0,h1,h2,h3,h4,h6,h7,h8⟩:=h _ b0;have HQ:=LH hq;clear h b0 hq;by_cases e0:kd=0
 ·subst e0
  have HC:=LH (h0 rfl);clear h0 h1 h2 h3 h4 h6 h7 h8
  go_enter Tryz.func34,Tryz.ntmps34
  go_wp2_with fail;refine HC.out.mono ?_;intro e w1 hp;obtain⟨er,rfl,hpp⟩:=HQ.out _ _ hp;have HP:=LH hpp;clear hp hpp;go_wp2_with fail;exact HP.out
 by_cases e1:kd=1
 ·subst e1
  have HC:=LH (h1 rfl);clear h0 h1 h2 h3 h4 h6 h7 h8
  go_enter Tryz.func34,Tryz.ntmps34
  go_wp2_with fail;refine HC.out.mono ?_;intro e w1 hp;obtain⟨er,rfl,hpp⟩:=HQ.out _ _ hp;have HP:=LH hpp;clear hp hpp;go_wp2_with fail;exact HP.out
 by_cases e2:kd=2
 ·subst e2
  have HC:=LH (h2 rfl);clear h0 h1 h2 h3 h4 h6 h7 h8
  go_enter Tryz.func34,Tryz.ntmps34
  go_wp2_with fail;refine HC.out.mono ?_;intro e w1 hp;obtain⟨er,rfl,hpp⟩:=HQ.out _ _ hp;have HP:=LH hpp;clear hp hpp;go_wp2_with fail;exact HP.out
 by_cases e3:kd=3
 ·subst e3
  have HC:=LH (h3 rfl);clear h0 h1 h2 h3 h4 h6 h7 h8
  go_enter Tryz.func34,Tryz.ntmps34
  go_wp2_with fail;refine HC.out.mono ?_;intro e w1 hp;obtain⟨er,rfl,hpp⟩:=HQ.out _ _ hp;have HP:=LH hpp;clear hp hpp;go_wp2_with fail;exact HP.out
 by_cases e4:kd=4
 ·subst e4
  have HC:=LH (h4 rfl);clear h0 h1 h2 h3 h4 h6 h7 h8
  go_enter Tryz.func34,Tryz.ntmps34
  go_wp2_with fail;refine HC.out.mono ?_;intro e w1 hp;obtain⟨er,rfl,hpp⟩:=HQ.out _ _ hp;have HP:=LH hpp;clear hp hpp;go_wp2_with fail;exact HP.out
 by_cases e6:kd=6
 ·subst e6
  have HC:=LH (h6 rfl);clear h0 h1 h2 h3 h4 h6 h7 h8
  go_enter Tryz.func34,Tryz.ntmps34
  go_wp2_with fail;refine HC.out.mono ?_;intro e w1 hp;obtain⟨er,rfl,hpp⟩:=HQ.out _ _ hp;have HP:=LH hpp;clear hp hpp;go_wp2_with fail;exact HP.out
 by_cases e7:kd=7
 ·subst e7
  have HC:=LH (h7 rfl);clear h0 h1 h2 h3 h4 h6 h7 h8
  go_enter Tryz.func34,Tryz.ntmps34
  go_wp2_with fail;refine HC.out.mono ?_;intro e w1 hp;obtain⟨er,rfl,hpp⟩:=HQ.out _ _ hp;have HP:=LH hpp;clear hp hpp;go_wp2_with fail;exact HP.out
 have HC:=LH (h8 ⟨e0,e1,e2,e3,e4,e6,e7⟩);have d0: (kd == 0) =false:=by simpa using e0
 have d1: (kd == 1) =false:=by simpa using e1
 have d2: (kd == 2) =false:=by simpa using e2
 have d3: (kd == 3) =false:=by simpa using e3
 have d4: (kd == 4) =false:=by simpa using e4
 have d6: (kd == 6) =false:=by simpa using e6
 have d7: (kd == 7) =false:=by simpa using e7
 clear h0 h1 h2 h3 h4 h6 h7 h8
 go_enter Tryz.func34,Tryz.ntmps34
 go_wp2_with fail;refine HC.out.mono ?_;intro e w1 hp;obtain⟨er,rfl,hpp⟩:=HQ.out _ _ hp;have HP:=LH hpp;clear hp hpp;go_wp2_with fail;exact HP.out
def encSt:Enc Stp 6:=⟨fun o=> [.int .i64 o.kd,.int .i64 o.i,.int .i64 o.x,.int .i64 o.w,.int .i64 o.at_,.int .u8 o.by_],fun _=>rfl,by intro x u hu;simp at hu;rcases hu with rfl|rfl|rfl|rfl|rfl|rfl <;> rfl⟩
def StpOk (o:Stp) :Prop:=(i64 o.kd∧i64 o.i∧i64 o.x∧i64 o.w∧i64 o.at_)∧0≤o.by_∧o.by_≤255
instance:Inhabited Stp:=⟨⟨0,0,0,0,0,0⟩⟩
def baseV (A:Option Addr) (n cap:Nat) (l k K wt ep:Int) :Value:=.agg #[.slice A n cap,.int .i64 l,.int .i64 k,.int .i64 K,.int .i64 wt,.int .i64 ep]
theorem open_Steps {H:Type} {enc:TypeId×Value→H} {w:World} {base:Nat} {spare:Nat→Bool} {held:Bool} {r:Reach} {b0:Nat} {v:Value} {d:DataW H} {p:List MemPlace}
 (hv:Value.okWide Tryz.prog w r b0 27 v) (h:DataW.Trod enc Tryz.prog w base spare held 27 v d p) :
 ∃(os:List Stp) (A:Option Addr) (cap:Nat),v=.slice A os.length cap∧Sl w w.heap.size encSt A os∧(∀x∈os,StpOk x)∧os.length≤maxLen:=by
 obtain⟨A,n,cap,rfl⟩:=okWide_slice Tryz.underlying27 hv;obtain⟨fuel,hf⟩:=h
 obtain⟨l,A',cap',hc,rest⟩:=slice_of_trod encSt StpOk Tryz.underlying27 (by kernel_rfl) (by decide) (fun fuel cs x h=>by
  obtain⟨a,b,c,d,e,f,rfl,h1,h2,h3,h4,h5,h6,h7⟩:=step_of_trod h;exact⟨⟨a,b,c,d,e,f⟩,rfl,⟨h1,h2,h3,h4,h5⟩,h6,by show f≤255;omega⟩) hf
 have hc':Value.slice A n cap=.slice A' l.length cap':=by simpa [Value.cells] using hc
 rw [hc'];exact⟨l,A',cap',rfl,rest⟩
section
variable {H:Type} {enc:TypeId×Value→H} {w:World} {base:Nat} {spare:Nat→Bool} {held:Bool} {fuel:Nat} {cs:List Value} {x:DataW H×List MemPlace}
theorem base_of_trod (h:DataW.trod enc Tryz.prog w base spare held fuel 26 cs=some x) :
 ∃(ps:List Int) (A:Option Addr) (cap:Nat) (l k K wt ep:Int),cs= [.slice A ps.length cap,.int .i64 l,.int .i64 k,.int .i64 K,.int .i64 wt,.int .i64 ep]∧Sl w w.heap.size encZ A ps∧(∀x∈ps,i64 x)∧ps.length≤maxLen∧i64 l∧i64 k∧i64 K∧i64 wt∧i64 ep:=by
 obtain⟨xs,n,_,_,hlen,hxl,hf⟩:=DataW.trod_struct Tryz.underlying26 h;have hC: (Tryz.prog).cellsOf 26=6:=by kernel_rfl
 have hCs: (Tryz.prog).cellsOf 22=1:=by kernel_rfl
 have hCc: (Tryz.prog).cellsOf 24=3:=by kernel_rfl
 have hCi: (Tryz.prog).cellsOf 3=1:=by kernel_rfl
 rw [hC] at hlen
 match cs,hlen with
 | [c0,c1,c2,c3,c4,c5],_=>
  match xs,hxl with
  | [y0,y1,y2,y3],_=>
   have g0:DataW.trod enc Tryz.prog w base spare held n 22 (([c0,c1,c2,c3,c4,c5].drop 0).take ((Tryz.prog).cellsOf 22)) =some y0:=hf 0 _ rfl;have g1:DataW.trod enc Tryz.prog w base spare held n 24 (([c0,c1,c2,c3,c4,c5].drop 1).take ((Tryz.prog).cellsOf 24)) =some y1:=hf 1 _ rfl;have g2:DataW.trod enc Tryz.prog w base spare held n 3 (([c0,c1,c2,c3,c4,c5].drop 4).take ((Tryz.prog).cellsOf 3)) =some y2:=hf 2 _ rfl;have g3:DataW.trod enc Tryz.prog w base spare held n 3 (([c0,c1,c2,c3,c4,c5].drop 5).take ((Tryz.prog).cellsOf 3)) =some y3:=hf 3 _ rfl;rw [hCs] at g0;rw [hCc] at g1;rw [hCi] at g2 g3
   obtain⟨ps,A,cap,e0,hS,hI,hm⟩:=slice_of_trod encZ i64 Tryz.underlying22 (by kernel_rfl) (by decide) (fun fuel cs x h=>by
    obtain⟨k,e0,_,k0⟩:=DataW.trod_int Tryz.underlying3 h;exact⟨k,e0,i64_of_wf k0⟩) g0
   obtain⟨l,k,K,e1,w0,w1,w2⟩:=conf_of_trod g1;obtain⟨wt,e2,_,k2⟩:=DataW.trod_int Tryz.underlying3 g2;obtain⟨ep,e3,_,k3⟩:=DataW.trod_int Tryz.underlying3 g3;simp at e0 e1 e2 e3
   obtain⟨rfl,rfl,rfl⟩:=e1;subst e0 e2 e3;exact⟨ps,A,cap,l,k,K,wt,ep,rfl,hS,hI,hm,w0,w1,w2,i64_of_wf k2,i64_of_wf k3⟩
end
theorem open_Base {H:Type} {enc:TypeId×Value→H} {w:World} {base:Nat} {spare:Nat→Bool} {held:Bool} {r:Reach} {b0:Nat} {v:Value} {d:DataW H} {p:List MemPlace}
 (hv:Value.okWide Tryz.prog w r b0 26 v) (h:DataW.Trod enc Tryz.prog w base spare held 26 v d p) :
 ∃(ps:List Int) (A:Option Addr) (cap:Nat) (l k K wt ep:Int),v=baseV A ps.length cap l k K wt ep∧Sl w w.heap.size encZ A ps∧(∀x∈ps,i64 x)∧ps.length≤maxLen∧i64 l∧i64 k∧i64 K∧i64 wt∧i64 ep:=by
 obtain⟨cs,rfl,hsz⟩:=okWide_struct Tryz.underlying26 hv;obtain⟨fuel,hf⟩:=h;obtain⟨ps,A,cap,l,k,K,wt,ep,hc,rest⟩:=base_of_trod hf;refine⟨ps,A,cap,l,k,K,wt,ep,?_,rest⟩;obtain⟨c⟩:=cs;have:c= [.slice A ps.length cap,.int .i64 l,.int .i64 k,.int .i64 K,.int .i64 wt,.int .i64 ep]:=by simpa [Value.cells] using hc
 subst this
 rfl
def fewB (n m:Nat) (most K l:Int) :Bool:=decide ((n:Int)≤12) && decide ((m:Int)≤most) && (!decide (K=1) || decide (l≤10))
theorem law32_Few (w:World) (A A2:Option Addr) (n c m c2:Nat) (l k K wt ep most:Int) (hn:n≤maxLen) (hm:m≤maxLen) :
 Calls Tryz.prog 10 #[baseV A n c l k K wt ep,.slice A2 m c2,.int .i64 most] w fun e w'=>e=.returned (.bool (fewB n m most K l))∧Below w.heap.size w w':=by
 unfold baseV fewB;unfold maxLen at hn hm;by_cases h1: (n:Int)≤12
 ·by_cases h2: (m:Int)≤most
  ·by_cases h3:K=1
   ·subst h3
    by_cases h4:l≤10
    ·have e: (decide ((n:Int)≤12) && decide ((m:Int)≤most) && (!decide ((1:Int) =1) || decide (l≤10))) =true:=by simp [h1,h2,h4]
     rw [e]
     go_enter Tryz.func10,Tryz.ntmps10
     go_wp2_with fail;exact bR (v:=.bool true) (by simp only [results,Tryz.results10];go_simp) rfl ⟨rfl,bE⟩
    ·have h4d:decide (l≤10) =false:=by simpa using h4
     have e: (decide ((n:Int)≤12) && decide ((m:Int)≤most) && (!decide ((1:Int) =1) || decide (l≤10))) =false:=by simp [h4]
     rw [e]
     go_enter Tryz.func10,Tryz.ntmps10
     go_wp2_with fail;exact bR (v:=.bool false) (by simp only [results,Tryz.results10];go_simp) rfl ⟨rfl,bE⟩
   ·have h3d: (K == 1) =false:=by simpa using h3
    have e: (decide ((n:Int)≤12) && decide ((m:Int)≤most) && (!decide (K=1) || decide (l≤10))) =true:=by simp [h1,h2,h3]
    rw [e]
    go_enter Tryz.func10,Tryz.ntmps10
    go_wp2_with fail;exact bR (v:=.bool true) (by simp only [results,Tryz.results10];go_simp) rfl ⟨rfl,bE⟩
  ·have h2d:decide ((m:Int)≤most) =false:=by simpa using h2
   have e: (decide ((n:Int)≤12) && decide ((m:Int)≤most) && (!decide (K=1) || decide (l≤10))) =false:=by simp [h2]
   rw [e]
   go_enter Tryz.func10,Tryz.ntmps10
   go_wp2_with fail;exact bR (v:=.bool false) (by simp only [results,Tryz.results10];go_simp) rfl ⟨rfl,bE⟩
 ·have h1d:decide ((n:Int)≤12) =false:=by simpa using h1
  have e: (decide ((n:Int)≤12) && decide ((m:Int)≤most) && (!decide (K=1) || decide (l≤10))) =false:=by simp [h1]
  rw [e]
  go_enter Tryz.func10,Tryz.ntmps10
  go_wp2_with fail;exact bR (v:=.bool false) (by simp only [results,Tryz.results10];go_simp) rfl ⟨rfl,bE⟩
def noEp (ps:List Int) (l k K wt ep:Int) :Prop:=rightG ps=false∨(rightG ps=true∧newS l k K (plcE ps wt 0) ep=false)
theorem law32_made_no (w:World) (A:Option Addr) (cap:Nat) (ps:List Int) (l k K wt ep:Int) (hS:Sl w w.heap.size encZ A ps) (hT:TabZ w) (hm:ps.length≤maxLen) (h:noEp ps l k K wt ep) :
 Calls Tryz.prog 12 #[baseV A ps.length cap l k K wt ep] w fun e w'=>e=.returned (.pointer none)∧Below w.heap.size w w':=by
 have HN:Hid (∀W,Below w.heap.size w W→Calls Tryz.prog 37 #[.slice A ps.length cap,.agg #[.int .i64 l,.int .i64 k,.int .i64 K],.int .i64 wt,.int .i64 ep] W fun e w'=>(∃er,e=.returned (.tuple #[.pointer none,.int .i64 er])∧(er == 0) =false)∧Below W.heap.size W w'):=LH fun W hb=>by
  have hSW:=hS.keep hb.size fun p hp=>hb.cell hp;rcases h with h| ⟨h1,h2⟩
  ·exact(ep_New_tree W A cap ps l k K wt ep hSW hm h).mono fun e w' ⟨h1,h2⟩=>⟨⟨15,h1,rfl⟩,h2⟩
  ·exact(ep_New_arg W A cap ps l k K wt ep hSW (hT.below hb) h1 h2).mono fun e w' ⟨h1,h2⟩=>⟨⟨2,h1,rfl⟩,h2⟩
 have b0:Below w.heap.size w (w.alloc (.cells #[.slice A ps.length cap,.int .i64 l,.int .i64 k,.int .i64 K,.int .i64 wt,.int .i64 ep] 26)):=bE;have HN0:=LH (HN.out _ b0);unfold baseV;clear h hS hT HN b0;generalize ps.length=n at*
 go_enter Tryz.func12,Tryz.ntmps12
 go_wp2_with fail;refine HN0.out.mono ?_;rintro e w1 ⟨⟨er,rfl,her⟩,hb1⟩;have B1:Below w.heap.size w w1:=Below.then_ bE hb1;go_wp2_with fail;exact bR (v:=.pointer none) (by simp only [results,Tryz.results12];go_simp) rfl ⟨rfl,B1⟩
def MadeE (ps:List Int) (l K:Nat) (k wt ep:Int) (w:World) (e:Ending) (w':World) :Prop:=∃L,e=.returned (.pointer (some ⟨L.g,0,none⟩))∧EpS w L (epNew ps l k K wt ep) w'∧L.ps=ps∧L.l=l∧L.K=K
theorem law32_made (w:World) (A:Option Addr) (cap:Nat) (ps:List Int) (l K:Nat) (k wt ep:Int) (hS:Sl w w.heap.size encZ A ps) (hT:TabZ w) (hR:rightG ps=true) (hN:newS l k K (plcE ps wt 0) ep=true) :
 Calls Tryz.prog 12 #[baseV A ps.length cap l k K wt ep] w (MadeE ps l K k wt ep w):=by
 have b0:Below w.heap.size w (w.alloc (.cells #[.slice A ps.length cap,.int .i64 l,.int .i64 k,.int .i64 K,.int .i64 wt,.int .i64 ep] 26)):=bE;have HN0:Hid (Calls Tryz.prog 37 #[.slice A ps.length cap,.agg #[.int .i64 l,.int .i64 k,.int .i64 K],.int .i64 wt,.int .i64 ep] (w.alloc (.cells #[.slice A ps.length cap,.int .i64 l,.int .i64 k,.int .i64 K,.int .i64 wt,.int .i64 ep] 26)) fun e W=>∃L,e=.returned (.tuple #[.pointer (some ⟨L.g,0,none⟩),.int .i64 0])∧EpS w L (epNew ps l k K wt ep) W∧L.ps=ps∧L.l=l∧L.K=K):=LH ((ep_New _ A cap ps l K k wt ep (hS.keep b0.size fun p hp=>b0.cell hp) (hT.below b0) hR hN).mono fun e W h=>EpS.new h b0);unfold baseV MadeE;clear hS hT hR hN b0;generalize ps.length=n at*;generalize epNew ps l k K wt ep=m at*
 go_enter Tryz.func12,Tryz.ntmps12
 go_wp2_with fail;refine HN0.out.mono ?_;rintro e w1 ⟨L,rfl,hS,h1,h2,h3⟩;have H1:=LH (And.intro hS (And.intro h1 (And.intro h2 h3)));clear hS h1 h2 h3;go_wp2_with fail;exact bR (v:=.pointer (some ⟨L.g,0,none⟩)) (by simp only [results,Tryz.results12];go_simp) rfl ⟨L,rfl,H1.out⟩
def FairPost (w:World) (L:EpL) (m:EpM) (o:Stp) (e:Ending) (W':World) :Prop:=
 (e=.returned (.tuple #[.int .i64 0,.bool false])∧EpS w L m W')∨
 ∃er m',e=.returned (.tuple #[.int .i64 er,.bool true])∧(o.kd=4→∀(q:Nat) y,o.i= (q:Int)→m.wv.items[q]? =some y→(decL y.2.data.toList).2=0)∧EpStep L.l L.ps m o er m'∧EpS w L m' W'
structure EpW (w:World) (L:EpL) (K:Nat) (k wt:Int) (q:Nat) (E:Int) (D:Nat→List Nd) (N:Nat→Int) (m:EpM) (W:World) :Prop where
 s:EpS w L m W
 j:EpJ L.l K k wt L.ps E D N m
 v:WvOk L.ps.length (49*q) m.wv
 t:totN N≤q
section
variable {w W W':World} {L:EpL} {K:Nat} {k wt:Int} {q:Nat} {E:Int} {D:Nat→List Nd} {N:Nat→Int} {m:EpM}
theorem EpW.below (h:EpW w L K k wt q E D N m W) (hb:Below W.heap.size W W') :EpW w L K k wt q E D N m W':=⟨h.s.below hb,h.j,h.v,h.t⟩
theorem EpW.more (h:EpW w L K k wt q E D N m W) {q':Nat} (hq:q≤q') :EpW w L K k wt q' E D N m W:=⟨h.s,h.j,h.v.mono (by omega),by have:=h.t;omega⟩
theorem EpW.ok (h:EpW w L K k wt q E D N m W) :EpOk L (49*q) m:=h.j.epOk h.v
theorem EpW.new {ps:List Int} {l:Nat} {ep:Int} (h:EpS w L (epNew ps l k K wt ep) W) (h1:L.ps=ps) (h2:L.l=l) (hR:rightG ps=true) (hN:newS l k K (plcE ps wt 0) ep=true) :EpW w L K k wt 0 ep (fun _=> []) (fun _=>0) (epNew ps l k K wt ep) W:=by
 refine⟨h,?_,WvOk.new _,by rw [totN_zero];decide⟩;rw [h1,h2];exact EpJ.new hR hN
theorem EpW.to (h:EpW w L K k wt q E D N m W) (hq:q≤1000) {o:Stp} {e:Ending} (he:EpE w L m o e W') (hf:o.kd=4→∀(q:Nat) y,o.i= (q:Int)→m.wv.items[q]? =some y→(decL y.2.data.toList).2=0) :
 ∃er m',e=.returned (.int .i64 er)∧EpStep L.l L.ps m o er m'∧EpW w L K k wt (q+1) (gE o er E) (gD o er D) (gN o er N) m' W':=by
 obtain⟨er,m',rfl,hs,h'⟩:=he;obtain⟨k1,k2⟩:=hs.keeps h.j (by have:=h.t;omega) hf;exact⟨er,m',rfl,hs,h',k1,(hs.wave h.j h.v).mono (by omega),by have:=h.t;omega⟩
end
def Tbk (t:Nat) :Prop:=t=82∨t=35∨t=165∨t=37
def K3 (V W:World) :Prop:=∀b t,TypeAt V b t→Tbk t→W.heap[b]? =V.heap[b]?
section
variable {V w W W':World} {L:EpL} {m m':EpM} {F:Nat→Prop} {T:Nat}
theorem K3.refl (W:World) :K3 W W:=fun _ _ _ _=>rfl
theorem TypeAt.size {b t:Nat} (h:TypeAt W b t) :b<W.heap.size:=by
 obtain⟨_,_,h⟩:=h;exact lB h
theorem TypeAt.same {b t:Nat} (h:TypeAt W b t) (e:W'.heap[b]? =W.heap[b]?) :TypeAt W' b t:=by
 obtain⟨c,f,h⟩:=h;exact⟨c,f,e.trans h⟩
theorem K3.trans (h:K3 V W) (k:K3 W W') :K3 V W':=fun b t h1 h2=>(k b t (h1.same (h b t h1 h2)) h2).trans (h b t h1 h2)
theorem K3.below (h:Below W.heap.size W W') :K3 W W':=fun b t h1 _=>h.block b h1.size
theorem K3.more (h:K3 V W) (k:Below W.heap.size W W') :K3 V W':=h.trans (.below k)
theorem EpAt.notBk (h:EpAt W L m F) {b t:Nat} (hb:TypeAt W b t) (ht:Tbk t) : ¬F b:=fun hf=>by
 obtain⟨Fs,h1,h2⟩:=h;rcases (h2 b).1 hf with rfl|e|e|e|e| ⟨i,hi,e⟩
 ·have:=typeAt_eq hb (.of h1.cs)
  subst this;rcases ht with h|h|h|h <;> exact absurd h (by decide)
 ·have:=typeAt_eq hb (own_tyAt h1.p b e)
  subst this;rcases ht with h|h|h|h <;> exact absurd h (by decide)
 ·have:=typeAt_eq hb (own_tyAt h1.o b e)
  subst this;rcases ht with h|h|h|h <;> exact absurd h (by decide)
 ·have:=typeAt_eq hb (own_tyAt h1.s b e)
  subst this;rcases ht with h|h|h|h <;> exact absurd h (by decide)
 ·rcases ht with rfl|rfl|rfl|rfl
  ·exact h1.wv.not_type hb (by decide) e
  ·exact h1.wv.not_type hb (by decide) e
  ·exact h1.wv.not_type hb (by decide) e
  ·exact h1.wv.not_type hb (by decide) e
 ·obtain⟨x,hx⟩:=h1.has hi
  rcases ht with rfl|rfl|rfl|rfl
  ·exact(h1.at_ i x hx).not_type hb (by decide) e
  ·exact(h1.at_ i x hx).not_type hb (by decide) e
  ·exact(h1.at_ i x hx).not_type hb (by decide) e
  ·exact(h1.at_ i x hx).not_type hb (by decide) e
theorem K3.turn (h:EpAt W L m F) (k:Turn F W W') :K3 W W':=fun b t h1 h2=>k.block b h1.size (h.notBk h1 h2)
def EpQ (V w:World) (L:EpL) (m:EpM) (W:World) :Prop:=EpS w L m W∧K3 V W
def EpEQ (V w:World) (L:EpL) (m:EpM) (o:Stp) (e:Ending) (W':World) :Prop:=∃er m',e=.returned (.int .i64 er)∧EpStep L.l L.ps m o er m'∧EpQ V w L m' W'
theorem EpQ.below (h:EpQ V w L m W) (hb:Below W.heap.size W W') :EpQ V w L m W':=⟨h.1.below hb,h.2.more hb⟩
theorem EpQ.post (h:EpQ V w L m W) {o:Stp} {f:Nat} {args:Array Value} (k: ∀F,EpAt W L m F→Calls Tryz.prog f args W (EpPost L m F o W)) :Calls Tryz.prog f args W (EpEQ V w L m o):=by
 obtain⟨⟨F,h1,h2,h3⟩,h4⟩:=h;refine(k F h1).mono ?_;rintro e W' ⟨er,m',rfl,hs,F',k1,k2,k3⟩;exact⟨er,m',rfl,hs,⟨F',k1,fun b hb=>(k3 b hb).elim (h2 b) fun h=>Nat.le_trans h3.size h,h3.trans (k2.below h2 h3.size)⟩,h4.trans (.turn h1 k2)⟩
theorem EpQ.put (h:EpQ V w L m W) (ok:EpOk L T m) (o:Stp) (ho:o.kd=0) :Calls Tryz.prog 13 #[.pointer (some ⟨L.g,0,none⟩),.int .i64 o.i,.int .i64 o.x,.int .i64 o.w] W (EpEQ V w L m o):=
 h.post fun F hA=>(ep_Put W L m F o.i o.x o.w hA ok.tree (fun x hx=>by have:=(ok.sen x hx).len;omega)).mono (by
  rintro e W' (⟨h1,rfl,hb⟩ | ⟨k,x,r',h1,h2,rfl,h3,h4⟩)
  ·exact .of (.put_no ho h1) (.below hA hb)
  ·exact .of (.put ho h1 h2 h3) h4)
end
theorem law32_DoQ (V w W:World) (L:EpL) (m:EpM) (T:Nat) (o:Stp) (h:EpQ V w L m W) (ok:EpOk L T m) (hT:T≤4611686018427379800) (hby:0≤o.by_∧o.by_≤255) (hL: ∀x∈m.ss,lightOf L.l x.2 x.1.k=true) (hH:HearsOk L m o.i) :
 Calls Tryz.prog 34 #[.pointer (some ⟨L.g,0,none⟩),o.v] W (EpEQ V w L m o):=by
 refine law32_DoP W _ o _ fun W1 hb=> ?_;have h1:=h.below hb
 refine⟨EpEQ V w L m o,fun e W' h2=> ?_,fun h0=>h1.put ok o h0,fun h0=>h1.post fun F hA=>ep_Deliver W1 L m F T o h0 hA ok hT hL hH,fun h0=>h1.post fun F hA=>ep_Lose W1 L m F T o h0 hA ok (by omega),fun h0=>h1.post fun F hA=>ep_Copy W1 L m F T o h0 hA ok (by omega),
  fun h0=>h1.post fun F hA=>ep_Spoil W1 L m F T o h0 hby hA ok (by omega),fun h0=>h1.post fun F hA=>ep_Start W1 L m F T o h0 hA ok (by omega),fun h0=>h1.post fun F hA=>ep_Next W1 L m F T o h0 hA ok,fun h0=>h1.post fun F hA=>ep_Tick W1 L m F T o h0 hA ok (by omega)⟩
 obtain⟨er,m',rfl,h3⟩:=h2;exact⟨er,rfl,er,m',rfl,h3⟩
def FairQ (V w:World) (L:EpL) (m:EpM) (o:Stp) (e:Ending) (W':World) :Prop:=
 (e=.returned (.tuple #[.int .i64 0,.bool false])∧EpQ V w L m W')∨
 ∃er m',e=.returned (.tuple #[.int .i64 er,.bool true])∧(o.kd=4→∀(q:Nat) y,o.i= (q:Int)→m.wv.items[q]? =some y→(decL y.2.data.toList).2=0)∧EpStep L.l L.ps m o er m'∧EpQ V w L m' W'
theorem law32_FairQ (V w W:World) (L:EpL) (m:EpM) (T:Nat) (o:Stp) (h:EpQ V w L m W) (ok:EpOk L T m) (hT:T≤4611686018427379800) (hby:0≤o.by_∧o.by_≤255) (hL: ∀x∈m.ss,lightOf L.l x.2 x.1.k=true) (hH:HearsOk L m o.i) :
 Calls Tryz.prog 23 #[.pointer (some ⟨L.g,0,none⟩),o.v] W (FairQ V w L m o):=by
 have HD:=LH (fun W (h:EpQ V w L m W)=>law32_DoQ V w W L m T o h ok hT hby hL hH);have HLt:=LH (fun W (h:EpQ V w L m W)=>h.1.letter o.i);unfold EpEQ at HD;have S0:=LH h;by_cases h4:o.kd=4
 ·have hsz: (m.wv.at_ o.i).2.1.data.toList.length≤8000000:=by
   unfold WS.at_
   split
   ·rename_i hh
    have:=(ok.it _ (getW_mem hh (0,⟨#[]⟩))).2.2;rw [Array.length_toList];exact Nat.le_trans this (by decide)
   ·simp
  have hdec: (decL (m.wv.at_ o.i).2.1.data.toList).2=0→∀(q:Nat) y,o.i= (q:Int)→m.wv.items[q]? =some y→(decL y.2.data.toList).2=0:=fun hd q y hq hy=>by
   have hql:=(List.getElem?_eq_some_iff.1 hy).1;have hh:m.wv.has o.i=true:=by unfold WS.has;rw [hq];simp;exact hql
   unfold WS.at_ at hd;rw [if_pos hh,hq,Int.toNat_natCast,List.getD_eq_getElem?_getD,hy] at hd;exact hd
  have HDe:=LH hdec;have HDc:=LH (fun W=>ref29_Decode W (m.wv.at_ o.i).2.1.data.toList hsz);unfold atV at HLt;have eS: ∀t:ByteArray,(⟨t.data.toList.toArray⟩ :ByteArray) =t:=fun t=>by cases t;simp
  have HP0:Hid (∀W,EpQ V w L m W→FairQ V w L m o (.returned (.tuple #[.int .i64 0,.bool false])) W):=LH fun W h=>.inl ⟨rfl,h⟩;have HP1:Hid ((decL (m.wv.at_ o.i).2.1.data.toList).2=0→∀er m' W,EpStep L.l L.ps m o er m'→EpQ V w L m' W→FairQ V w L m o (.returned (.tuple #[.int .i64 er,.bool true])) W):=LH fun hd er m' W h1 h2=>.inr ⟨er,m',rfl,fun _=>hdec hd,h1,h2⟩;unfold LtPost at HDc;rw [eS] at HDc;have b0:Below W.heap.size W (W.alloc (.cells #[.int .i64 o.kd,.int .i64 o.i,.int .i64 o.x,.int .i64 o.w,.int .i64 o.at_,.int .u8 o.by_] 37)):=(Below.refl _ _).alloc (Nat.le_refl _) _;have S1:=LH (S0.out.below b0);have K1:=LH (heap_alloc_new W (.cells #[.int .i64 o.kd,.int .i64 o.i,.int .i64 o.x,.int .i64 o.w,.int .i64 o.at_,.int .u8 o.by_] 37));unfold Stp.v stepV at HD⊢;have h4d: (o.kd == 4) =true:=by simpa using h4
  clear h ok hL hH hby h4 b0 S0 hdec hsz eS HDe;generalize decL (m.wv.at_ o.i).2.1.data.toList=D at*;generalize m.wv.at_ o.i=r at*;generalize FairQ V w L m o=PP at*;obtain⟨pc,hpc⟩ : ∃q,q=W.heap.size:=⟨_,rfl⟩
  go_enter Tryz.func23,Tryz.ntmps23
  go_upto_region 1 with fail;rw [←hpc] at K1⊢;clear hpc;generalize W.alloc (.cells #[.int .i64 o.kd,.int .i64 o.i,.int .i64 o.x,.int .i64 o.w,.int .i64 o.at_,.int .u8 o.by_] 37) =W1 at S1 K1⊢;have cc:=bC K1.out;have zc:=lB K1.out;go_wp2_with fail;refine(HLt.out _ S1.out).mono ?_;rintro e w2 ⟨rfl,hb2⟩;have S2:=LH (S1.out.below hb2);have K2:=LH (bB K1.out hb2);clear hb2 cc zc;go_wp2_with fail;refine(HDc.out _).mono ?_;rintro e w3 ⟨rfl,hb3⟩;have S3:=LH (S2.out.below hb3);have K3:=LH (bB K2.out hb3);clear hb3 HLt HDc;by_cases hd0:D.2=0
  ·have hd0d: (D.2 == 0) =true:=by simpa using hd0
   have HP:=LH (HP1.out hd0);clear HP1;go_upto_region 4 with fail;have S4:=LH (S3.out.below (W':=_) ((Below.refl w3.heap.size w3).alloc (Nat.le_refl _) (.cells #[.int .i64 D.1.e,.int .i64 D.1.f,.int .u64 D.1.c,.string ⟨D.1.b.toArray⟩] 110)));have K4:=LH (bB K3.out ((Below.refl w3.heap.size w3).alloc (Nat.le_refl _) (.cells #[.int .i64 D.1.e,.int .i64 D.1.f,.int .u64 D.1.c,.string ⟨D.1.b.toArray⟩] 110)));generalize w3.alloc (.cells #[.int .i64 D.1.e,.int .i64 D.1.f,.int .u64 D.1.c,.string ⟨D.1.b.toArray⟩] 110) =W4 at S4 K4⊢;have cc:=bC K4.out;have zc:=lB K4.out;clear S3 K3;go_wp2_with fail;refine(HD.out _ S4.out).mono ?_;rintro e w5 ⟨er,m',rfl,h1,h2⟩;have HF:=LH (HP.out _ _ _ h1 h2);clear h1 h2;go_wp2_with fail;exact HF.out
  ·have hd0d: (D.2 == 0) =false:=by simpa using hd0
   have S4:=LH (S3.out.below (W':=_) ((Below.refl w3.heap.size w3).alloc (Nat.le_refl _) (.cells #[.int .i64 D.1.e,.int .i64 D.1.f,.int .u64 D.1.c,.string ⟨D.1.b.toArray⟩] 110)));clear hd0 HP1 HD;go_wp2_with fail;exact HP0.out _ S4.out
 ·have h4d: (o.kd == 4) =false:=by simpa using h4
  have HP1:Hid (∀er m' W,EpStep L.l L.ps m o er m'→EpQ V w L m' W→FairQ V w L m o (.returned (.tuple #[.int .i64 er,.bool true])) W):=LH fun er m' W h1 h2=>.inr ⟨er,m',rfl,fun h=>absurd h h4,h1,h2⟩;have b0:Below W.heap.size W (W.alloc (.cells #[.int .i64 o.kd,.int .i64 o.i,.int .i64 o.x,.int .i64 o.w,.int .i64 o.at_,.int .u8 o.by_] 37)):=(Below.refl _ _).alloc (Nat.le_refl _) _;have S1:=LH (S0.out.below b0);unfold Stp.v stepV at HD⊢;clear h ok hL hH hby h4 b0 S0;generalize FairQ V w L m o=PP at*
  go_enter Tryz.func23,Tryz.ntmps23
  go_wp2_with fail;refine(HD.out _ S1.out).mono ?_;rintro e w1 ⟨er,m',rfl,h1,h2⟩;have HF:=LH (HP1.out _ _ _ h1 h2);clear h1 h2;go_wp2_with fail;exact HF.out
section
variable {w W W':World} {L:EpL} {K:Nat} {k wt:Int} {q:Nat} {E:Int} {D:Nat→List Nd} {N:Nat→Int} {m:EpM}
theorem EpW.toQ (h:EpW w L K k wt q E D N m W) (hq:q≤1000) {o:Stp} {e:Ending} (he:EpEQ W w L m o e W') (hf:o.kd=4→∀(q:Nat) y,o.i= (q:Int)→m.wv.items[q]? =some y→(decL y.2.data.toList).2=0) :
 ∃er m',e=.returned (.int .i64 er)∧EpStep L.l L.ps m o er m'∧EpW w L K k wt (q+1) (gE o er E) (gD o er D) (gN o er N) m' W'∧K3 W W':=by
 obtain⟨er,m',rfl,hs,h',h2⟩:=he;obtain⟨er2,m2,h3,h4,h5⟩:=h.to (W':=W') (e:=.returned (.int .i64 er)) (o:=o) hq ⟨er,m',rfl,hs,h'⟩ hf
 cases h3
 obtain⟨k1,k2⟩:=hs.keeps h.j (by have:=h.t;omega) hf;exact⟨er,m',rfl,hs,⟨h',k1,(hs.wave h.j h.v).mono (by omega),by have:=h.t;omega⟩,h2⟩
theorem EpW.fairQ (h:EpW w L K k wt q E D N m W) (hq:q≤1000) (o:Stp) (hby:0≤o.by_∧o.by_≤255) :Calls Tryz.prog 23 #[.pointer (some ⟨L.g,0,none⟩),o.v] W fun e W'=>
 (e=.returned (.tuple #[.int .i64 0,.bool false])∧EpW w L K k wt q E D N m W'∧K3 W W')∨
 ∃er m',e=.returned (.tuple #[.int .i64 er,.bool true])∧EpStep L.l L.ps m o er m'∧EpW w L K k wt (q+1) (gE o er E) (gD o er D) (gN o er N) m' W'∧K3 W W':=by
 refine(law32_FairQ W w W L m (49*q) o ⟨h.s,.refl W⟩ h.ok (by omega) hby h.j.lights (h.j.hearsOk _)).mono ?_;rintro e W' (⟨rfl,hs,h2⟩ | ⟨er,m',rfl,hf,hs,h'⟩)
 ·exact .inl ⟨rfl,⟨hs,h.j,h.v,h.t⟩,h2⟩
 ·obtain⟨er2,m2,he,hs2,h2⟩:=h.toQ (e:=.returned (.int .i64 er)) hq ⟨er,m',rfl,hs,h'⟩ hf
  cases he
  exact .inr ⟨er,m2,rfl,hs2,h2⟩
theorem EpW.startQ (h:EpW w L K k wt q E D N m W) (hq:q≤1000) :Calls Tryz.prog 15 #[.pointer (some ⟨L.g,0,none⟩)] W fun e W'=>∃er m',e=.returned (.int .i64 er)∧EpStep L.l L.ps m ⟨6,0,0,0,0,0⟩ er m'∧EpW w L K k wt (q+1) E D N m' W'∧K3 W W':=
 (EpQ.post ⟨h.s,.refl W⟩ fun F hA=>ep_Start W L m F (49*q) ⟨6,0,0,0,0,0⟩ rfl hA h.ok (by omega)).mono fun e W' he=>h.toQ hq he (fun h=>absurd h (by simp))
theorem EpW.deliverQ (h:EpW w L K k wt q E D N m W) (hq:q≤1000) (i:Int) :Calls Tryz.prog 18 #[.pointer (some ⟨L.g,0,none⟩),.int .i64 i] W fun e W'=>∃er m',e=.returned (.int .i64 er)∧EpStep L.l L.ps m ⟨1,i,0,0,0,0⟩ er m'∧EpW w L K k wt (q+1) E D N m' W'∧K3 W W':=
 (EpQ.post ⟨h.s,.refl W⟩ fun F hA=>ep_Deliver W L m F (49*q) ⟨1,i,0,0,0,0⟩ rfl hA h.ok (by omega) h.j.lights (h.j.hearsOk _)).mono fun e W' he=>h.toQ hq he (fun h=>absurd h (by simp))
theorem EpW.copyQ (h:EpW w L K k wt q E D N m W) (hq:q≤1000) (i:Int) :Calls Tryz.prog 17 #[.pointer (some ⟨L.g,0,none⟩),.int .i64 i] W fun e W'=>∃er m',e=.returned (.int .i64 er)∧EpStep L.l L.ps m ⟨3,i,0,0,0,0⟩ er m'∧EpW w L K k wt (q+1) E D N m' W'∧K3 W W':=
 (EpQ.post ⟨h.s,.refl W⟩ fun F hA=>ep_Copy W L m F (49*q) ⟨3,i,0,0,0,0⟩ rfl hA h.ok (by omega)).mono fun e W' he=>h.toQ hq he (fun h=>absurd h (by simp))
theorem EpW.putQ (h:EpW w L K k wt q E D N m W) (hq:q≤1000) (i x c:Int) :Calls Tryz.prog 13 #[.pointer (some ⟨L.g,0,none⟩),.int .i64 i,.int .i64 x,.int .i64 c] W fun e W'=>∃er m',e=.returned (.int .i64 er)∧EpStep L.l L.ps m ⟨0,i,x,c,0,0⟩ er m'∧EpW w L K k wt (q+1) E (gD ⟨0,i,x,c,0,0⟩ er D) (gN ⟨0,i,x,c,0,0⟩ er N) m' W'∧K3 W W':=
 (EpQ.put ⟨h.s,.refl W⟩ h.ok ⟨0,i,x,c,0,0⟩ rfl).mono fun e W' he=>h.toQ hq he (fun h=>absurd h (by simp))
end
structure BkI where
 A:Option Addr
 m:List Nd
 c:Nat
def encBk (l:Nat) :Enc BkI 2:=⟨fun s=> [.int .i64 l,.slice s.A s.m.length s.c],fun _=>rfl,by intro x u hu;simp at hu;rcases hu with rfl|rfl <;> rfl⟩
def encFl:Enc Unit 1:=⟨fun _=> [.bool false],fun _=>rfl,by intro x u hu;simp at hu;subst hu;rfl⟩
theorem tyBk:SliceTy Tryz.prog 79 35 2 32 (.agg #[.int .i64 0,.slice none 0 0]):=⟨Tryz.underlying79,by kernel_rfl,rfl,by decide⟩
theorem tyBl:SliceTy Tryz.prog 80 4 1 1 (.bool false):=⟨Tryz.underlying80,by kernel_rfl,rfl,by decide⟩
def bk0:BkI:=⟨none, [],0⟩
structure BegS (w:World) (l:Nat) (a b c:Nat) (p4 p5:Nat) (vn vs vd:Value) (W:World) :Prop where
 x4:W.heap[p4]? =some (.cells #[.slice none 0 0,.slice none 0 0,.slice none 0 0] 82 (0,0))
 x5:W.heap[p5]? =some (.cells #[vn,vs,vd] 82 (0,0))
 g5:w.heap.size≤p5
 n45:p4≠p5
 on:Own W w.heap.size 35 (encBk l) vn (List.replicate a bk0)
 os:Own W w.heap.size 35 (encBk l) vs (List.replicate b bk0)
 od:Own W w.heap.size 4 encFl vd (List.replicate c ())
 ap:vn.ownBlock=none∨vn.ownBlock≠vs.ownBlock
 bw:Below w.heap.size w W
section
variable {w W W':World} {l a b c p4 p5:Nat} {vn vs vd v':Value}
theorem own_apart {v:Value} (h:v.ownBlock=none∨v.ownBlock≠vs.ownBlock) :vs.ownBlock=none∨vs.ownBlock≠v.ownBlock:=by
 rcases h with h|h
 ·cases h2:vs.ownBlock with
  |none=>exact .inl rfl
  |some x=>right;rw [h];simp
 ·exact .inr fun e=>h e.symm
theorem rep_snoc {α:Type} (x:α) (n:Nat) :List.replicate n x ++ [x] =List.replicate (n+1) x:=by rw [List.replicate_succ']
theorem BegS.pushN (h:BegS w l a b c p4 p5 vn vs vd W) (ho:Own W' w.heap.size 35 (encBk l) v' (List.replicate a bk0 ++ [bk0])) (hg:W.grownBy W' vn.ownBlock) (hv:v'.ownBlock=vn.ownBlock∨v'.ownBlock=some (W.heap.size+1)) (hb:Below w.heap.size W W') :
 BegS w l (a+1) b c p4 p5 v' vs vd (W'.setCell ⟨p5,0,none⟩ v'):=by
 have k5:W'.heap[p5]? =some (.cells #[vn,vs,vd] 82 (0,0)):=(hg.block p5 (lB h.x5) fun e=>h.on.ne_block h.x5 (by decide) e.symm).trans h.x5;have k4:W'.heap[p4]? =some (.cells #[.slice none 0 0,.slice none 0 0,.slice none 0 0] 82 (0,0)):=(hg.block p4 (lB h.x4) fun e=>h.on.ne_block h.x4 (by decide) e.symm).trans h.x4;have os':=h.os.kept hg (own_apart h.ap);have od':=h.od.kept hg (own_ne h.od h.on (by decide));rw [rep_snoc] at ho;refine⟨(Below.heap_setCell _ _ _ _ h.n45).trans k4,zH (i:=0) k5 v',h.g5,h.n45,ho.setCell (ho.ne_block k5 (by decide)) _,os'.setCell (os'.ne_block k5 (by decide)) _,od'.setCell (od'.ne_block k5 (by decide)) _,?_,(h.bw.trans hb).setCell (p:=⟨p5,0,none⟩) h.g5 _⟩;rcases hv with hv|hv
 ·rw [hv];exact h.ap
 ·right
  rw [hv];exact fun e=>h.os.not_at (W.heap.size+1) (Nat.le_succ _) e.symm
theorem BegS.pushS (h:BegS w l a b c p4 p5 vn vs vd W) (ho:Own W' w.heap.size 35 (encBk l) v' (List.replicate b bk0 ++ [bk0])) (hg:W.grownBy W' vs.ownBlock) (hv:v'.ownBlock=vs.ownBlock∨v'.ownBlock=some (W.heap.size+1)) (hb:Below w.heap.size W W') :
 BegS w l a (b+1) c p4 p5 vn v' vd (W'.setCell ⟨p5,1,none⟩ v'):=by
 have k5:W'.heap[p5]? =some (.cells #[vn,vs,vd] 82 (0,0)):=(hg.block p5 (lB h.x5) fun e=>h.os.ne_block h.x5 (by decide) e.symm).trans h.x5;have k4:W'.heap[p4]? =some (.cells #[.slice none 0 0,.slice none 0 0,.slice none 0 0] 82 (0,0)):=(hg.block p4 (lB h.x4) fun e=>h.os.ne_block h.x4 (by decide) e.symm).trans h.x4;have on':=h.on.kept hg h.ap;have od':=h.od.kept hg (own_ne h.od h.os (by decide));rw [rep_snoc] at ho;refine⟨(Below.heap_setCell _ _ _ _ h.n45).trans k4,zH (i:=1) k5 v',h.g5,h.n45,on'.setCell (on'.ne_block k5 (by decide)) _,ho.setCell (ho.ne_block k5 (by decide)) _,od'.setCell (od'.ne_block k5 (by decide)) _,?_,(h.bw.trans hb).setCell (p:=⟨p5,1,none⟩) h.g5 _⟩;rcases hv with hv|hv
 ·rw [hv];exact h.ap
 ·right
  rw [hv];exact fun e=>h.on.not_at (W.heap.size+1) (Nat.le_succ _) e
theorem BegS.pushD (h:BegS w l a b c p4 p5 vn vs vd W) (ho:Own W' w.heap.size 4 encFl v' (List.replicate c () ++ [()])) (hg:W.grownBy W' vd.ownBlock) (hb:Below w.heap.size W W') :
 BegS w l a b (c+1) p4 p5 vn vs v' (W'.setCell ⟨p5,2,none⟩ v'):=by
 have k5:W'.heap[p5]? =some (.cells #[vn,vs,vd] 82 (0,0)):=(hg.block p5 (lB h.x5) fun e=>h.od.ne_block h.x5 (by decide) e.symm).trans h.x5;have k4:W'.heap[p4]? =some (.cells #[.slice none 0 0,.slice none 0 0,.slice none 0 0] 82 (0,0)):=(hg.block p4 (lB h.x4) fun e=>h.od.ne_block h.x4 (by decide) e.symm).trans h.x4;have on':=h.on.kept hg (own_ne h.on h.od (by decide));have os':=h.os.kept hg (own_ne h.os h.od (by decide));rw [rep_snoc] at ho;exact⟨(Below.heap_setCell _ _ _ _ h.n45).trans k4,zH (i:=2) k5 v',h.g5,h.n45,on'.setCell (on'.ne_block k5 (by decide)) _,os'.setCell (os'.ne_block k5 (by decide)) _,ho.setCell (ho.ne_block k5 (by decide)) _,h.ap,(h.bw.trans hb).setCell (p:=⟨p5,2,none⟩) h.g5 _⟩
end
def BegPost (l n:Nat) (w:World) (e:Ending) (w':World) :Prop:=∃vn As ns cs Ad nd cd,e=.returned (.agg #[vn,.slice As ns cs,.slice Ad nd cd])∧Own w' w.heap.size 35 (encBk l) vn (List.replicate n bk0)∧Below w.heap.size w w'
theorem law32_begun (w:World) (n l:Nat) (hn:n≤48) :Calls Tryz.prog 40 #[.int .i64 n,.int .i64 l] w (BegPost l n w):=by
 have HP:Hid (∀W vn vs vd p4 p5,w.heap.size≤p4→BegS w l n n n p4 p5 vn vs vd W→BegPost l n w (.returned (.agg #[vn,vs,vd])) (((W.setCell ⟨p4,0,none⟩ vn).setCell ⟨p4,1,none⟩ vs).setCell ⟨p4,2,none⟩ vd)):=LH fun W vn vs vd p4 p5 h4 h=>by
  obtain⟨As,cs,rfl,_⟩:=h.os.form;obtain⟨Ad,cd,rfl,_⟩:=h.od.form;have n1:=h.on.ne_block h.x4 (by decide);exact⟨vn,As,_,cs,Ad,_,cd,rfl,((h.on.setCell (p:=⟨p4,0,none⟩) n1 _).setCell (p:=⟨p4,1,none⟩) n1 _).setCell (p:=⟨p4,2,none⟩) n1 _,((h.bw.setCell (p:=⟨p4,0,none⟩) h4 _).setCell (p:=⟨p4,1,none⟩) h4 _).setCell (p:=⟨p4,2,none⟩) h4 _⟩
 have hB0:BegS w l 0 0 0 w.heap.size (w.heap.size+1) (.slice none 0 0) (.slice none 0 0) (.slice none 0 0) ((w.alloc (.cells #[.slice none 0 0,.slice none 0 0,.slice none 0 0] 82)).alloc (.cells #[.slice none 0 0,.slice none 0 0,.slice none 0 0] 82)):=by
  have e1:w.heap.size+1= (w.alloc (.cells #[.slice none 0 0,.slice none 0 0,.slice none 0 0] 82)).heap.size:=by simp
  refine⟨(Below.heap_alloc _ _ _ (by simp)).trans (heap_alloc_new w _),by rw [e1];exact heap_alloc_new _ _,Nat.le_succ _,by omega,Own.nil _ _ _ _,Own.nil _ _ _ _,Own.nil _ _ _ _,.inl rfl,bE⟩
 have X0:=LH hB0;clear hB0;obtain⟨p4,hp4⟩ : ∃q,q=w.heap.size:=⟨_,rfl⟩;obtain⟨p5,hp5⟩ : ∃q,q=w.heap.size+1:=⟨_,rfl⟩;have H4:Hid (w.heap.size≤p4):=LH (by omega)
 go_enter Tryz.func40,Tryz.ntmps40
 go_upto_region 2 with fail;rw [←hp5,←hp4] at X0⊢;clear hp4 hp5;generalize (w.alloc (.cells #[.slice none 0 0,.slice none 0 0,.slice none 0 0] 82)).alloc (.cells #[.slice none 0 0,.slice none 0 0,.slice none 0 0] 82) =W0 at X0⊢;go_wp2_with fail
 go_loopw [7] (fun i wr=>∃(q:Nat) (vn vs vd:Value),i=.int .i64 q∧q≤n∧BegS w l q q q p4 p5 vn vs vd wr) (fun i _=>n - (intOf i).toNat)
 case atStart=>exact⟨0,_,_,_,rfl,Nat.zero_le _,X0.out⟩
 case round=>
  obtain⟨q,vn,vs,vd,rfl,hq,hX⟩:=hrel;obtain⟨An,cn,rfl,_⟩:=hX.on.form;obtain⟨As,cs,rfl,_⟩:=hX.os.form;obtain⟨Ad,cd,rfl,_⟩:=hX.od.form;rw [List.length_replicate] at hX;rw [List.length_replicate] at hX;have X1:=LH hX;have c5:=bC hX.x5;have f5:=bF hX.x5;have z5:=lB hX.x5;have c4:=bC hX.x4;have f4:=bF hX.x4;have z4:=lB hX.x4;by_cases hlt:q<n
  ·clear hX c4 z4 f4
   have hs1:=X1.out.bw.size;go_wp2_with ((at_builtin;refine wpList_push tyBk rfl _ _ rfl (encBk l) wr w.heap.size _ (List.replicate q bk0) rfl X1.out.on bk0 (by go_simp) rfl ?c1 ?c2 ?c3 ?c4))
   case c1=>simp;omega
   case c2=>simp [maxLen];omega
   case c3=>exact hs1
   case c4=>
    intro v' w' ho' hg' _ hv' hb' _;obtain⟨A1,c1,rfl,_⟩:=ho'.form;have el: (List.replicate q bk0 ++ [bk0]).length=q+1:=by simp
    rw [el] at ho' hv'⊢;have X2:=LH (X1.out.pushN ho' hg' hv' hb');have k5:=(hg'.block p5 (lB X1.out.x5) fun e=>X1.out.on.ne_block X1.out.x5 (by decide) e.symm).trans X1.out.x5;have c5:=bC k5;have f5:=bF k5;have z5:=lB k5;clear ho' hg' hv' hb' k5 X1;have c6:=bC X2.out.x5;have f6:=bF X2.out.x5;have z6:=lB X2.out.x5;have hs2:=X2.out.bw.size;go_wp2_with ((at_builtin;go_loud (refine wpList_push tyBk rfl _ _ rfl (encBk l) _ w.heap.size _ (List.replicate q bk0) rfl X2.out.os bk0 (by go_simp) rfl ?c1 ?c2 ?c3 ?c4)))
    case c1=>simp;omega
    case c2=>simp [maxLen];omega
    case c3=>exact hs2
    case c4=>
     intro v2 w3 ho' hg' _ hv' hb' _;obtain⟨A2,c2,rfl,_⟩:=ho'.form;have el: (List.replicate q bk0 ++ [bk0]).length=q+1:=by simp
     rw [el] at ho' hv'⊢;have X3:=LH (X2.out.pushS ho' hg' (by simpa [World.setCell] using hv') hb');have k5:=(hg'.block p5 (lB X2.out.x5) fun e=>X2.out.os.ne_block X2.out.x5 (by decide) e.symm).trans X2.out.x5;clear c5 z5 c6 z6 f5 f6;have c5:=bC k5;have f5:=bF k5;have z5:=lB k5;clear ho' hg' hv' hb' k5 X2;have c6:=bC X3.out.x5;have f6:=bF X3.out.x5;have z6:=lB X3.out.x5;have hs3:=X3.out.bw.size;go_wp2_with ((at_builtin;go_loud (refine wpList_push tyBl rfl _ _ rfl encFl _ w.heap.size _ (List.replicate q ()) rfl X3.out.od () (by go_simp) rfl ?c1 ?c2 ?c3 ?c4)))
     case c1=>simp;omega
     case c2=>simp [maxLen];omega
     case c3=>exact hs3
     case c4=>
      intro v3 w5 ho' hg' _ hv' hb' _;obtain⟨A3,c3,rfl,_⟩:=ho'.form;have el: (List.replicate q () ++ [()]).length=q+1:=by simp
      rw [el] at ho'⊢;have X4:=LH (X3.out.pushD ho' hg' hb');have k5:=(hg'.block p5 (lB X3.out.x5) fun e=>X3.out.od.ne_block X3.out.x5 (by decide) e.symm).trans X3.out.x5;clear c5 z5 c6 z6 f5 f6;have c5:=bC k5;have f5:=bF k5;have z5:=lB k5;clear ho' hg' hv' hb' k5 X3;go_wp2_with fail;go_roundw
      case rel=>exact⟨q+1,_,_,_,by go_num,by omega,X4.out⟩
      case measure=>simp [intOf];omega
  ·obtain rfl:q=n:=by omega
   have HF:=LH (HP.out _ _ _ _ _ _ H4.out hX);have Y:Hid ((((wr.setCell ⟨p4,0,none⟩ (.slice An q cn)).setCell ⟨p4,1,none⟩ (.slice As q cs)).setCell ⟨p4,2,none⟩ (.slice Ad q cd)).heap[p4]? =some (.cells #[.slice An q cn,.slice As q cs,.slice Ad q cd] 82 (0,0))):=LH (zH (i:=2) (zH (i:=1) (zH (i:=0) hX.x4 _) _) _);clear hX;go_wp2_with fail;clear c5 z5 c4 z4 f4 f5;generalize ((wr.setCell ⟨p4,0,none⟩ (.slice An q cn)).setCell ⟨p4,1,none⟩ (.slice As q cs)).setCell ⟨p4,2,none⟩ (.slice Ad q cd) =wf at HF Y⊢;have ce:=bC Y.out;have fe:=bF Y.out;have ze:=lB Y.out;exact bR (v:=.agg #[.slice An q cn,.slice As q cs,.slice Ad q cd]) (by simp only [results,Tryz.results40];go_simp) rfl HF.out
def lsum (f:Nat→Int) :List Nat→Int
 | []=>0
 |j :: t=>f j+lsum f t
theorem lsum_append (f:Nat→Int) : ∀(a b:List Nat),lsum f (a ++ b) =lsum f a+lsum f b
 | [],b=>by simp [lsum]
 |j :: a,b=>by simp only [List.cons_append,lsum,lsum_append f a b];omega
theorem lsum_nonneg {f:Nat→Int} (h: ∀j,0≤f j) : ∀(a:List Nat),0≤lsum f a
 | []=>Int.le_refl _
 |j :: a=>by
  have:=lsum_nonneg h a;have:=h j;unfold lsum;omega
theorem lsum_take {f:Nat→Int} (h: ∀j,0≤f j) (a:List Nat) (q:Nat) :lsum f (a.take q)≤lsum f a:=by
 have e:=lsum_append f (a.take q) (a.drop q);rw [List.take_append_drop] at e;have:=lsum_nonneg h (a.drop q);omega
theorem lsum_each (f:Nat→Int) (c:Nat) : ∀(n:Nat),lsum f ((List.range n).filter fun j=>c.testBit j) =wsumN f c n
 |0=>rfl
 |n+1=>by
  rw [List.range_succ,List.filter_append,lsum_append,lsum_each f c n];rw [show wsumN f c (n+1) =wsumN f c n+if c.testBit n=true then f n else 0 from rfl]
  cases h:c.testBit n <;> simp [h,lsum]
theorem lsum_eachL (f:Nat→Int) (c:Nat) :lsum f (eachL c) =wsum f c:=lsum_each f c 48
def accF (D:Nat→List Nd) (a:List Nd) (xs:List Nat) :List Nd:=xs.foldl (fun a j=>pourL a (D j)) a
def accO (D:Nat→List Nd) (xs:List Nat) :List Nd:=accF D [] xs
theorem accO_snoc (D:Nat→List Nd) (xs:List Nat) (j:Nat) :accO D (xs ++ [j]) =pourL (accO D xs) (D j):=by simp [accO,accF]
theorem pour_len (ma:List Nd) : ∀(mb:List Nd),(pourL ma mb).length≤ma.length+mb.length:=fun mb=>by
 induction mb generalizing ma with
 |nil=>simp [pourL]
 |cons x mb ih=>
  have:=ih (addR ma x.1 x.2);have h2:=addR_len ma x.1 x.2;simp only [pourL,List.foldl_cons,List.length_cons] at this⊢;omega
section
variable {l:Nat} {D:Nat→List Nd} {N:Nat→Int} {k:Int}
theorem accF_facts (hD: ∀j,BagL l (D j)) : ∀(xs:List Nat) (a:List Nd),BagL l a→sumR a+lsum (fun j=>sumR (D j)) xs≤72057594037927935→
 BagL l (accF D a xs)∧sumR (accF D a xs) =sumR a+lsum (fun j=>sumR (D j)) xs∧∀id,getR (leaves l (accF D a xs)) id=getR (leaves l a) id+lsum (fun j=>getR (leaves l (D j)) id) xs
 | [],a,h,hs=>⟨h,by simp [accF,lsum],fun id=>by simp [accF,lsum]⟩
 |j :: xs,a,h,hs=>by
  have h0: ∀j,0≤sumR (D j):=fun j=>(hD j).sum0;have hn:=lsum_nonneg h0 xs;simp only [lsum] at hs;obtain⟨p1,p2,p3⟩:=pour_leaves (l:=l) (ma:=a) (mb:=D j) h (fun x hx=>(hD j).val x hx) (by omega);obtain⟨i1,i2,i3⟩:=accF_facts hD xs (pourL a (D j)) p1 (by rw [p2];omega);refine⟨i1,?_,fun id=> ?_⟩
  ·show sumR (accF D (pourL a (D j)) xs) =_
   rw [i2,p2];simp only [lsum];omega
  ·show getR (leaves l (accF D (pourL a (D j)) xs)) id=_
   rw [i3,p3,←leaves_get (hD j).up];simp only [lsum];omega
theorem accO_facts (hD: ∀j,BagL l (D j)) (xs:List Nat) (hs:lsum (fun j=>sumR (D j)) xs≤72057594037927935) :
 BagL l (accO D xs)∧sumR (accO D xs) =lsum (fun j=>sumR (D j)) xs∧∀id,getR (leaves l (accO D xs)) id=lsum (fun j=>getR (leaves l (D j)) id) xs:=by
 obtain⟨h1,h2,h3⟩:=accF_facts hD xs [] (.nil l) (by simp only [sumR];omega);exact⟨h1,by rw [accO,h2];simp [sumR],fun id=>by rw [accO,h3];simp [leaves,getR]⟩
theorem leaves_inj {a b:List Nd} (h:leaves l a=leaves l b) :a=b:=by
 unfold leaves at h;refine List.map_inj_right ?_ |>.1 h;rintro⟨x1,x2⟩ ⟨y1,y2⟩ e;simp only [Prod.mk.injEq] at e;obtain⟨e1,e2⟩:=e;rw [show x1=y1 by omega,e2]
theorem Held.swap {r m m':List Nd} (h:Held l k r m) (hm:BagL l m') (he: ∀id,getR (leaves l m) id=getR (leaves l m') id) :Held l k r m':=by
 have e:m=m':=leaves_inj (Roll.ext (leaves_roll h.bag) (leaves_roll hm) he)
 rwa [←e]
theorem Covers.acc {c:Nat} {r:List Nd} (h:Covers l k D N c r) (hD: ∀j,BagL l (D j)) :lsum (fun j=>sumR (D j)) (eachL c)≤72057594037927935∧Held l k r (accO D (eachL c)):=by
 obtain⟨m,h1,h2⟩:=h.held;have h3:=h.sum hD;have h4:lsum (fun j=>sumR (D j)) (eachL c)≤72057594037927935:=by rw [lsum_eachL,←h3,h1.sum];exact h1.bag.sum
 obtain⟨p1,p2,p3⟩:=accO_facts hD (eachL c) h4;exact⟨h4,h1.swap p1 fun id=>by rw [h2,p3,lsum_eachL]⟩
theorem accO_len {n:Nat} (hl: ∀j,(D j).length≤n) (xs:List Nat) : (accO D xs).length≤xs.length*n:=by
 have: ∀(xs:List Nat) (a:List Nd),(accF D a xs).length≤a.length+xs.length*n:=fun xs=>by
  induction xs with
  |nil=>intro a;simp [accF]
  |cons j xs ih=>
   intro a;have h1:=ih (pourL a (D j));have h2:=pour_len a (D j);have h3:=hl j;show (accF D (pourL a (D j)) xs).length≤_
   simp only [List.length_cons,Nat.succ_mul];omega
 simpa [accO] using this xs []
theorem accO_step (hD: ∀j,BagL l (D j)) {xs:List Nat} (hs:lsum (fun j=>sumR (D j)) xs≤72057594037927935) {q:Nat} (hq:q<xs.length) :
 BagL l (accO D (xs.take q))∧sumR (accO D (xs.take q)) +sumR (D xs[q])≤72057594037927935∧accO D (xs.take (q+1)) =pourL (accO D (xs.take q)) (D xs[q]):=by
 have h0: ∀j,0≤sumR (D j):=fun j=>(hD j).sum0;have h1:=lsum_take h0 xs (q+1);have e:xs.take (q+1) =xs.take q ++ [xs[q]]:=by rw [List.take_succ_eq_append_getElem hq]
 have h2:=lsum_take h0 xs q;obtain⟨p1,p2,_⟩:=accO_facts hD (xs.take q) (by omega);refine⟨p1,?_,by rw [e,accO_snoc]⟩;rw [p2];rw [e,lsum_append] at h1;simp only [lsum] at h1;omega
theorem listC_each (c:Nat) :listC c=natZ (eachL c):=by
 unfold listC listN eachL natZ;simp only [hasN_bit]
 rfl
end
def Ticked (n:Int) (m:EpM) :Prop:=∀x∈m.ss,n≤x.1.ti
def Still (m:EpM) :Prop:=∀(i:Nat) (x:SR),m.ss[i]? =some x→readyS x.1=false
section
variable {l K:Nat} {k wt:Int} {ps:List Int} {E:Int} {D:Nat→List Nd} {N:Nat→Int} {m m':EpM} {is:List Nat} {i j:Nat} {n:Int} {x:SR} {o:Stp} {e:Int}
theorem sendM_st (l:Nat) (ps:List Int) (m:EpM) (i:Nat) (s:Sen) (r':List Nd) : (sendM l ps m i s r').st=m.st:=by unfold sendM;split <;> rfl
theorem OnStep.st (hs:OnStep l ps m i m') :m'.st=m.st:=by
 cases hs with
 |skip _ _=>rfl
 |send _ _ _=>exact sendM_st _ _ _ _ _ _
theorem OnTo.st (hs:OnTo l ps m is m') :m'.st=m.st:=by
 induction hs with
 |nil=>rfl
 |snoc _ h2 ih=>rw [h2.st,ih]
theorem OnTo.lens (hs:OnTo l ps m is m') :m'.ss.length=m.ss.length:=by
 induction hs with
 |nil=>rfl
 |snoc _ h2 ih=>rw [h2.len,ih]
theorem OnTo.still (hR:rightG ps=true) (hl:m.ss.length=ps.length) (hs:OnTo l ps m (orderG ps) m') :Still m':=fun i x hx=>by
 refine hs.quiet i ?_ x hx;have hi:=(List.getElem?_eq_some_iff.1 hx).1;rw [hs.lens,hl] at hi;exact(order_mem hR).2 hi
theorem EpJ.wait (h:EpJ l K k wt ps E D N m) (hx:x∈m.ss) :x.1.p.wait=wt:=by
 obtain⟨j,hj⟩:=List.getElem?_of_mem hx;have:=(h.s j x hj).p;rw [this]
theorem EpJ.wt1 (h:EpJ l K k wt ps E D N m) :1≤wt:=by
 have h1:=rightG_len h.tree;have h2:=h.len;have hx:m.ss[0]? =some (m.ss[0]'(by omega)):=List.getElem?_eq_getElem _;have h3:=(h.s 0 _ hx).ok.wait.2.1;rw [h.wait (List.mem_of_getElem? hx)] at h3;exact h3
theorem EpJ.root (h:EpJ l K k wt ps E D N m) : ∃x,m.ss[rootG ps]? =some x:=by
 have h1:=rightG_root h.tree;have h2:=(List.getElem?_eq_some_iff.1 h1).1;exact⟨_,List.getElem?_eq_getElem (by rw [h.len];exact h2)⟩
theorem UpIn.lt {c:Nat} (h:UpIn ps c i j) (hj:j<ps.length) :i<ps.length:=by
 cases h with
 |here _=>exact hj
 |up _ e _=>exact(List.getElem?_eq_some_iff.1 e).1
theorem eachL_mem {s j:Nat} :j∈eachL s↔j<48∧s.testBit j=true:=by
 unfold eachL;rw [List.mem_filter,List.mem_range]
theorem eachL_few {s n:Nat} (hn:n≤48) (h: ∀j,s.testBit j=true→j<n) : (eachL s).length≤n:=by
 have e:eachL s= (List.range n).filter fun j=>s.testBit j:=by
  unfold eachL;obtain⟨d,hd⟩ : ∃d,48=n+d:=⟨48 - n,by omega⟩;rw [hd,List.range_add,List.filter_append]
  have: ((List.range d).map (n+ ·)).filter (fun j=>s.testBit j) = []:=by
   rw [List.filter_eq_nil_iff];intro a ha hb;obtain⟨b,_,rfl⟩:=List.mem_map.1 ha;have:=h _ hb;omega
  rw [this,List.append_nil]
 rw [e];refine Nat.le_trans (List.length_filter_le _ _) ?_;simp
theorem EpJ.cover (h:EpJ l K k wt ps E D N m) (hx:m.ss[j]? =some x) : (∀i,x.1.cover.testBit i=true→i<ps.length)∧x.1.cover.testBit j=true:=by
 have hs:=h.s j x hx;have hj:=(List.getElem?_eq_some_iff.1 hx).1;rw [h.len] at hj;exact⟨fun i hi=>(hs.up i hi).lt hj,hs.me.1⟩
theorem lt_pow_bits {c n:Nat} (h: ∀i,c.testBit i=true→i<n) :c<2^n:=by
 apply Nat.lt_pow_two_of_testBit _
 intro i hi
 cases hb:c.testBit i
 ·rfl
 ·have:=h i hb;omega
theorem EpJ.coverLen (h:EpJ l K k wt ps E D N m) (hn:ps.length≤12) (hx:m.ss[j]? =some x) :x.1.cover<4096∧1≤(eachL x.1.cover).length∧(eachL x.1.cover).length≤ps.length:=by
 obtain⟨h1,h2⟩:=h.cover hx;refine⟨Nat.lt_of_lt_of_le (lt_pow_bits h1) (Nat.pow_le_pow_right (by decide) hn),?_,eachL_few (by omega) h1⟩;have:=(h.s j x hx).me.2;exact List.length_pos_of_mem (eachL_mem.2 ⟨this,h2⟩)
end
theorem ep_eitherE (ps:List Int) (l k K wt ep:Int) :noEp ps l k K wt ep∨(rightG ps=true∧∃l' K':Nat,l=l'∧K=K'∧newS l' k K' (plcE ps wt 0) ep=true):=by
 unfold noEp
 cases h1:rightG ps
 ·exact .inl (.inl rfl)
 ·cases h2:newS l k K (plcE ps wt 0) ep
  ·exact .inl (.inr ⟨rfl,rfl⟩)
  ·right
   have h3:=h2;simp only [newS,isDig,isPool,Bool.and_eq_true,decide_eq_true_eq] at h3;obtain⟨l',rfl⟩:=Int.eq_ofNat_of_zero_le (show 0≤l by omega);obtain⟨K',rfl⟩:=Int.eq_ofNat_of_zero_le (show 0≤K by omega);exact⟨rfl,l',K',rfl,rfl,h2⟩
theorem law32_stands (w:World) (g K l:Nat) (k:Int) (r m:List Nd) (F:Nat→Prop) (A:Option Addr) (cap:Nat) (y:Int) (hD:DigAt w g K l k r F) (hH:Held l k r m) (hl:1≤l∧l≤48) (hk:1≤k) (hS:Sl w w.heap.size encN A m) (hn:r.length≤67108864) :
 Calls Tryz.prog 22 #[.pointer (some ⟨g,0,none⟩),bagV l A m.length cap,.int .i64 y] w fun e w'=>e=.returned (.bool true)∧Below w.heap.size w w':=by
 obtain⟨q1,q2,q3⟩:=hH.rank hl hk y;have hv: ∀x∈m,1≤x.2:=fun x hx=>(hH.bag.val x hx).2.2;have hs0:=hH.bag.sum0;have hs1:=hH.bag.sum;have hb:=betwB_le hv 0 y;have hlo:0≤lowOf l r y∧lowOf l r y≤sumR r:=weighR_le hH.fits.roll;rw [hH.sum] at hlo;have hq0:0≤sumR m / k:=Int.ediv_nonneg hs0 (by omega);have hq1:sumR m / k≤sumR m:=Int.ediv_le_self _ hs0;have td: (sumR m).tdiv k=sumR m / k:=Int.tdiv_eq_ediv_of_nonneg hs0;have HR:=LH (fun W h=>ref10_Rank W l A cap m y h hv hs1);have HT:=LH (fun W h=>ref10_Total W l A cap m h hv hs1);have HCf:=LH (fun W h=>digest_Conf W g K l k r F h);have hnn:=fun W h=>digest_N W g K l k r F h;rw [hH.sum] at hnn;have HN:=LH hnn;have HL:=LH (fun W h=>rank_Low W g K l k r F y h hn);have HHi:=LH (fun W h=>rank_High W g K l k r F y h hn);have X0:=LH (heap_alloc_new w (.cells #[.int .i64 l,.slice A m.length cap] 35));have B0:Hid (Below w.heap.size w (w.alloc (.cells #[.int .i64 l,.slice A m.length cap] 35))):=LH bE;have D0:=LH (hD.below B0.out);have S0:=LH (hS.keep (B':=(w.alloc (.cells #[.int .i64 l,.slice A m.length cap] 35)).heap.size) B0.out.size fun p hp=>B0.out.cell hp);unfold bagV at HR HT⊢;generalize m.length=mn at HR HT X0 B0 D0 S0⊢;generalize lowOf l r y=lo at q1 q3 hlo HL;generalize highOf l r y=hi at q2 q3 HHi;generalize betwB m 0 y=n at q1 q2 q3 hb HR;generalize sumR m=t at hs0 hs1 hb hlo HT HN q3 hq0 hq1 td;have hm0: (0:Int)≤l* (t / k):=Int.mul_nonneg (by omega) hq0
 have hm1: (l:Int) * (t / k)≤6917529027641081760:=by
  have h1: (l:Int) * (t / k)≤96* (t / k):=Int.mul_le_mul_of_nonneg_right (by omega) hq0;omega
 have hw:wrap64 ((l:Int) * (t / k)) =l* (t / k):=by unfold wrap64;omega
 have hw2:wrap64 (n - lo) =n - lo:=by unfold wrap64;omega
 have hw3:wrap64 (t / k) =t / k:=by unfold wrap64;omega
 have hk0:decide (k<1) =false:=by simp;omega
 have hkz: (k == 0) =false:=by simp;omega
 have g1:decide (lo≤n) =true:=by simpa using q1
 have g2:decide (n≤hi) =true:=by simpa using q2
 have g3:decide (n - lo≤l* (t / k)) =true:=by simp;omega
 have k00:k≠0:=by omega
 clear hD hS hH hn hv hs0 hs1 hb hlo hq0 hq1 hm0 hm1 q1 q2 q3 hnn hl;obtain⟨pb,hpb⟩ : ∃pb,pb=w.heap.size:=⟨_,rfl⟩
 go_enter Tryz.func22,Tryz.ntmps22
 go_upto_region 1 with fail;rw [←hpb] at X0⊢;clear hpb;generalize w.alloc (.cells #[.int .i64 l,.slice A mn cap] 35) =w0 at X0 B0 D0 S0⊢;have cc:=bC X0.out;have zc:=lB X0.out;go_wp2_with fail;refine(HR.out _ S0.out).mono ?_;rintro e w1 ⟨rfl,hb1⟩;have X1:=LH (bB X0.out hb1);have B1:=LH (Below.then_ B0.out hb1);have D1:=LH (D0.out.below hb1);have S1:=LH (S0.out.keep (B':=w1.heap.size) hb1.size fun p hp=>hb1.cell hp);clear hb1 cc zc X0 B0 D0 S0 HR;go_wp2_with fail;refine(HCf.out _ D1.out).mono ?_;rintro e w2 ⟨rfl,hb2⟩;have al:=(hb2.trans (((Below.refl w2.heap.size w2).alloc (Nat.le_refl _) (.cells #[.int .i64 l,.int .i64 k,.int .i64 K] 24)).mono hb2.size));have Y3:=LH (heap_alloc_new w2 (.cells #[.int .i64 l,.int .i64 k,.int .i64 K] 24));have X3:=LH (bB X1.out al);have B3:=LH (Below.then_ B1.out al);have D3:=LH (D1.out.below al);have S3:=LH (S1.out.keep (B':=(w2.alloc (.cells #[.int .i64 l,.int .i64 k,.int .i64 K] 24)).heap.size) al.size fun p hp=>al.cell hp);clear hb2 al X1 B1 D1 S1 HCf;go_upto_region 3 with fail;obtain⟨py,hpy⟩ : ∃py,py=w2.heap.size:=⟨_,rfl⟩;rw [←hpy] at Y3⊢;generalize w2.alloc (.cells #[.int .i64 l,.int .i64 k,.int .i64 K] 24) =w3 at Y3 X3 B3 D3 S3⊢;clear hpy;have x3:=bC X3.out;have xz3:=lB X3.out;have y3:=bC Y3.out;have yz3:=lB Y3.out;go_wp2_with fail;refine rX (by kernel_rfl) (by kernel_rfl) ?_
 repeat (go_big_quiet_step (first
  | (go_at_call 32;exact quiet_ext (HN.out _ (D3.out.below (ext_below _ _))))
  | (go_at_call 47;exact quiet_ext (HT.out _ (S3.out.keep (ext_below _ _).size fun p hp=>(ext_below _ _).cell hp)))
  | (go_at_call 60;exact quiet_ext (HL.out _ (D3.out.below (ext_below _ _))))
  | (go_at_call 61;exact quiet_ext (HHi.out _ (D3.out.below (ext_below _ _))))))
 refine wpQuiet_nil ?_;intro w7 hb7;have B7:=LH (Below.then_ B3.out (bX hb7));clear hb7;go_wp2_with fail;exact bR (v:=.bool true) (by simp only [results,Tryz.results22];go_simp) rfl ⟨rfl,B7.out⟩
def Up48 (ps:List Int) (i:Nat) (w:World) (e:Ending) (w':World) :Prop:=
 ∃v,e=.returned (.tuple #[v,.bool (upR ps 48 i).isSome])∧Own w' w.heap.size 3 encZ v (natZ ((upR ps 48 i).getD []))∧Below w.heap.size w w'
theorem ref28_Way (w:World) (A:Option Addr) (cap:Nat) (ps:List Int) (i:Nat) (hS:Sl w w.heap.size encZ A ps) (hi:i<ps.length) (hn:ps.length≤maxLen) :Calls Tryz.prog 101 #[.slice A ps.length cap,.int .i64 i] w (Up48 ps i w):=by
 have HS:=LH hS;have HP:Hid (∀W v,Own W w.heap.size 3 encZ v (natZ ((upR ps 48 i).getD []))→Below w.heap.size w W→Up48 ps i w (.returned (.tuple #[v,.bool (upR ps 48 i).isSome])) W):=LH fun W v h1 h2=>⟨v,rfl,h1,h2⟩;obtain⟨R,hR⟩ : ∃R,R=upR ps 48 i:=⟨_,rfl⟩;rw [←hR] at HP;have HR:=LH hR.symm;obtain⟨n,hnn⟩ : ∃n,n=ps.length:=⟨_,rfl⟩;have HN:=LH hnn;clear hS hR;rw [←hnn] at hi hn⊢;clear hnn;generalize Up48 ps i w=PP at HP⊢
 go_enter Tryz.func101,Tryz.ntmps101
 go_wp2_with fail
 go_loopw [1,6] (fun a v wr=>∃(cur:Nat) (L:List Nat) (B:Option Addr) (c:Nat),a=.int .i64 cur∧v=.slice B L.length c∧cur<n∧Own wr w.heap.size 3 encZ v (natZ L)∧L.length≤48∧Below w.heap.size w wr∧Hid ((upR ps (48 - L.length) cur).map (L ++ ·) =R)) (fun _ v _=>49 - lenOf v)
 case atStart=>exact⟨i, [],none,0,rfl,rfl,hi,Own.nil _ _ _ _,Nat.zero_le _,Below.refl _ _,LH (by rw [←HR.out];simp)⟩
 case round=>
  obtain⟨cur,L,B,c,rfl,rfl,hc,hown,hL,hb,hE⟩:=hrel;have KO:=LH hown;have KB:=LH hb;clear hown hb;have hsz:=KB.out.size;by_cases hfull:L.length=48
  ·have hd:decide ((L.length:Int) <48) =false:=by simp [hfull]
   have hR0:R=none:=by rw [←hE.out,hfull,Nat.sub_self];rfl
   clear hfull;subst hR0;go_wp2_with fail;exact HP.out _ (.slice none 0 0) (Own.nil _ _ _ _) KB.out
  ·have hd:decide ((L.length:Int) <48) =true:=by simp;omega
   obtain⟨b,off,rfl,hbb,hcl⟩:=HS.out.at_ (k:=cur) (by have:=HN.out;omega);have d0:=hcl 0 (.int .i64 ps[cur]) rfl;simp only [Nat.add_zero,Nat.mul_one] at d0;obtain⟨p,hp⟩ : ∃p,p=ps[cur]'(by have:=HN.out;omega):=⟨_,rfl⟩;rw [←hp] at d0
   have HE:Hid (R=if p= -1 then some (L ++ [cur]) else if p<0∨(n:Int)≤p then none else (upR ps (48 - (L.length+1)) p.toNat).map ((L ++ [cur]) ++ ·)):=LH (by
    have hm:48 - L.length= (48 - (L.length+1)) +1:=by omega
    have hcp:cur<ps.length:=by have:=HN.out;omega
    rw [←hE.out,hm,up_step hcp,←hp,←HN.out];by_cases h1:p= -1
    ·rw [if_pos h1,if_pos h1];rfl
    ·rw [if_neg h1,if_neg h1]
     by_cases h2:p<0∨(n:Int)≤p
     ·rw [if_pos h2,if_pos h2];rfl
     ·rw [if_neg h2,if_neg h2,Option.map_map]
      congr 1
      funext t
      simp)
   have dw:=fun W (h:Below w.heap.size w W)=>(h.cell (p:=⟨b,off+cur,none⟩) hbb).trans d0;have DW:=LH dw;clear hE hcl d0 dw hp;go_wp2_with ((at_builtin;refine wpList_push tyZ rfl _ _ rfl encZ wr w.heap.size _ (natZ L) rfl KO.out (cur:Int) (by go_simp) rfl ?c1 ?c2 ?c3 ?c4))
   case c1=>simp [natZ];omega
   case c2=>simp [natZ,maxLen];omega
   case c3=>exact hsz
   case c4=>
    intro v' w' ho' hg' hs' _ hb' _;obtain⟨A',cap',rfl,_⟩:=ho'.form;have hlen: (natZ L ++ [(cur:Int)]).length= (L ++ [cur]).length:=by simp [natZ]
    have eL:natZ L ++ [(cur:Int)] =natZ (L ++ [cur]):=by simp [natZ]
    rw [hlen,eL] at ho';rw [hlen];have KO2:=LH ho';have KB2:=LH (KB.out.trans hb');have d0:=DW.out _ KB2.out;have zb:b<w'.heap.size:=by have:=KB2.out.size;omega
    have hlen2:Hid ((L ++ [cur]).length=L.length+1):=LH (by simp);clear hlen eL ho' hg' hb' KO KB DW;by_cases h1:p= -1
    ·rw [if_pos h1] at HE
     have hR:=HE.out;subst h1;subst hR;go_wp2_with fail;have X:=HP.out _ (.slice A' (L ++ [cur]).length cap') KO2.out KB2.out;rw [hlen2.out] at X;exact X
    ·rw [if_neg h1] at HE
     have h1d: (p == -1) =false:=by simpa using h1
     by_cases h2:p<0
     ·rw [if_pos (.inl h2)] at HE
      have hR:=HE.out;subst hR;have h2d:decide (p<0) =true:=by simpa using h2
      go_wp2_with fail;exact HP.out _ (.slice none 0 0) (Own.nil _ _ _ _) KB2.out
     ·have h2d:decide (p<0) =false:=by simpa using h2
      by_cases h3: (n:Int)≤p
      ·rw [if_pos (.inr h3)] at HE
       have hR:=HE.out;subst hR;go_wp2_with fail;exact HP.out _ (.slice none 0 0) (Own.nil _ _ _ _) KB2.out
      ·rw [if_neg (by omega)] at HE
       obtain⟨q,rfl⟩:=Int.eq_ofNat_of_zero_le (show 0≤p by omega);have h3d:decide ((n:Int)≤(q:Int)) =false:=by simpa using h3
       go_wp2_with fail;go_roundw
       case rel=>exact⟨q,L ++ [cur],A',cap',rfl,rfl,by omega,KO2.out,by rw [hlen2.out];omega,KB2.out,LH (by rw [hlen2.out];exact HE.out.symm)⟩
       case measure=>
        have:=hlen2.out;simp only [lenOf];omega
theorem ref28_Root (w:World) (A:Option Addr) (cap:Nat) (ps:List Int) (hS:Sl w w.heap.size encZ A ps) (hn:ps.length≤maxLen) (hR:rightG ps=true) :Calls Tryz.prog 90 #[.slice A ps.length cap] w fun e w'=>e=.returned (.int .i64 (rootG ps))∧Below w.heap.size w w':=by
 have HS:=LH hS;have hr:=rightG_root hR;have hlt:=(List.getElem?_eq_some_iff.1 hr).1;have hc:ps.count (-1) =1:=by simp only [rightG,Bool.and_eq_true,decide_eq_true_eq] at hR;exact hR.2
 have HX:Hid (∀(q:Nat) (hq:q<ps.length),(ps[q] == -1) =decide (q=rootG ps)):=LH fun q hq=>by
  by_cases h1:q=rootG ps
  ·have h2:ps[q] = -1:=by
    have h3:=hr;rw [←h1,List.getElem?_eq_getElem hq] at h3;exact Option.some.inj h3
   rw [h2];simp [h1]
  ·have:ps[q]≠ -1:=fun e=>h1 (count_one hc (i:=rootG ps) (j:=q) hr (by rw [List.getElem?_eq_getElem hq,e])).symm
   simp [h1,this]
 generalize rootG ps=R at HX hlt⊢;obtain⟨n,hnn⟩ : ∃n,n=ps.length:=⟨_,rfl⟩;have HN:=LH hnn;clear hS hr hc hR;rw [←hnn] at hn hlt⊢;clear hnn;unfold maxLen at hn
 go_enter Tryz.func90,Tryz.ntmps90
 go_wp2_with fail
 go_loopw [3] (fun i wr=>∃q:Nat,i=.int .i64 q∧q≤R∧Below w.heap.size w wr) (fun i _=>n - (intOf i).toNat)
 case atStart=>exact⟨0,rfl,Nat.zero_le _,Below.refl _ _⟩
 case round=>
  obtain⟨q,rfl,hq,hb⟩:=hrel;have HB:=LH hb;have hqn:q<ps.length:=by have:=HN.out;omega
  obtain⟨b,off,rfl,hbb,hcl⟩:=HS.out.at_ (k:=q) hqn;have d0:=hcl 0 (.int .i64 ps[q]) rfl;simp only [Nat.add_zero,Nat.mul_one] at d0;replace d0:=(hb.cell (p:=⟨b,off+q,none⟩) hbb).trans d0;have zb:b<wr.heap.size:=Nat.lt_of_lt_of_le hbb hb.size;clear hb;have hx:=HX.out q hqn;generalize ps[q] =p at d0 hx;clear hcl;by_cases h1:q=R
  ·subst h1
   have hx: (p == -1) =true:=by rw [hx];simp
   go_wp2_with fail;exact bR (v:=.int .i64 q) (by simp only [results,Tryz.results90];go_simp) rfl ⟨rfl,HB.out⟩
  ·have hx: (p == -1) =false:=by rw [hx];simp [h1]
   go_wp2_with fail;go_roundw
   case rel=>exact⟨q+1,by go_num,by omega,HB.out⟩
   case measure=>simp [intOf];omega
theorem pour_take {ma mb:List Nd} {q:Nat} (h:q<mb.length) :pourL ma (mb.take (q+1)) =addR (pourL ma (mb.take q)) mb[q].1 mb[q].2:=by
 rw [List.take_succ_eq_append_getElem h,pourL_snoc]
theorem pourL_len (ma:List Nd) : ∀(mb:List Nd),(pourL ma mb).length≤ma.length+mb.length:=by
 intro mb
 induction mb generalizing ma with
 |nil=>simp [pourL]
 |cons x mb ih=>
  have h1:=ih (addR ma x.1 x.2);have h2:=addR_len ma x.1 x.2;simp only [pourL,List.foldl_cons,List.length_cons] at h1⊢;omega
theorem pour_part {l:Nat} {ma mb:List Nd} (ha:BagL l ma) (hb:BagL l mb) (hs:sumR ma+sumR mb≤72057594037927935) {q:Nat} (h:q<mb.length) :
 BagL l (pourL ma (mb.take q))∧sumR (pourL ma (mb.take q)) +mb[q].2≤72057594037927935∧1≤mb[q].2:=by
 have h1:=sumR_take_succ h
 have hr: ∀k,sumR (mb.take k)≤sumR mb:=fun k=>by
  have e:sumR (mb.take k ++ mb.drop k) =sumR mb:=by rw [List.take_append_drop]
  have:=(sumR_pos fun y hy=>(hb.val y (List.mem_of_mem_drop (i:=k) hy)).2.2).1;rw [sumR_append] at e;omega
 have h2:=hr (q+1);have h3:=(hb.val _ (List.getElem_mem h)).2.2;obtain⟨i1,i2,_⟩:=pour_leaves (mb:=mb.take q) ha (fun x hx=>hb.val x (List.mem_of_mem_take hx)) (by have:=hr q;omega);exact⟨i1,by omega,h3⟩
structure PourS (w:World) (l:Nat) (A:Option Addr) (ca:Nat) (ma:List Nd) (B:Option Addr) (cb:Nat) (mb:List Nd) (W:World) :Prop where
 x:W.heap[w.heap.size]? =some (.cells #[.int .i64 l,.slice A ma.length ca] 35 (0,0))
 y:W.heap[w.heap.size+1]? =some (.cells #[.int .i64 l,.slice B mb.length cb] 35 (0,0))
 z:W.heap[w.heap.size+2]? =some (.cells #[.int .i64 0,.slice none 0 0] 35 (0,0))
 s:SlT W 165 encN A ma
 t:SlT W 165 encN B mb
 blw:Below w.heap.size w W
theorem PourS.below {w:World} {l:Nat} {A:Option Addr} {ca:Nat} {ma:List Nd} {B:Option Addr} {cb:Nat} {mb:List Nd} {W W':World} (h:PourS w l A ca ma B cb mb W) (hb:Below W.heap.size W W') :PourS w l A ca ma B cb mb W':=
 ⟨bB h.x hb,bB h.y hb,bB h.z hb,h.s.below hb,h.t.below hb,h.blw.trans (hb.mono h.blw.size)⟩
theorem slT_cell {w:World} {e:TypeId} {b off q:Nat} {mb:List Nd} {x:Nd} (h:SlT w e encN (some ⟨b,off,none⟩) mb) (hx:mb[q]? =some x) :
 w.cell? ⟨b,off+q*2,none⟩ =some (.int .i64 x.1)∧w.cell? ⟨b,off+q*2+1,none⟩ =some (.int .i64 x.2):=by
 obtain⟨hq,rfl⟩:=List.getElem?_eq_some_iff.1 hx;exact⟨by have:=h.cell_at hq 0 (.int .i64 mb[q].1) rfl;simpa using this,h.cell_at hq 1 (.int .i64 mb[q].2) rfl⟩
structure PourB (w:World) (l:Nat) (A:Option Addr) (ca:Nat) (ma:List Nd) (B:Option Addr) (cb:Nat) (mb:List Nd) (p6:Nat) (A':Option Addr) (c':Nat) (m:List Nd) (W:World) :Prop where
 a:PourS w l A ca ma B cb mb W
 p:W.heap[p6]? =some (.cells #[.int .i64 l,.slice A' m.length c'] 35 (0,0))
 u:SlT W 165 encN A' m
 lt:w.heap.size+2<p6
section
variable {w:World} {l:Nat} {A:Option Addr} {ca:Nat} {ma:List Nd} {B:Option Addr} {cb:Nat} {mb:List Nd} {p6:Nat} {A':Option Addr} {c':Nat} {m m2:List Nd} {A2:Option Addr} {c2:Nat} {W W':World}
theorem PourB.below (h:PourB w l A ca ma B cb mb p6 A' c' m W) (hb:Below W.heap.size W W') :PourB w l A ca ma B cb mb p6 A' c' m W':=⟨h.a.below hb,bB h.p hb,h.u.below hb,h.lt⟩
theorem PourB.set (h:PourB w l A ca ma B cb mb p6 A' c' m W) (hu:SlT W 165 encN A2 m2) :PourB w l A ca ma B cb mb p6 A2 c2 m2 ((W.setCell ⟨p6,0,none⟩ (.int .i64 l)).setCell ⟨p6,1,none⟩ (.slice A2 m2.length c2)):=by
 have hlt:=h.lt;have ne: ∀b,b≠p6→((W.setCell ⟨p6,0,none⟩ (.int .i64 l)).setCell ⟨p6,1,none⟩ (.slice A2 m2.length c2)).heap[b]? =W.heap[b]? :=fun b hb=>(Below.heap_setCell _ _ _ _ hb).trans (Below.heap_setCell _ _ _ _ hb);have tp:TypeAt W p6 35:=.of h.p;have tp2:TypeAt (W.setCell ⟨p6,0,none⟩ (.int .i64 l)) p6 35:=.of (set_nil h.p);have st: ∀{X:Option Addr} {x:List Nd},SlT W 165 encN X x→SlT ((W.setCell ⟨p6,0,none⟩ (.int .i64 l)).setCell ⟨p6,1,none⟩ (.slice A2 m2.length c2)) 165 encN X x:=fun hx=>(hx.setCellT (p:=⟨p6,0,none⟩) tp (by decide)).setCellT (p:=⟨p6,1,none⟩) tp2 (by decide);exact⟨⟨(ne _ (by omega)).trans h.a.x,(ne _ (by omega)).trans h.a.y,(ne _ (by omega)).trans h.a.z,st h.a.s,st h.a.t,(h.a.blw.setCell (p:=⟨p6,0,none⟩) (by show w.heap.size≤p6;omega) _).setCell (p:=⟨p6,1,none⟩) (by show w.heap.size≤p6;omega) _⟩,set_one (set_nil h.p),st hu,hlt⟩
end
theorem ref10_Pour (w:World) (l:Nat) (A:Option Addr) (ca:Nat) (ma:List Nd) (B:Option Addr) (cb:Nat) (mb:List Nd) (hSa:SlT w 165 encN A ma) (hSb:SlT w 165 encN B mb) (ha:BagL l ma) (hb:BagL l mb) (hs:sumR ma+sumR mb≤72057594037927935) (hla:ma.length≤30000) (hlb:mb.length≤30000) :
 Calls Tryz.prog 102 #[bagV l A ma.length ca,bagV l B mb.length cb] w fun e w'=>∃A' cap',e=.returned (.tuple #[bagV l A' (pourL ma mb).length cap',.int .i64 0])∧SlT w' 165 encN A' (pourL ma mb)∧Below w.heap.size w w':=by
 have a0:=ha.sum0;have b0:=hb.sum0;have HTa:=LH (fun W h=>ref10_Total W l A ca ma h (fun x hx=>(ha.val x hx).2.2) ha.sum);have HTb:=LH (fun W h=>ref10_Total W l B cb mb h (fun x hx=>(hb.val x hx).2.2) hb.sum);have hgt:decide (72057594037927935 - sumR ma<sumR mb) =false:=by simp;omega
 have S0:Hid (PourS w l A ca ma B cb mb (((w.alloc (.cells #[.int .i64 l,.slice A ma.length ca] 35)).alloc (.cells #[.int .i64 l,.slice B mb.length cb] 35)).alloc (.cells #[.int .i64 0,.slice none 0 0] 35))):=LH
  ⟨((heap_new_lt _ _ _ (by simp;omega)).trans (heap_new_lt _ _ _ (by simp))).trans (heap_alloc_new w _),(heap_new_lt _ _ _ (by simp)).trans (heap_new_at (w.alloc _) _ _ (by simp)),heap_new_at ((w.alloc _).alloc _) _ _ (by simp),((hSa.alloc _).alloc _).alloc _,((hSb.alloc _).alloc _).alloc _,bE⟩
 unfold bagV at HTa HTb⊢;clear hSa hSb
 go_enter Tryz.func102,Tryz.ntmps102
 go_upto_region 1 with fail;generalize ((w.alloc (.cells #[.int .i64 l,.slice A ma.length ca] 35)).alloc (.cells #[.int .i64 l,.slice B mb.length cb] 35)).alloc (.cells #[.int .i64 0,.slice none 0 0] 35) =W0 at S0⊢;have x0:=bC S0.out.x;have xz:=lB S0.out.x;have y0:=bC S0.out.y;have yz:=lB S0.out.y;go_upto_region 3 with fail;refine rX (by kernel_rfl) (by kernel_rfl) ?_
 repeat (go_big_quiet_step (first| (go_at_call_of 47 (Value.slice B mb.length cb);exact quiet_ext (HTb.out _ ((S0.out.t.below (ext_below _ _)).sl))) | (go_at_call 47;exact quiet_ext (HTa.out _ ((S0.out.s.below (ext_below _ _)).sl)))))
 refine wpQuiet_nil ?_;intro w2 hb2;have S2:=LH (S0.out.below (bX hb2));clear hb2 x0 xz y0 yz S0 HTa HTb;have x0:=bC S2.out.x;have xz:=lB S2.out.x;go_upto_region 6 with fail;have al:=(Below.refl w2.heap.size w2).alloc (Nat.le_refl _) (.cells #[.int .i64 l,.slice A ma.length ca] 35);have R3:Hid (PourB w l A ca ma B cb mb w2.heap.size A ca ma (w2.alloc (.cells #[.int .i64 l,.slice A ma.length ca] 35))):=LH ⟨S2.out.below al,heap_alloc_new w2 _,S2.out.s.below al,lB S2.out.z⟩;obtain⟨p6,hp6⟩ : ∃q,q=w2.heap.size:=⟨_,rfl⟩;rw [←hp6] at R3⊢;generalize w2.alloc (.cells #[.int .i64 l,.slice A ma.length ca] 35) =w3 at R3⊢;clear hp6 al x0 xz S2;have HPt:=LH (fun q (hq:q<mb.length)=>pour_part ha hb hs hq);have HLn:=LH (fun q=>pourL_len ma (mb.take q));clear ha hb hs a0 b0 hgt;go_wp2_with fail
 go_loopw [7] (fun i wr=>∃(q:Nat) (A':Option Addr) (c':Nat),q≤mb.length∧i=.int .i64 q∧PourB w l A ca ma B cb mb p6 A' c' (pourL ma (mb.take q)) wr) (fun i _=>mb.length - (intOf i).toNat)
 case atStart=>exact⟨0,A,ca,Nat.zero_le _,rfl,R3.out⟩
 case round=>
  obtain⟨q,A',c',hq,rfl,hR⟩:=hrel;have R:=LH hR;clear hR;have y0:=bC R.out.a.y;have yz:=lB R.out.a.y;by_cases hlt:q<mb.length
  ·have i1: (q:Int) < (mb.length:Int):=by omega
   have hpt:=HPt.out q hlt;have hln:=HLn.out q;have hln2: (mb.take q).length≤q:=by rw [List.length_take];omega
   have HT:=LH (pour_take (ma:=ma) hlt);obtain⟨b,off,rfl,hTb,_⟩:=R.out.a.t.at_ hlt;have HXq:Hid (mb[q]? =some mb[q]):=LH (List.getElem?_eq_getElem hlt);generalize mb[q] =x at hpt HT HXq;obtain⟨M,hM⟩ : ∃M,M=pourL ma (mb.take q):=⟨_,rfl⟩;rw [←hM] at R hpt hln HT;have HPu:=LH (fun W h=>ref10_put W l A' c' M x.1 x.2 h hpt.1.up (fun z hz=>(hpt.1.val z hz).2.2) hpt.2.2 hpt.2.1 (by omega));unfold bagV at HPu;clear hM hpt hTb;go_upto_region 9 with fail;refine wp_region_noPanic ?_;refine wp_region_N (fun W'=>PourB w l A ca ma (some ⟨b,off,none⟩) cb mb p6 A' c' M W') [14] (by kernel_rfl) (R.out.below (Below.drew (Below.refl _ _))) (fun hHeld=> ?_);have R5:=LH hHeld;refine nT 0 (Value.agg #[.int .i64 l,.slice A' M.length c']) (y:=Or.inl ⟨by rfl,fun W hW=>by have q1:=bC hW.a.y;have q2:=lB hW.a.y;have q3:=bC hW.p;have q4:=lB hW.p;obtain⟨q5,q6⟩:=slT_cell hW.a.t HXq.out;go_simp⟩) (s:=R5.out) (h:= ?_)
   (try simp only [zA,zB,zC,Act.put,zD,zE,zF])
   refine nP 1 (Value.pointer (some ⟨w.heap.size+1,1,none⟩)) (h:= ?_)
   (try simp only [zA,zB,zC,Act.put,zD,zE,zF])
   refine nT 2 (Value.slice (some ⟨b,off,none⟩) mb.length cb) (y:=Or.inl ⟨by rfl,fun W hW=>by have q1:=bC hW.a.y;have q2:=lB hW.a.y;have q3:=bC hW.p;have q4:=lB hW.p;obtain⟨q5,q6⟩:=slT_cell hW.a.t HXq.out;go_simp⟩) (s:=R5.out) (h:= ?_)
   (try simp only [zA,zB,zC,Act.put,zD,zE,zF])
   refine nP 3 (Value.int .i64 q) (h:= ?_)
   (try simp only [zA,zB,zC,Act.put,zD,zE,zF])
   refine nP 4 (Value.pointer (some ⟨b,off+q*2,none⟩)) (h:= ?_)
   (try simp only [zA,zB,zC,Act.put,zD,zE,zF])
   refine nP 5 (Value.pointer (some ⟨b,off+q*2,none⟩)) (h:= ?_)
   (try simp only [zA,zB,zC,Act.put,zD,zE,zF])
   refine nT 6 (Value.int .i64 x.1) (y:=Or.inl ⟨by rfl,fun W hW=>by have q1:=bC hW.a.y;have q2:=lB hW.a.y;have q3:=bC hW.p;have q4:=lB hW.p;obtain⟨q5,q6⟩:=slT_cell hW.a.t HXq.out;go_simp⟩) (s:=R5.out) (h:= ?_)
   (try simp only [zA,zB,zC,Act.put,zD,zE,zF])
   refine nP 7 (Value.pointer (some ⟨w.heap.size+1,1,none⟩)) (h:= ?_)
   (try simp only [zA,zB,zC,Act.put,zD,zE,zF])
   refine nT 8 (Value.slice (some ⟨b,off,none⟩) mb.length cb) (y:=Or.inl ⟨by rfl,fun W hW=>by have q1:=bC hW.a.y;have q2:=lB hW.a.y;have q3:=bC hW.p;have q4:=lB hW.p;obtain⟨q5,q6⟩:=slT_cell hW.a.t HXq.out;go_simp⟩) (s:=R5.out) (h:= ?_)
   (try simp only [zA,zB,zC,Act.put,zD,zE,zF])
   refine nP 9 (Value.int .i64 q) (h:= ?_)
   (try simp only [zA,zB,zC,Act.put,zD,zE,zF])
   refine nP 10 (Value.pointer (some ⟨b,off+q*2,none⟩)) (h:= ?_)
   (try simp only [zA,zB,zC,Act.put,zD,zE,zF])
   refine nP 11 (Value.pointer (some ⟨b,off+q*2+1,none⟩)) (h:= ?_)
   (try simp only [zA,zB,zC,Act.put,zD,zE,zF])
   refine nT 12 (Value.int .i64 x.2) (y:=Or.inl ⟨by rfl,fun W hW=>by have q1:=bC hW.a.y;have q2:=lB hW.a.y;have q3:=bC hW.p;have q4:=lB hW.p;obtain⟨q5,q6⟩:=slT_cell hW.a.t HXq.out;go_simp⟩) (s:=R5.out) (h:= ?_)
   (try simp only [zA,zB,zC,Act.put,zD,zE,zF])
   refine nO (i:=13) (by kernel_rfl) rfl (fun K hK=> ?_);go_simp;refine(HPu.out wr.drew R5.out.u.sl).mono ?_;rintro e w5 ⟨A2,c2,rfl,hu,hb5⟩;have R6:=LH (R5.out.below hb5);have U6:=LH hu;clear hb5 hu;refine hK.out _ _ (fun _ _=>R6.out) ?_;clear hK K
   (try simp only [zA,zB,zC,Act.put,zD,zE,zF])
   have pf:=bF R6.out.p;have pc:=bC R6.out.p;have pz:=lB R6.out.p;refine nO (i:=14) (by kernel_rfl) rfl (fun K hK=> ?_);go_simp;refine hK.out _ _ (fun h _=>absurd (List.mem_singleton.2 rfl) h) ?_;clear hK K pf pc pz
   (try simp only [zA,zB,zC,Act.put,zD,zE,zF])
   refine nD (by kernel_rfl) ?_ _;refine NoPanic.normal ?_;have R7:=LH (R6.out.set (c2:=c2) U6.out);clear R5 R6 U6 R y0 yz HPu;go_wp2_with fail;go_roundw
   case rel=>exact⟨q+1,A2,c2,by omega,by go_num,by rw [HT.out];exact R7.out⟩
   case measure=>simp [intOf];omega
  ·have hqe:q=mb.length:=by omega
   have hqi:decide ((q:Int) < (mb.length:Int)) =false:=by simp;omega
   have R2:Hid (PourB w l A ca ma B cb mb p6 A' c' (pourL ma mb) wr):=LH (by have:=R.out;rwa [hqe,List.take_length] at this);clear hqe R y0 yz;have y0:=bC R2.out.a.y;have yz:=lB R2.out.a.y;have p0:=bC R2.out.p;have pz:=lB R2.out.p;have z0:=bC R2.out.a.z;have zz:=lB R2.out.a.z;have zf:=bF R2.out.a.z;go_wp2_with fail;refine bR (v:=.tuple #[.agg #[.int .i64 l,.slice A' (pourL ma mb).length c'],.int .i64 0]) (by simp only [results,Tryz.results102];go_simp) rfl ⟨A',c',rfl,?_,?_⟩
   ·exact(R2.out.u.setCellT (p:=⟨w.heap.size+2,0,none⟩) (.of R2.out.a.z) (by decide)).setCellT (p:=⟨w.heap.size+2,1,none⟩) (.of (set_nil R2.out.a.z)) (by decide)
   ·exact(R2.out.a.blw.setCell (p:=⟨w.heap.size+2,0,none⟩) (by show w.heap.size≤w.heap.size+2;omega) _).setCell (p:=⟨w.heap.size+2,1,none⟩) (by show w.heap.size≤w.heap.size+2;omega) _
structure ExB (W:World) (K l:Nat) (k:Int) (pB pK pb g':Nat) (cB cK:Array Value) (vl:Value) (xs:List Nat) (r:List Nd) (F':Nat→Prop) (acc:List Nd) (Aq:Option Addr) (cq:Nat) (Wr:World) :Prop where
 b:Below W.heap.size W Wr
 xB:Wr.heap[pB]? =some (.cells cB 26 (0,0))
 xK:Wr.heap[pK]? =some (.cells cK 82 (0,0))
 xb:Wr.heap[pb]? =some (.cells #[.int .i64 l,.slice Aq acc.length cq] 35 (0,0))
 gb:W.heap.size≤pb
 o:Own Wr W.heap.size 3 encZ vl (natZ xs)
 d:DigAt Wr g' K l k r F'
 s:SlT Wr 165 encN Aq acc
section
variable {W:World} {K l:Nat} {k:Int} {pB pK pb g':Nat} {cB cK:Array Value} {vl:Value} {xs:List Nat} {r:List Nd} {F':Nat→Prop} {acc acc':List Nd} {Aq A2:Option Addr} {cq c2:Nat} {Wr W':World}
theorem ExB.below (h:ExB W K l k pB pK pb g' cB cK vl xs r F' acc Aq cq Wr) (hb:Below Wr.heap.size Wr W') :ExB W K l k pB pK pb g' cB cK vl xs r F' acc Aq cq W':=
 ⟨Below.then_ h.b hb,bB h.xB hb,bB h.xK hb,bB h.xb hb,h.gb,h.o.below hb,h.d.below hb,h.s.below hb⟩
theorem ExB.set (h:ExB W K l k pB pK pb g' cB cK vl xs r F' acc Aq cq Wr) (hs:SlT Wr 165 encN A2 acc') :ExB W K l k pB pK pb g' cB cK vl xs r F' acc' A2 c2 ((Wr.setCell ⟨pb,0,none⟩ (.int .i64 l)).setCell ⟨pb,1,none⟩ (.slice A2 acc'.length c2)):=by
 have e: ∀q,q≠pb→((Wr.setCell ⟨pb,0,none⟩ (.int .i64 l)).setCell ⟨pb,1,none⟩ (.slice A2 acc'.length c2)).heap[q]? =Wr.heap[q]? :=fun q hq=>(Below.heap_setCell _ _ _ _ hq).trans (Below.heap_setCell _ _ _ _ hq)
 have n1:pB≠pb:=by
  rintro rfl;have:=h.xB;rw [h.xb] at this;simp only [Option.some.injEq,Obj.cells.injEq] at this;exact absurd this.2.1 (by decide)
 have n2:pK≠pb:=by
  rintro rfl;have:=h.xK;rw [h.xb] at this;simp only [Option.some.injEq,Obj.cells.injEq] at this;exact absurd this.2.1 (by decide)
 have hd: ∀b,F' b→b≠pb:=fun b hb he=>h.d.not_type (b:=b) (t:=35) (by rw [he];exact .of h.xb) (by decide) hb
 exact⟨(h.b.setCell (p:=⟨pb,0,none⟩) h.gb _).setCell (p:=⟨pb,1,none⟩) h.gb _,(e _ n1).trans h.xB,(e _ n2).trans h.xK,zH (i:=1) (zH (i:=0) h.xb _) _,h.gb,
  h.o.of_block fun b hb=>e b (fun he=>h.o.ne_block h.xb (by decide) (by rw [hb,he])),h.d.keep fun b hb=>e b (hd b hb),
  (hs.setCellT (t:=35) (.of h.xb) (by decide)).setCellT (t:=35) ((TypeAt.of h.xb).setCell) (by decide)⟩
end
theorem crew_Has12 (c:Nat) (h:c<4096) (i:Int) (W:World) :Calls Tryz.prog 99 #[.int .u64 c,.int .i64 i] W fun e w'=>e=.returned (.bool (hasC c i))∧Below W.heap.size W w':=crew_Has c i (by omega) W
theorem ref27_List12 (c:Nat) (h:c<4096) (W:World) :Calls Tryz.prog 100 #[.int .u64 c] W fun e w'=>∃v,e=.returned v∧Own w' W.heap.size 3 encZ v (natZ (eachL c))∧Below W.heap.size W w':=by
 rw [←listC_each];exact ref27_List W c (by omega)
theorem wrap_succ {t n cv:Nat} (h:t<n) (h1:n≤cv) (h2:cv≤maxLen) :wrap64 ((t:Int) +1) = ((t+1:Nat) :Int):=by
 have h3:t<9223372036854775807:=Nat.lt_of_lt_of_le h (Nat.le_trans (Nat.le_trans h1 h2) (by decide));unfold wrap64;omega
theorem law32_exact (w W:World) (L:EpL) (K:Nat) (k wt:Int) (q0:Nat) (E:Int) (D:Nat→List Nd) (N:Nat→Int) (m:EpM) (hE:EpW w L K k wt q0 E D N m W) (hen:m.en=true) (A:Option Addr) (cap n:Nat) (hn:L.ps.length=n) (hn12:n≤12) (hS:Sl W W.heap.size encZ A L.ps)
 (An:Option Addr) (cn:Nat) (Ln:List BkI) (hO:SlT W 35 (encBk L.l) An Ln) (hLn:Ln.length=n) (hI: ∀(i:Nat) x,Ln[i]? =some x→x.m=D i∧SlT W 165 encN x.A x.m) (hD: ∀j,(D j).length≤120)
 (As:Option Addr) (ns cs:Nat) (Ad:Option Addr) (nd cd:Nat) (k' K' wt' ep' y:Int) :
 Calls Tryz.prog 41 #[.pointer (some ⟨L.g,0,none⟩),.agg #[.slice A n cap,.int .i64 L.l,.int .i64 k',.int .i64 K',.int .i64 wt',.int .i64 ep'],.agg #[.slice An n cn,.slice As ns cs,.slice Ad nd cd],.int .i64 y] W fun e W'=>e=.returned (.bool true)∧Below W.heap.size W W':=by
 have hR:=hE.j.tree;obtain⟨x,hx⟩:=hE.j.root;have hj:=hE.j.s _ _ hx;obtain⟨hc1,hc2⟩:=hE.j.cover hx;have hsr:=hE.j.sr hx;have hr48:rootG L.ps<48:=hj.me.2;have HD:=hE.j.D_;obtain⟨ha1,ha2⟩:=hj.cov.acc HD;have hl:=hE.j.l1;have hk:=hE.j.k1;have hc4096:x.1.cover<4096:=(hE.j.coverLen (by omega) hx).1;have hrlen:=hsr.len;have hkk:=hj.k_
 have hway: ∀i:Nat,x.1.cover.testBit i=true→∃wy,upR L.ps 48 i=some wy∧∀y∈wy,x.1.cover.testBit y=true:=fun i hi=>by
  obtain⟨wy,h1,h2⟩:=rightG_ways hR i (hc1 i hi);refine⟨wy,way_upR h1 (by have:=(rightG_len hR).2;omega),(hj.up i hi).way (rightG_root hR) h1⟩
 have hps:L.ps.length≤maxLen:=by rw [hn];unfold maxLen;omega
 have HRs:=LH (fun W1 hb=>(hE.s.below (W':=W1) hb).result hR hen hx);have HRo:=LH (fun W1 (hb:Below W.heap.size W W1)=>ref28_Root W1 A cap L.ps (hS.keep hb.size fun p hp=>hb.cell hp) hps hR);have HWa:=LH (fun W1 (hb:Below W.heap.size W W1) (i:Nat) (hi:i<L.ps.length)=>ref28_Way W1 A cap L.ps i (hS.keep hb.size fun p hp=>hb.cell hp) hi hps);have HWy:=LH hway;have HO:=LH hO;have HI:=LH hI;have HDl:=LH hD;have HB:=LH HD;have HAc:=LH ha2;have HA1:=LH ha1;have HC1:=LH hc1;have HLn:=LH hLn;have HHas:=LH (fun W1 (i:Int)=>crew_Has12 x.1.cover hc4096 i W1);have hroot:hasC x.1.cover (rootG L.ps:Int) =true:=by rw [bit_has hr48];exact hc2
 have HCb:Hid (∀i:Nat,i<48→hasC x.1.cover (i:Int) =x.1.cover.testBit i):=LH fun i hi=>bit_has hi;have HLi:=LH (fun W1=>ref27_List12 x.1.cover hc4096 W1);unfold ResPost at HRs;rw [hkk] at HRs;have hrt:rootG L.ps<n:=by rw [←hn];exact(List.getElem?_eq_some_iff.1 (rightG_root hR)).1
 rw [hn] at HRo HWa HC1;generalize x.1.cover=c at*;generalize x.2=r at*;generalize rootG L.ps=R at*;have HSt:=LH (fun W1 g' F' Aq cq (hd:DigAt W1 g' L.K L.l k r F') (hs:Sl W1 W1.heap.size encN Aq (accO D (eachL c)))=>law32_stands W1 g' L.K L.l k r (accO D (eachL c)) F' Aq cq y hd ha2 hl hk.1 hs (by omega));have hxl: (eachL c).length≤48:=by unfold eachL;exact Nat.le_trans (List.length_filter_le _ _) (by simp)
 clear hE hen hS hO hI hD hR hx hj hc1 hc2 hsr HD ha1 ha2 hl hk hway hps hrlen hkk hLn hn;have BX:Below W.heap.size W ((W.alloc (.cells #[.slice A n cap,.int .i64 L.l,.int .i64 k',.int .i64 K',.int .i64 wt',.int .i64 ep'] 26)).alloc (.cells #[.slice An n cn,.slice As ns cs,.slice Ad nd cd] 82)):=((Below.refl _ _).alloc (Nat.le_refl _) _).alloc (by simp) _;have B0:=LH BX;have X0:Hid (((W.alloc (.cells #[.slice A n cap,.int .i64 L.l,.int .i64 k',.int .i64 K',.int .i64 wt',.int .i64 ep'] 26)).alloc (.cells #[.slice An n cn,.slice As ns cs,.slice Ad nd cd] 82)).heap[W.heap.size]? =some (.cells #[.slice A n cap,.int .i64 L.l,.int .i64 k',.int .i64 K',.int .i64 wt',.int .i64 ep'] 26 (0,0))):=LH ((heap_new_lt _ _ _ (by simp)).trans (heap_alloc_new W _));have Y0:Hid (((W.alloc (.cells #[.slice A n cap,.int .i64 L.l,.int .i64 k',.int .i64 K',.int .i64 wt',.int .i64 ep'] 26)).alloc (.cells #[.slice An n cn,.slice As ns cs,.slice Ad nd cd] 82)).heap[W.heap.size+1]? =some (.cells #[.slice An n cn,.slice As ns cs,.slice Ad nd cd] 82 (0,0))):=LH (heap_new_at (W.alloc _) _ _ (by simp));clear BX;obtain⟨pB,hpB⟩ : ∃p,p=W.heap.size:=⟨_,rfl⟩;obtain⟨pK,hpK⟩ : ∃p,p=W.heap.size+1:=⟨_,rfl⟩;obtain⟨gL,hgL⟩ : ∃g,g=L.g:=⟨_,rfl⟩;rw [←hgL] at HRs⊢;clear hgL
 go_enter Tryz.func41,Tryz.ntmps41
 go_upto_region 1 with fail;rw [←hpK] at Y0⊢;rw [←hpB] at X0⊢;clear hpB hpK;generalize (W.alloc (.cells #[.slice A n cap,.int .i64 L.l,.int .i64 k',.int .i64 K',.int .i64 wt',.int .i64 ep'] 26)).alloc (.cells #[.slice An n cn,.slice As ns cs,.slice Ad nd cd] 82) =W0 at B0 X0 Y0⊢;go_wp2_with fail;refine(HRs.out _ B0.out).mono ?_;rintro e w1 ⟨g',F',rfl,hd,hF,hb1⟩;have D1:=LH hd;have B1:=LH (Below.then_ B0.out hb1);have X1:=LH (bB X0.out hb1);have Y1:=LH (bB Y0.out hb1);clear hd hF hb1 B0 X0 Y0 HRs;have cB:=bC X1.out;have zB:=lB X1.out;go_wp2_with fail;refine(HRo.out _ B1.out).mono ?_;rintro e w2 ⟨rfl,hb2⟩;have D2:=LH (D1.out.below hb2);have B2:=LH (Below.then_ B1.out hb2);have X2:=LH (bB X1.out hb2);have Y2:=LH (bB Y1.out hb2);clear hb2 cB zB D1 B1 X1 Y1 HRo;have HHr:=LH (HHas.out w2 R);rw [hroot] at HHr;go_wp2_with fail;refine HHr.out.mono ?_;rintro e w3 ⟨rfl,hb3⟩;have D3:=LH (D2.out.below hb3);have B3:=LH (Below.then_ B2.out hb3);have X3:=LH (bB X2.out hb3);have Y3:=LH (bB Y2.out hb3);clear hb3 D2 B2 X2 Y2 HHr hroot;have cB:=bC X3.out;have zB:=lB X3.out;go_upto_region 5 with fail;have al:=(Below.refl w3.heap.size w3).alloc (Nat.le_refl _) (.cells #[.int .i64 L.l,.slice none 0 0] 35);have Z4:=LH (heap_alloc_new w3 (.cells #[.int .i64 L.l,.slice none 0 0] 35));have D4:=LH (D3.out.below al);have B4:=LH (Below.then_ B3.out al);have X4:=LH (bB X3.out al);have Y4:=LH (bB Y3.out al);have hgb:=B3.out.size;clear al cB zB;obtain⟨pb,hpb⟩ : ∃p,p=w3.heap.size:=⟨_,rfl⟩;rw [←hpb] at Z4 hgb⊢;clear hpb D3 B3 X3 Y3;generalize w3.alloc (.cells #[.int .i64 L.l,.slice none 0 0] 35) =w4 at Z4 D4 B4 X4 Y4⊢;go_wp2_with fail;refine(HLi.out _).mono ?_;rintro e w5 ⟨vl,rfl,hol,hb5⟩;have E5:Hid (ExB W L.K L.l k pB pK pb g' #[.slice A n cap,.int .i64 L.l,.int .i64 k',.int .i64 K',.int .i64 wt',.int .i64 ep'] #[.slice An n cn,.slice As ns cs,.slice Ad nd cd] vl (eachL c) r F' (accO D ((eachL c).take 0)) none 0 w5):=LH ⟨Below.then_ B4.out hb5,bB X4.out hb5,bB Y4.out hb5,bB Z4.out hb5,hgb,hol.base_le (B4.out.size),D4.out.below hb5,.nil⟩;obtain⟨Al,cl,rfl,_⟩:=hol.form;have hnz: (natZ (eachL c)).length= (eachL c).length:=by simp [natZ]
 rw [hnz] at E5⊢;clear hol hb5 Z4 D4 B4 X4 Y4 hgb HLi;go_wp2_with fail
 go_loopw [46] (fun i wr=>∃(q:Nat) (Aq:Option Addr) (cq:Nat),i=.int .i64 q∧q≤(eachL c).length∧ExB W L.K L.l k pB pK pb g' #[.slice A n cap,.int .i64 L.l,.int .i64 k',.int .i64 K',.int .i64 wt',.int .i64 ep'] #[.slice An n cn,.slice As ns cs,.slice Ad nd cd] (.slice Al (eachL c).length cl) (eachL c) r F' (accO D ((eachL c).take q)) Aq cq wr) (fun i _=>(eachL c).length - (intOf i).toNat)
 case atStart=>exact⟨0,none,0,rfl,Nat.zero_le _,E5.out⟩
 case round=>
  obtain⟨q,Aq,cq,rfl,hq,hX⟩:=hrel;have EX:=LH hX;by_cases hlt:q< (eachL c).length
  ·have hqn:q< (natZ (eachL c)).length:=by rw [hnz];exact hlt
   obtain⟨b,off,rfl,hb,hcl⟩:=hX.o.sl.at_ hqn;have hze: (natZ (eachL c))[q] = (((eachL c)[q] :Nat) :Int):=by simp [natZ]
   have d0:=hcl 0 (.int .i64 (natZ (eachL c))[q]) rfl;rw [hze] at d0;simp only [Nat.add_zero,Nat.mul_one] at d0;obtain⟨hi48,hib⟩:=eachL_mem.1 (List.getElem_mem hlt);obtain⟨a1,a2,a3⟩:=accO_step HB.out HA1.out hlt;have hal:=accO_len HDl.out ((eachL c).take q);obtain⟨i,hi⟩ : ∃i,i= (eachL c)[q]:=⟨_,rfl⟩;rw [←hi] at d0 hi48 hib a2 a3;have hin:=HC1.out i hib
   have hAl: (accO D ((eachL c).take q)).length≤30000:=by
    have: ((eachL c).take q).length≤48:=by rw [List.length_take];omega
    have:=Nat.mul_le_mul_right 120 this;omega
   obtain⟨wy,w1',w2'⟩:=HWy.out i hib;have hWy:=fun W1 hb=>HWa.out W1 hb i hin;unfold Up48 at hWy;rw [w1'] at hWy;simp only [Option.isSome_some,Option.getD_some] at hWy;have HWi:=LH hWy;have hLi:i<Ln.length:=by rw [HLn.out];exact hin
   have hIi:=HI.out i _ (List.getElem?_eq_getElem hLi);obtain⟨bO,oO,rfl,hbO,hcO⟩:=HO.out.at_ hLi
   have hHy:Hid (∀z∈natZ wy,hasC c z=true):=LH fun z hz=>by
    unfold natZ at hz;obtain⟨y',hy',rfl⟩:=List.mem_map.1 hz;have h1:=w2' y' hy';have h2:y'<48:=by have:=HC1.out y' h1;omega
    show hasC c ((y':Nat) :Int) =true
    rw [HCb.out y' h2];exact h1
   have k0:=hcO 0 (.int .i64 L.l) rfl;have k1:=hcO 1 (.slice Ln[i].A Ln[i].m.length Ln[i].c) rfl;simp only [Nat.add_zero] at k0;obtain⟨im,iS⟩:=hIi;have HPo:=LH (fun W1 (h1:SlT W1 165 encN Aq (accO D ((eachL c).take q))) (h2:SlT W1 165 encN Ln[i].A (D i))=>ref10_Pour W1 L.l Aq cq (accO D ((eachL c).take q)) Ln[i].A Ln[i].c (D i) h1 h2 a1 (HB.out i) a2 hAl (Nat.le_trans (HDl.out i) (by decide)));rw [im] at k1 iS;have hd8:decide ((n:Int)≤(i:Int)) =false:=by simp;omega
   have hd9:decide (n≤i) =false:=by simp;omega
   have hin2: ¬n≤i:=by omega
   have HBr:=LH hX.b;have KI:=LH (And.intro hbO (And.intro k0 (And.intro k1 iS)));have HA3:=LH a3;have cB:=bC hX.xB;have zB:=lB hX.xB;have cK:=bC hX.xK;have zK:=lB hX.xK;generalize natZ wy=zs at HWi hHy;generalize Ln[i].A=Ai at*;generalize Ln[i].c=ci at*;generalize hacc:accO D ((eachL c).take q) =acc at*;clear hi;clear hX hcl hcO hWy w1' w2' hi48 hib a1 a2 a3 hal hAl hin hze hLi im k0 k1 iS hacc;go_wp2_with fail;refine(HWi.out _ HBr.out).mono ?_;rintro e w6 ⟨vw,rfl,how,hb6⟩;have E6:=LH (EX.out.below hb6);obtain⟨Av,cv,rfl,_⟩:=how.form;have OW:=LH (how.base_le (Nat.le_trans HBr.out.size (Nat.le_refl _)));have HSz:=LH how.len_le;clear how hb6 EX HBr HWi cB zB cK zK d0;go_wp2_with fail
   go_loopw [64] (fun j wr=>∃(t:Nat),j=.int .i64 t∧t≤zs.length∧ExB W L.K L.l k pB pK pb g' #[.slice A n cap,.int .i64 L.l,.int .i64 k',.int .i64 K',.int .i64 wt',.int .i64 ep'] #[.slice (some ⟨bO,oO,none⟩) n cn,.slice As ns cs,.slice Ad nd cd] (.slice (some ⟨b,off,none⟩) (eachL c).length cl) (eachL c) r F' acc Aq cq wr∧Own wr W.heap.size 3 encZ (.slice Av zs.length cv) zs) (fun j _=>zs.length - (intOf j).toNat)
   case atStart=>exact⟨0,rfl,Nat.zero_le _,E6.out,OW.out⟩
   case round=>
    obtain⟨t,rfl,ht,hX,hO2⟩:=hrel;have EX:=LH hX;have OX:=LH hO2;by_cases hlt2:t<zs.length
    ·obtain⟨bz,oz,rfl,hbz,hcz⟩:=hO2.sl.at_ hlt2
     have z0:=hcz 0 (.int .i64 zs[t]) rfl;simp only [Nat.add_zero,Nat.mul_one] at z0;have hzt:=hHy.out _ (List.getElem_mem hlt2);have hzl:=HSz.out;generalize zs[t] =z at z0 hzt;have HHz:=LH (HHas.out wr z);rw [hzt] at HHz;clear hX hO2 hcz hzt;go_wp2_with fail;refine HHz.out.mono ?_;rintro e w7 ⟨rfl,hb7⟩;have E7:=LH (EX.out.below hb7);have O7:=LH (OX.out.below hb7);clear hb7 HHz EX OX;go_wp2_with fail;have hwr:=wrap_succ hlt2 HSz.out.2.1 HSz.out.2.2;go_roundw
     case rel=>exact⟨t+1,by rw [hwr],Nat.succ_le_of_lt hlt2,E7.out,O7.out⟩
     case measure=>
      rw [hwr];exact Nat.sub_lt_sub_left hlt2 (Nat.lt_succ_self t)
    ·obtain rfl:t=zs.length:=by omega
     obtain⟨hbO,k0,k1,iS⟩:=KI.out;have d0:=(hX.b.cell (p:=⟨bO,oO+i*2,none⟩) hbO.lt).trans k0;have d1:=(hX.b.cell (p:=⟨bO,oO+i*2+1,none⟩) hbO.lt).trans k1;have zO:bO<wr.heap.size:=Nat.lt_of_lt_of_le hbO.lt hX.b.size;have iS2:=LH (iS.below hX.b);have cb:=bC hX.xb;have fb:=bF hX.xb;have zb:=lB hX.xb;have cK:=bC hX.xK;have zK:=lB hX.xK;have SA:=LH hX.s;unfold bagV at HPo;clear hX hO2 k0 k1 iS hbO;go_upto_region 17 with fail
     go_region_with (first
      | (go_at_call 102;refine(HPo.out _ SA.out.drew iS2.out.drew).mono ?_;rintro e w8 ⟨A2,c2,rfl,hS2,hb8⟩
         have hb9:Below wr.heap.size wr w8:=(Below.drew (Below.refl _ _)).trans hb8;have E8:=LH (EX.out.below hb9);have cb2:=bC E8.out.xb;have fb2:=bF E8.out.xb;have zb2:=lB E8.out.xb;have cK2:=bC E8.out.xK;have zK2:=lB E8.out.xK;have d02:=(hb9.cell (p:=⟨bO,oO+i*2,none⟩) zO).trans d0;have d12:=(hb9.cell (p:=⟨bO,oO+i*2+1,none⟩) zO).trans d1;have zO2:bO<w8.heap.size:=Nat.lt_of_lt_of_le zO hb9.size))
     all_goals
      have E9:=LH (E8.out.set (c2:=c2) hS2);clear cb fb zb cK zK d0 d1 zO cb2 fb2 zb2 cK2 zK2 d02 d12 zO2 hb8 hb9 hS2;go_wp2_with fail;go_roundw
      case rel=>exact⟨q+1,A2,c2,by go_num,by omega,by rw [HA3.out];exact E9.out⟩
      case measure=>simp [intOf];omega
  ·obtain rfl:q= (eachL c).length:=by omega
   rw [List.take_length] at EX;have cb:=bC EX.out.xb;have zb:=lB EX.out.xb;have SS:=LH EX.out.s.sl;have DD:=LH EX.out.d;have BB:=LH EX.out.b;unfold bagV at HSt;clear hX;go_wp2_with fail;refine(HSt.out _ g' F' Aq cq DD.out SS.out).mono ?_;rintro e w9 ⟨rfl,hb9⟩;have B9:=LH (Below.then_ BB.out hb9);clear hb9;go_wp2_with fail;exact bR (v:=.bool true) (by simp only [results,Tryz.results41];go_simp) rfl ⟨rfl,B9.out⟩
theorem SlT.k3 {α:Type} {size:Nat} {W W':World} {e:TypeId} {E:Enc α size} {A:Option Addr} {l:List α} (h:SlT W e E A l) (hk:K3 W W') (he:Tbk e) :SlT W' e E A l:=by
 rcases h with h| ⟨b,off,hA,hT,hc⟩
 ·exact .inl h
 ·have e1:=hk b e hT he
  exact .inr ⟨b,off,hA,hT.same e1,fun i x hi j u hj=>(World.cell?_of_block e1).trans (hc i x hi j u hj)⟩
structure Bks (w:World) (l n:Nat) (D:Nat→List Nd) (pt:Nat) (An:Option Addr) (cn:Nat) (As:Option Addr) (ns cs:Nat) (Ad:Option Addr) (nd cd:Nat) (Ln:List BkI) (W:World) :Prop where
 xt:W.heap[pt]? =some (.cells #[.slice An n cn,.slice As ns cs,.slice Ad nd cd] 82 (0,0))
 gt:w.heap.size≤pt
 o:Own W w.heap.size 35 (encBk l) (.slice An n cn) Ln
 ln:Ln.length=n
 it: ∀(i:Nat) x,Ln[i]? =some x→x.m=D i∧SlT W 165 encN x.A x.m
section
variable {w W W':World} {l n:Nat} {D:Nat→List Nd} {pt:Nat} {An:Option Addr} {cn:Nat} {As:Option Addr} {ns cs:Nat} {Ad:Option Addr} {nd cd:Nat} {Ln:List BkI}
theorem Bks.k3 (h:Bks w l n D pt An cn As ns cs Ad nd cd Ln W) (hk:K3 W W') :Bks w l n D pt An cn As ns cs Ad nd cd Ln W':=
 ⟨(hk pt _ (.of h.xt) (.inl rfl)).trans h.xt,h.gt,h.o.of_block fun b hb=>hk b _ (own_tyAt h.o b hb) (.inr (.inl rfl)),h.ln,fun i x hx=>⟨(h.it i x hx).1,(h.it i x hx).2.k3 hk (.inr (.inr (.inl rfl)))⟩⟩
theorem Bks.below (h:Bks w l n D pt An cn As ns cs Ad nd cd Ln W) (hb:Below W.heap.size W W') :Bks w l n D pt An cn As ns cs Ad nd cd Ln W':=h.k3 (.below hb)
theorem Bks.put {b off:Nat} {D':Nat→List Nd} {A2:Option Addr} {m2:List Nd} {c2:Nat} (h:Bks w l n D pt (some ⟨b,off,none⟩) cn As ns cs Ad nd cd Ln W) {i:Nat} (hi:i<Ln.length) (hs:SlT W 165 encN A2 m2) (h1:D' i=m2) (h2: ∀j,j≠i→D' j=D j) :
 Bks w l n D' pt (some ⟨b,off,none⟩) cn As ns cs Ad nd cd (Ln.set i ⟨A2,m2,c2⟩) ((W.setCell ⟨b,off+i*2+0,none⟩ (.int .i64 l)).setCell ⟨b,off+i*2+1,none⟩ (.slice A2 m2.length c2)):=by
 have o1:=h.o.setElem i 0 hi (by decide) (.int .i64 l) Ln[i] rfl;have o2:=o1.setElem i 1 (by simpa using hi) (by decide) (.slice A2 m2.length c2) ⟨A2,m2,c2⟩ (by simp [encBk]);rw [List.set_set] at o2;have tb:TypeAt W b 35:=own_tyAt h.o b rfl
 have st: ∀{X:Option Addr} {x:List Nd},SlT W 165 encN X x→SlT ((W.setCell ⟨b,off+i*2+0,none⟩ (.int .i64 l)).setCell ⟨b,off+i*2+1,none⟩ (.slice A2 m2.length c2)) 165 encN X x:=fun hx=>
  (hx.setCellT (p:=⟨b,off+i*2+0,none⟩) tb (by decide)).setCellT (p:=⟨b,off+i*2+1,none⟩) tb.setCell (by decide)
 have nb:pt≠b:=fun e=>h.o.ne_block h.xt (by decide) (by rw [e];rfl);refine⟨((Below.heap_setCell _ _ _ _ nb).trans (Below.heap_setCell _ _ _ _ nb)).trans h.xt,h.gt,o2,by rw [List.length_set];exact h.ln,fun j x hx=> ?_⟩;by_cases e:i=j
 ·subst e
  rw [List.getElem?_set_self hi] at hx
  cases hx
  exact⟨h1.symm,st hs⟩
 ·rw [List.getElem?_set_ne e] at hx
  obtain⟨k1,k2⟩:=h.it j x hx;exact⟨by rw [h2 j (Ne.symm e)];exact k1,st k2⟩
def LenD (q:Nat) (D:Nat→List Nd) :Prop:=∀j,(D j).length≤q
theorem LenD.more {q q':Nat} (h:LenD q D) (hq:q≤q') :LenD q' D:=fun j=>Nat.le_trans (h j) hq
theorem LenD.call {q:Nat} (h:LenD q D) (o:Stp) (e:Int) :LenD (q+1) (gD o e D):=fun j=>by
 unfold gD
 split
 ·by_cases hj:j=o.i.toNat
  ·subst hj
   rw [upd_same];have h1:=addR_len (D o.i.toNat) o.x o.w;have h2:=h o.i.toNat;omega
  ·rw [upd_other _ _ _ hj]
   exact Nat.le_succ_of_le (h j)
 ·split
  ·exact Nat.zero_le _
  ·exact Nat.le_succ_of_le (h j)
end
theorem EpW.store {w W:World} {L:EpL} {K:Nat} {k wt:Int} {q:Nat} {E:Int} {D:Nat→List Nd} {N:Nat→Int} {m:EpM} (h:EpW w L K k wt q E D N m W) {b t:Nat} (hb:TypeAt W b t) (ht:Tbk t) (hw:w.heap.size≤b) (j:Nat) (u:Value) :EpW w L K k wt q E D N m (W.setCell ⟨b,j,none⟩ u):=by
 obtain⟨⟨F,h1,h2,h3⟩,hj,hv,ht2⟩:=h;exact⟨⟨F,h1.keep (by simp) fun b' hb'=>Below.heap_setCell _ _ _ _ (by rintro rfl;exact h1.notBk hb ht hb'),h2,h3.setCell hw _⟩,hj,hv,ht2⟩
theorem EpStep.put_ok {l:Nat} {ps:List Int} {m m':EpM} {o:Stp} (h:EpStep l ps m o 0 m') (h0:o.kd=0) (hl:m.ss.length=ps.length) : ∃(i:Nat) (x:SR) (r':List Nd),o.i= (i:Int)∧i<ps.length∧m.ss[i]? =some x∧PutTo l x.1 x.2 o.x o.w r'∧putErr l x.1 x.2 o.x o.w=0:=by
 generalize he: (0:Int) =e at h
 cases h
 case put i x r' h1 h2 hx hp=>exact⟨i,x,r',h2,by rw [←hl];exact(List.getElem?_eq_some_iff.1 hx).1,hx,hp,by first|exact he.symm|rfl⟩
 all_goals (exfalso;omega)
section
variable {w W W':World} {l n:Nat} {D:Nat→List Nd} {pt:Nat} {An:Option Addr} {cn:Nat} {As:Option Addr} {ns cs:Nat} {Ad:Option Addr} {nd cd:Nat} {Ln:List BkI}
theorem Bks.anew (h:Bks w l n D pt An cn As ns cs Ad nd cd Ln W) {An2 As2 Ad2:Option Addr} {cn2 ns2 cs2 nd2 cd2:Nat} (hon:Own W w.heap.size 35 (encBk l) (.slice An2 n cn2) (List.replicate n bk0)) :
 Bks w l n (fun _=> []) pt An2 cn2 As2 ns2 cs2 Ad2 nd2 cd2 (List.replicate n bk0) (((W.setCell ⟨pt,0,none⟩ (.slice An2 n cn2)).setCell ⟨pt,1,none⟩ (.slice As2 ns2 cs2)).setCell ⟨pt,2,none⟩ (.slice Ad2 nd2 cd2)):=by
 have n1:=hon.ne_block h.xt (by decide)
 exact⟨zH (i:=2) (zH (i:=1) (zH (i:=0) h.xt _) _) _,h.gt,((hon.setCell (p:=⟨pt,0,none⟩) n1 _).setCell (p:=⟨pt,1,none⟩) n1 _).setCell (p:=⟨pt,2,none⟩) n1 _,by simp,fun i x hx=>by
  obtain⟨_,rfl⟩:=List.getElem?_eq_some_iff.1 hx;rw [List.getElem_replicate];exact⟨rfl,.nil⟩⟩
theorem EpW.puts {L:EpL} {K:Nat} {k wt:Int} {q:Nat} {E:Int} {N:Nat→Int} {m:EpM} {D0:Nat→List Nd} {b off:Nat} (h:EpW w L K k wt q E D N m W) (hY:Bks w l n D0 pt (some ⟨b,off,none⟩) cn As ns cs Ad nd cd Ln W) (i:Nat) (u v:Value) :EpW w L K k wt q E D N m ((W.setCell ⟨b,off+i*2+0,none⟩ u).setCell ⟨b,off+i*2+1,none⟩ v):=by
 have tb:TypeAt W b 35:=own_tyAt hY.o b rfl;have hb:=(hY.o.lt b rfl).1;exact(h.store tb (.inr (.inl rfl)) hb _ _).store tb.setCell (.inr (.inl rfl)) hb _ _
theorem EpW.anew {L:EpL} {K:Nat} {k wt:Int} {q:Nat} {E:Int} {N:Nat→Int} {m:EpM} {D0:Nat→List Nd} (h:EpW w L K k wt q E D N m W) (hY:Bks w l n D0 pt An cn As ns cs Ad nd cd Ln W) (u v x:Value) :EpW w L K k wt q E D N m (((W.setCell ⟨pt,0,none⟩ u).setCell ⟨pt,1,none⟩ v).setCell ⟨pt,2,none⟩ x):=by
 have tb:TypeAt W pt 82:=.of hY.xt;exact((h.store tb (.inl rfl) hY.gt _ _).store tb.setCell (.inl rfl) hY.gt _ _).store tb.setCell.setCell (.inl rfl) hY.gt _ _
theorem Bks.step {cf:Array Value} {po:Nat} {b off:Nat} (hY:Bks w l n D pt (some ⟨b,off,none⟩) cn As ns cs Ad nd cd Ln W) (h:W.heap[po]? =some (.cells cf 37 (0,0))) (i j:Nat) (u v:Value) : ((W.setCell ⟨b,i,none⟩ u).setCell ⟨b,j,none⟩ v).heap[po]? =some (.cells cf 37 (0,0)):=by
 have nb:po≠b:=fun e=>hY.o.ne_block h (by decide) (by rw [e];rfl);exact((Below.heap_setCell _ _ _ _ nb).trans (Below.heap_setCell _ _ _ _ nb)).trans h
theorem Bks.step3 {cf:Array Value} {po:Nat} (hY:Bks w l n D pt An cn As ns cs Ad nd cd Ln W) (h:W.heap[po]? =some (.cells cf 37 (0,0))) (u v x:Value) : (((W.setCell ⟨pt,0,none⟩ u).setCell ⟨pt,1,none⟩ v).setCell ⟨pt,2,none⟩ x).heap[po]? =some (.cells cf 37 (0,0)):=by
 have nb:po≠pt:=by
  rintro rfl;have h1:=hY.xt;rw [h] at h1;simp only [Option.some.injEq,Obj.cells.injEq] at h1;exact absurd h1.2.1 (by decide)
 exact(((Below.heap_setCell _ _ _ _ nb).trans (Below.heap_setCell _ _ _ _ nb)).trans (Below.heap_setCell _ _ _ _ nb)).trans h
end
theorem law_EpochExact (ps:List Int) (A:Option Addr) (cap:Nat) (l k K wt ep:Int) (os:List Stp) (A2:Option Addr) (c2:Nat) (y:Int) (w:World) (hS:Sl w w.heap.size encZ A ps) (hI: ∀x∈ps,i64 x) (hm:ps.length≤maxLen) (wl:i64 l) (wk:i64 k) (wK:i64 K) (ww:i64 wt) (we:i64 ep) (hS2:Sl w w.heap.size encSt A2 os) (hO: ∀x∈os,StpOk x) (hm2:os.length≤maxLen) (wy: (Lit.int IntKind.i64 y).wf=true) (hT:TabZ w) :
 Calls Tryz.prog 7 #[baseV A ps.length cap l k K wt ep,.slice A2 os.length c2,.int .i64 y] w fun e w'=>e=.returned (.bool true)∧Below w.heap.size w w':=by
 clear hI wl wk wK ww we wy;have HF:=LH (fun W=>law32_Few W A A2 ps.length cap os.length c2 l k K wt ep 120 hm hm2);have HAl:Hid (∀W,Below w.heap.size w W→Calls Tryz.prog 11 #[] W fun e w'=>e=.returned (.bool true)∧Below W.heap.size W w'):=LH fun W h=>law32_alive W (hT.below h);have b0:Below w.heap.size w (w.alloc (.cells #[.slice A ps.length cap,.int .i64 l,.int .i64 k,.int .i64 K,.int .i64 wt,.int .i64 ep] 26)):=bE;have k0:=LH (heap_alloc_new w (.cells #[.slice A ps.length cap,.int .i64 l,.int .i64 k,.int .i64 K,.int .i64 wt,.int .i64 ep] 26));have B0:=LH b0
 have HMade:Hid (∀W,Below w.heap.size w W→(noEp ps l k K wt ep∧Calls Tryz.prog 12 #[.agg #[.slice A ps.length cap,.int .i64 l,.int .i64 k,.int .i64 K,.int .i64 wt,.int .i64 ep]] W fun e w'=>e=.returned (.pointer none)∧Below W.heap.size W w')∨
  ∃l' K':Nat,Calls Tryz.prog 12 #[.agg #[.slice A ps.length cap,.int .i64 l,.int .i64 k,.int .i64 K,.int .i64 wt,.int .i64 ep]] W fun e w'=>∃L m,e=.returned (.pointer (some ⟨L.g,0,none⟩))∧L.ps=ps∧(L.l:Int) =l∧m.en=false∧EpW W L K' k wt 0 ep (fun _=> []) (fun _=>0) m w'):=LH fun W hb=>by
  rcases ep_eitherE ps l k K wt ep with h| ⟨hR,l',K',rfl,rfl,hN⟩
  ·exact .inl ⟨h,law32_made_no W A cap ps l k K wt ep (hS.keep hb.size fun p hp=>hb.cell hp) (hT.below hb) hm h⟩
  ·refine .inr ⟨l',K',(law32_made W A cap ps l' K' k wt ep (hS.keep hb.size fun p hp=>hb.cell hp) (hT.below hb) hR hN).mono ?_⟩
   rintro e W' ⟨L,rfl,h1,h2,h3,h4⟩;exact⟨L,_,rfl,h2,by rw [h3],rfl,EpW.new h1 h2 h3 hR hN⟩
 have HS1:=LH hS;have HS2:=LH hS2;have HO:=LH hO;unfold baseV at HF⊢;have hm2':os.length≤9223372036854775807:=Nat.le_trans hm2 (by decide);obtain⟨n,hnn⟩ : ∃n,n=ps.length:=⟨_,rfl⟩;have HNn:=LH hnn;rw [←hnn] at HF b0 k0 B0 HMade⊢;clear hS hm hS2 hO hm2 hT hnn b0;obtain⟨pc,hpc⟩ : ∃q,q=w.heap.size:=⟨_,rfl⟩
 go_enter Tryz.func7,Tryz.ntmps7
 go_upto_region 1 with fail;rw [←hpc] at k0⊢;clear hpc;generalize w.alloc (.cells #[.slice A n cap,.int .i64 l,.int .i64 k,.int .i64 K,.int .i64 wt,.int .i64 ep] 26) =W0 at k0 B0⊢;have cc:=bC k0.out;have zc:=lB k0.out
 cases hf:fewB n os.length 120 K l
 ·rw [hf] at HF
  go_wp2_with fail;refine(HF.out _).mono ?_;rintro e w1 ⟨rfl,hb1⟩;have B1:=LH (Below.then_ B0.out hb1);clear hb1;go_wp2_with fail;refine(HAl.out _ B1.out).mono ?_;rintro e w2 ⟨rfl,hb2⟩;have B2:=LH (Below.then_ B1.out hb2);clear hb2;go_wp2_with fail;exact bR (v:=.bool true) (by simp only [results,Tryz.results7];go_simp) rfl ⟨rfl,B2.out⟩
 ·rw [hf] at HF
  have hfew:n≤12∧os.length≤120:=by
   unfold fewB at hf;simp only [Bool.and_eq_true,decide_eq_true_eq] at hf;omega
  have HFe:=LH hfew;clear hf hfew;go_wp2_with fail;refine(HF.out _).mono ?_;rintro e w1 ⟨rfl,hb1⟩;have B1:=LH (Below.then_ B0.out hb1);have K1:=LH (bB k0.out hb1);clear hb1 cc zc;have cc:=bC K1.out;have zc:=lB K1.out;rcases HMade.out _ B1.out with ⟨_,hM⟩ | ⟨l',K',hM⟩
  ·go_wp2_with fail
   refine hM.mono ?_;rintro e w2 ⟨rfl,hb2⟩;have B2:=LH (Below.then_ B1.out hb2);clear hb2 hM;go_wp2_with fail;refine(HAl.out _ B2.out).mono ?_;rintro e w3 ⟨rfl,hb3⟩;have B3:=LH (Below.then_ B2.out hb3);clear hb3;go_wp2_with fail;exact bR (v:=.bool true) (by simp only [results,Tryz.results7];go_simp) rfl ⟨rfl,B3.out⟩
  ·go_wp2_with fail
   refine hM.mono ?_;rintro e w2 ⟨L,m0,rfl,hLps,hLl,hen0,hW⟩;have HW2:=LH hW;have HLn:Hid (L.ps.length=n):=LH (by rw [hLps,HNn.out]);have HE0:=LH hen0;have HLl:=LH hLl;have HSp:Hid (Sl w w.heap.size encZ A L.ps):=LH (by rw [hLps];exact HS1.out);have K2:=LH ((hW.s.blw.block pc (lB K1.out)).trans K1.out);have hfew2:=HFe.out;have HBe:=LH (fun W1=>law32_begun W1 n L.l (by omega));rw [hLl] at HBe;clear hM hW cc zc hLps hen0 hLl;have cc:=bC K2.out;have zc:=lB K2.out;go_wp2_with fail;refine(HBe.out _).mono ?_;rintro e w3 ⟨vn,As,ns,cs,Ad,nd,cd,rfl,hon,hb3⟩;obtain⟨An,cn,rfl,_⟩:=hon.form;rw [List.length_replicate] at hon⊢;have al:=hb3.trans (((Below.refl w3.heap.size w3).alloc (Nat.le_refl _) (.cells #[.slice An n cn,.slice As ns cs,.slice Ad nd cd] 82)).mono hb3.size)
   have Y4:Hid (Bks w1 L.l n (fun _=> []) w3.heap.size An cn As ns cs Ad nd cd (List.replicate n bk0) (w3.alloc (.cells #[.slice An n cn,.slice As ns cs,.slice Ad nd cd] 82))):=LH ⟨heap_alloc_new _ _,Nat.le_trans HW2.out.s.blw.size hb3.size,(hon.base_le HW2.out.s.blw.size).alloc _,by simp,fun i x hx=>by
    obtain⟨_,rfl⟩:=List.getElem?_eq_some_iff.1 hx;rw [List.getElem_replicate];exact⟨rfl,.nil⟩⟩
   have W4:=LH (HW2.out.below al);have L4:Hid (LenD 0 (fun _=> [])):=LH fun _=>Nat.le_refl _;clear cc zc hon hb3 al HW2 K2 hfew2;go_upto_region 7 with fail;obtain⟨pt,hpt⟩ : ∃p,p=w3.heap.size:=⟨_,rfl⟩;rw [←hpt] at Y4⊢;clear hpt;generalize w3.alloc (.cells #[.slice An n cn,.slice As ns cs,.slice Ad nd cd] 82) =w4 at Y4 W4⊢;go_wp2_with fail
   go_loopw [34,9] (fun i wv wr=>∃(q:Nat) (E:Int) (D:Nat→List Nd) (N:Nat→Int) (m:EpM) (was:Bool) (An:Option Addr) (cn:Nat) (As:Option Addr) (ns cs:Nat) (Ad:Option Addr) (nd cd:Nat) (Ln:List BkI),i=.int .i64 q∧wv=.bool was∧q≤os.length∧EpW w1 L K' k wt q E D N m wr∧Bks w1 L.l n D pt An cn As ns cs Ad nd cd Ln wr∧LenD q D∧(was=true∨m.en=false)) (fun i _ _=>os.length - (intOf i).toNat)
   case atStart=>exact⟨0,_,_,_,_,false,An,cn,As,ns,cs,Ad,nd,cd,_,rfl,rfl,Nat.zero_le _,W4.out,Y4.out,L4.out,.inr HE0.out⟩
   case round=>
    obtain⟨q,E,D,N,m,was,An,cn,As,ns,cs,Ad,nd,cd,Ln,rfl,rfl,hq,hE,hY,hLD,hwas⟩:=hrel;have KE:=LH hE;have KY:=LH hY;have KL:=LH hLD;have KW:=LH hwas;have hBr:=Below.then_ B1.out hE.s.blw;have BR:=LH hBr;have HEn:=LH (hE.s.ended);have K4:=LH ((hE.s.blw.block pc (lB K1.out)).trans K1.out);clear hE hY hLD;by_cases hlt:q<os.length
    ·obtain⟨b,off,rfl,hbb,hcl⟩:=HS2.out.at_ hlt
     have ho:=HO.out _ (List.getElem_mem hlt);obtain⟨o,hoe⟩ : ∃o,o=os[q]:=⟨_,rfl⟩;rw [←hoe] at hcl ho;have d0:=(hBr.cell (p:=⟨b,off+q*6+0,none⟩) hbb).trans (hcl 0 (.int .i64 o.kd) rfl);have d1:=(hBr.cell (p:=⟨b,off+q*6+1,none⟩) hbb).trans (hcl 1 (.int .i64 o.i) rfl);have d2:=(hBr.cell (p:=⟨b,off+q*6+2,none⟩) hbb).trans (hcl 2 (.int .i64 o.x) rfl);have d3:=(hBr.cell (p:=⟨b,off+q*6+3,none⟩) hbb).trans (hcl 3 (.int .i64 o.w) rfl);have d4:=(hBr.cell (p:=⟨b,off+q*6+4,none⟩) hbb).trans (hcl 4 (.int .i64 o.at_) rfl);have d5:=(hBr.cell (p:=⟨b,off+q*6+5,none⟩) hbb).trans (hcl 5 (.int .u8 o.by_) rfl);simp only [Nat.add_zero] at d0;have zb:b<wr.heap.size:=by have:=hBr.size;omega
     have al:=(Below.refl wr.heap.size wr).alloc (Nat.le_refl _) (.cells #[.int .i64 o.kd,.int .i64 o.i,.int .i64 o.x,.int .i64 o.w,.int .i64 o.at_,.int .u8 o.by_] 37);have Z5:=LH (heap_alloc_new wr (.cells #[.int .i64 o.kd,.int .i64 o.i,.int .i64 o.x,.int .i64 o.w,.int .i64 o.at_,.int .u8 o.by_] 37));have E5:=LH (KE.out.below al);have Y5:=LH (KY.out.below al);have hby:=LH ho.2;have HW9:Hid (o.w≤9223372036854775807):=LH (by have:=ho.1.2.2.2.1;unfold i64 at this;omega);clear hcl hoe hBr hwas al HEn KE KY ho;go_upto_region 11 with fail;clear d0 d1 d2 d3 d4 d5 zb;obtain⟨po,hpo⟩ : ∃p,p=wr.heap.size:=⟨_,rfl⟩;rw [←hpo] at Z5⊢;clear hpo;generalize wr.alloc (.cells #[.int .i64 o.kd,.int .i64 o.i,.int .i64 o.x,.int .i64 o.w,.int .i64 o.at_,.int .u8 o.by_] 37) =w5 at Z5 E5 Y5⊢;have HEn:=LH (E5.out.s.ended);go_wp2_with fail;refine HEn.out.mono ?_;rintro e w6 ⟨rfl,hb6⟩;have Z6:=LH (bB Z5.out hb6);have E6:=LH (E5.out.below hb6);have Y6:=LH (Y5.out.below hb6);have HFa:=LH (E6.out.fairQ (by have:=HFe.out;omega) o hby.out);unfold Stp.v stepV at HFa;have co:=bC Z6.out;have zo:=lB Z6.out;clear hb6 Z5 E5 Y5 HEn;go_wp2_with fail;refine HFa.out.mono ?_;clear HFa co zo;rintro e w7 (⟨rfl,hW,hk3⟩ | ⟨er,m',rfl,hs,hW,hk3⟩)
     ·have E7:=LH hW
      have Y7:=LH (Y6.out.k3 hk3);clear hW hk3;go_wp2_with fail;go_roundw
      case rel=>exact⟨q+1,E,D,N,m,was,An,cn,As,ns,cs,Ad,nd,cd,Ln,by go_num,rfl,hlt,E7.out.more (Nat.le_succ q),Y7.out,KL.out.more (Nat.le_succ q),KW.out⟩
      case measure=>simp [intOf];omega
     ·by_cases her:er=0
      ·by_cases hk0:o.kd=0
       ·subst her
        obtain⟨i,x0,r0,hoi,hin,hx0,hp0,he0⟩:=hs.put_ok hk0 E6.out.j.len;have hadd:=(E6.out.j.put hx0 hp0 he0 (by have:=E6.out.t;have:=HFe.out;omega)).1;have hDg:gD o 0 D=upd D i (addR (D i) o.x o.w):=by unfold gD;rw [if_pos ⟨hk0,rfl⟩,hoi,Int.toNat_natCast]
        have hLe:=KL.out i;have L8:=LH (KL.out.call o 0);obtain⟨E2,hE2⟩ : ∃x,x=gE o 0 E:=⟨_,rfl⟩;obtain⟨D2,hD2⟩ : ∃x,x=gD o 0 D:=⟨_,rfl⟩;obtain⟨N2,hN2⟩ : ∃x,x=gN o 0 N:=⟨_,rfl⟩;rw [←hE2,←hD2,←hN2] at hW;rw [←hD2] at L8 hDg;have E7:=LH hW;have hy7:=Y6.out.k3 hk3;have Z7:=LH ((hk3 po _ (.of Z6.out) (.inr (.inr (.inr rfl)))).trans Z6.out);rw [hoi] at Z7;have hiL:i<Ln.length:=by rw [hy7.ln,←HLn.out];exact hin
        obtain⟨bO,oO,rfl,hbO,hcO⟩:=hy7.o.sl.at_ hiL;have k0:=hcO 0 (.int .i64 L.l) rfl;have k1:=hcO 1 (.slice Ln[i].A Ln[i].m.length Ln[i].c) rfl;simp only [Nat.add_zero] at k0;obtain⟨im,iS⟩:=hy7.it i _ (List.getElem?_eq_getElem hiL);rw [im] at k1 iS;have HAdd:=LH (fun W1 (h1:SlT W1 165 encN Ln[i].A (D i))=>ref10_Add W1 L.l Ln[i].A Ln[i].c (D i) o.x o.w E6.out.j.l1 h1 (E6.out.j.D_ i) (by have:=HFe.out;omega) HW9.out);unfold bagV at HAdd;rw [hadd] at HAdd;dsimp only at HAdd;have HPt:=LH (fun W1 A2 c2 (h1:Bks w1 L.l n D pt (some ⟨bO,oO,none⟩) cn As ns cs Ad nd cd Ln W1) (h2:SlT W1 165 encN A2 (addR (D i) o.x o.w))=>h1.put (i:=i) (D':=D2) (c2:=c2) hiL h2 (by rw [hDg,upd_same]) (fun j hj=>by rw [hDg,upd_other _ _ _ hj]));have Y7:=LH hy7;have SA:=LH iS;have zO:bO<w7.heap.size:=hbO;have g0: (o.kd == 0) =true:=by simpa using hk0
        have g7: (o.kd == 7) =false:=by rw [hk0];rfl
        have hni: ¬n≤i:=by rw [←HLn.out];omega
        have hi48:i<48:=by have:=HFe.out;omega
        obtain⟨ml,hml⟩ : ∃x,x= (addR (D i) o.x o.w).length:=⟨_,rfl⟩;generalize Ln[i].A=Ai at*;generalize Ln[i].c=ci at*;have fO:=Own.frozen Y7.out.o;have cx:=bC Y7.out.xt;have fx:=bF Y7.out.xt;have zx:=lB Y7.out.xt;have co:=bC Z7.out;have zo:=lB Z7.out;clear hW hk3 hs hk0 hoi hx0 hp0 he0 hadd hDg hLe hE2 hD2 hN2 hy7 hcO im iS Y6 E6;go_upto_region 15 with fail;have npt: ¬pt=bO:=fun e=>Y7.out.o.ne_block Y7.out.xt (by decide) (by rw [e];rfl);have npo: ¬po=bO:=fun e=>Y7.out.o.ne_block Z7.out (by decide) (by rw [e];rfl);have npt2: ¬bO=pt:=fun e=>npt e.symm;have npo2: ¬bO=po:=fun e=>npo e.symm;have x0:w7.cell? ⟨pt,0,none⟩ =some (.slice (some ⟨bO,oO,none⟩) n cn):=cx 0;have x1:w7.cell? ⟨po,1,none⟩ =some (.int .i64 i):=co 1;have x2:w7.cell? ⟨po,2,none⟩ =some (.int .i64 o.x):=co 2;have x3:w7.cell? ⟨po,3,none⟩ =some (.int .i64 o.w):=co 3;clear cx co fx;have l1: (0:Int)≤(i:Int):=by omega
        have l2: (i:Int) < (n:Int):=by rw [←HLn.out];omega
        refine wp_region_held_drew (S:=fun w'=>w'.cell? ⟨pt,0,none⟩ =some (.slice (some ⟨bO,oO,none⟩) n cn)∧w'.cell? ⟨po,1,none⟩ =some (.int .i64 i)∧w'.cell? ⟨po,2,none⟩ =some (.int .i64 o.x)∧w'.cell? ⟨po,3,none⟩ =some (.int .i64 o.w)) (by kernel_rfl) ⟨x0,x1,x2,x3⟩ (fun hHeld=> ?_);refine wpAnyH_take (i:=0) (v:= ?_) rfl (by kernel_rfl) (by kernel_rfl) (by kernel_rfl) (fun _ _ _ h=>h) (Or.inl ⟨by rfl,?_⟩) (by assumption) ?_
        rotate_left
        ·intro w' hSw
         obtain⟨s0,s1,s2,s3⟩:=hSw;go_simp
         try with_reducible rfl
        (try simp only [Act.put,zD,zE,zF])
        refine wpAnyH_take (i:=1) (v:= ?_) rfl (by kernel_rfl) (by kernel_rfl) (by kernel_rfl) (fun _ _ _ h=>h) (Or.inl ⟨by rfl,?_⟩) (by assumption) ?_
        rotate_left
        ·intro w' hSw
         obtain⟨s0,s1,s2,s3⟩:=hSw;go_simp
         try with_reducible rfl
        (try simp only [Act.put,zD,zE,zF])
        refine wpAnyH_take (i:=2) (v:= ?_) rfl (by kernel_rfl) (by kernel_rfl) (by kernel_rfl) (fun _ _ _ h=>h) (Or.inl ⟨by rfl,?_⟩) (by assumption) ?_
        rotate_left
        ·intro w' hSw
         obtain⟨s0,s1,s2,s3⟩:=hSw;go_simp
         try with_reducible rfl
        (try simp only [Act.put,zD,zE,zF])
        refine wpAnyH_take (i:=3) (v:= ?_) rfl (by kernel_rfl) (by kernel_rfl) (by kernel_rfl) (fun _ _ _ h=>h) (Or.inl ⟨by rfl,?_⟩) (by assumption) ?_
        rotate_left
        ·intro w' hSw
         obtain⟨s0,s1,s2,s3⟩:=hSw;go_simp
         try with_reducible rfl
        (try simp only [Act.put,zD,zE,zF])
        refine wpAnyH_take (i:=4) (v:= ?_) rfl (by kernel_rfl) (by kernel_rfl) (by kernel_rfl) (fun _ _ _ h=>h) (Or.inl ⟨by rfl,?_⟩) (by assumption) ?_
        rotate_left
        ·intro w' hSw
         obtain⟨s0,s1,s2,s3⟩:=hSw;go_simp
         try with_reducible rfl
        (try simp only [Act.put,zD,zE,zF])
        refine wpAnyH_take (i:=5) (v:= ?_) rfl (by kernel_rfl) (by kernel_rfl) (by kernel_rfl) (fun _ _ _ h=>h) (Or.inl ⟨by rfl,?_⟩) (by assumption) ?_
        rotate_left
        ·intro w' hSw
         obtain⟨s0,s1,s2,s3⟩:=hSw;go_simp
         try with_reducible rfl
        (try simp only [Act.put,zD,zE,zF])
        refine wpAnyH_take (i:=6) (v:= ?_) rfl (by kernel_rfl) (by kernel_rfl) (by kernel_rfl) (fun _ _ _ h=>h) (Or.inl ⟨by rfl,?_⟩) (by assumption) ?_
        rotate_left
        ·intro w' hSw
         obtain⟨s0,s1,s2,s3⟩:=hSw;go_simp
         try with_reducible rfl
        (try simp only [Act.put,zD,zE,zF])
        refine wpAnyH_take (i:=7) (v:= ?_) rfl (by kernel_rfl) (by kernel_rfl) (by kernel_rfl) (fun _ _ _ h=>h) (Or.inl ⟨by rfl,?_⟩) (by assumption) ?_
        rotate_left
        ·intro w' hSw
         obtain⟨s0,s1,s2,s3⟩:=hSw;go_simp
         try with_reducible rfl
        (try simp only [Act.put,zD,zE,zF])
        refine wpAnyH_take (i:=8) (v:= ?_) rfl (by kernel_rfl) (by kernel_rfl) (by kernel_rfl) (fun _ _ _ h=>h) (Or.inl ⟨by rfl,?_⟩) (by assumption) ?_
        rotate_left
        ·intro w' hSw
         obtain⟨s0,s1,s2,s3⟩:=hSw;go_simp
         try with_reducible rfl
        (try simp only [Act.put,zD,zE,zF])
        refine wpAnyH_take (i:=10) (v:= ?_) rfl (by kernel_rfl) (by kernel_rfl) (by kernel_rfl) (fun _ _ _ h=>h) (Or.inl ⟨by rfl,?_⟩) (by assumption) ?_
        rotate_left
        ·intro w' hSw
         obtain⟨s0,s1,s2,s3⟩:=hSw;go_simp
         try with_reducible rfl
        (try simp only [Act.put,zD,zE,zF])
        refine wpAnyH_take (i:=11) (v:= ?_) rfl (by kernel_rfl) (by kernel_rfl) (by kernel_rfl) (fun _ _ _ h=>h) (Or.inl ⟨by rfl,?_⟩) (by assumption) ?_
        rotate_left
        ·intro w' hSw
         obtain⟨s0,s1,s2,s3⟩:=hSw;go_simp
         try with_reducible rfl
        (try simp only [Act.put,zD,zE,zF])
        refine wpAnyH_take (i:=12) (v:= ?_) rfl (by kernel_rfl) (by kernel_rfl) (by kernel_rfl) (fun _ _ _ h=>h) (Or.inl ⟨by rfl,?_⟩) (by assumption) ?_
        rotate_left
        ·intro w' hSw
         obtain⟨s0,s1,s2,s3⟩:=hSw;go_simp
         try with_reducible rfl
        (try simp only [Act.put,zD,zE,zF])
        refine wpAnyH_take (i:=13) (v:= ?_) rfl (by kernel_rfl) (by kernel_rfl) (by kernel_rfl) (fun _ _ _ h=>h) (Or.inl ⟨by rfl,?_⟩) (by assumption) ?_
        rotate_left
        ·intro w' hSw
         obtain⟨s0,s1,s2,s3⟩:=hSw;go_simp
         try with_reducible rfl
        (try simp only [Act.put,zD,zE,zF])
        refine wpAnyH_ready (rs:= [9]) (by kernel_rfl) (by simp) ?_;refine AllReadyH.cons rfl (fun K9 hK9=> ?_) AllReadyH.nil;go_simp;refine hK9.out _ _ ⟨x0,x1,x2,x3⟩ (fun hHeld=> ?_);clear hK9 K9
        (try simp only [Act.put,zD,zE,zF])
        refine wpAnyH_ready (rs:= [14]) (by kernel_rfl) (by simp) ?_;refine AllReadyH.cons rfl (fun K14 hK14=> ?_) AllReadyH.nil;go_simp
        (with_reducible refine(HAdd.out _ SA.out.drew).mono ?_)
        rintro e w8 ⟨A2,c2,rfl,hS2,hb8⟩;have hb9:Below w7.heap.size w7 w8:=(Below.drew (Below.refl _ _)).trans hb8;have E7b:=LH (E7.out.below hb9);have Y7b:=LH (Y7.out.below hb9);have Z7b:=LH (bB Z7.out hb9);have fO2:=Own.frozen Y7b.out.o;have y0:w8.cell? ⟨pt,0,none⟩ =some (.slice (some ⟨bO,oO,none⟩) n cn):=(bC Y7b.out.xt) 0;have y1:w8.cell? ⟨po,1,none⟩ =some (.int .i64 i):=(bC Z7b.out) 1;have y2:w8.cell? ⟨po,2,none⟩ =some (.int .i64 o.x):=(bC Z7b.out) 2;have y3:w8.cell? ⟨po,3,none⟩ =some (.int .i64 o.w):=(bC Z7b.out) 3;have k02:=(hb9.cell (p:=⟨bO,oO+i*2,none⟩) zO).trans k0;have k12:=(hb9.cell (p:=⟨bO,oO+i*2+1,none⟩) zO).trans k1;have zO2:bO<w8.heap.size:=Nat.lt_of_lt_of_le zO hb9.size;clear x0 x1 x2 x3 k0 k1 fO hHeld;refine hK14.out _ _ ⟨y0,y1,y2,y3⟩ (fun hHeld=> ?_);clear hK14 K14
        (try simp only [Act.put,zD,zE,zF])
        refine wpAnyH_take (i:=15) (v:= ?_) rfl (by kernel_rfl) (by kernel_rfl) (by kernel_rfl) (fun _ _ _ h=>h) (Or.inl ⟨by rfl,?_⟩) (by assumption) ?_
        rotate_left
        ·intro w' hSw
         obtain⟨s0,s1,s2,s3⟩:=hSw;go_simp
         try with_reducible rfl
        (try simp only [Act.put,zD,zE,zF])
        refine wpAnyH_take (i:=16) (v:= ?_) rfl (by kernel_rfl) (by kernel_rfl) (by kernel_rfl) (fun _ _ _ h=>h) (Or.inl ⟨by rfl,?_⟩) (by assumption) ?_
        rotate_left
        ·intro w' hSw
         obtain⟨s0,s1,s2,s3⟩:=hSw;go_simp
         try with_reducible rfl
        (try simp only [Act.put,zD,zE,zF])
        refine wpAnyH_take (i:=17) (v:= ?_) rfl (by kernel_rfl) (by kernel_rfl) (by kernel_rfl) (fun _ _ _ h=>h) (Or.inl ⟨by rfl,?_⟩) (by assumption) ?_
        rotate_left
        ·intro w' hSw
         obtain⟨s0,s1,s2,s3⟩:=hSw;go_simp
         try with_reducible rfl
        (try simp only [Act.put,zD,zE,zF])
        refine wpAnyH_take (i:=18) (v:= ?_) rfl (by kernel_rfl) (by kernel_rfl) (by kernel_rfl) (fun _ _ _ h=>h) (Or.inl ⟨by rfl,?_⟩) (by assumption) ?_
        rotate_left
        ·intro w' hSw
         obtain⟨s0,s1,s2,s3⟩:=hSw;go_simp
         try with_reducible rfl
        (try simp only [Act.put,zD,zE,zF])
        refine wpAnyH_ready (rs:= [19]) (by kernel_rfl) (by simp) ?_;refine AllReadyH.cons rfl (fun K19 hK19=> ?_) AllReadyH.nil;go_simp;refine hK19.out _ _ (by refine⟨?_,?_,?_,?_⟩ <;> (simp [*,go_sem];done)) (fun hHeld=> ?_);clear hK19 K19
        (try simp only [Act.put,zD,zE,zF])
        refine wpAnyH_done (by kernel_rfl) ?_ _;clear hHeld;have E8:=LH (E7b.out.puts Y7b.out i (.int .i64 L.l) (.slice A2 (addR (D i) o.x o.w).length c2));have Y8:=LH (HPt.out w8 A2 c2 Y7b.out hS2);have Z8:=LH (Y7b.out.step Z7b.out (oO+i*2+0) (oO+i*2+1) (.int .i64 L.l) (.slice A2 (addR (D i) o.x o.w).length c2));simp only [Nat.add_zero] at E8 Y8 Z8;go_upto_region 16 with fail;generalize (w8.setCell ⟨bO,oO+i*2,none⟩ (.int .i64 L.l)).setCell ⟨bO,oO+i*2+1,none⟩ (.slice A2 (addR (D i) o.x o.w).length c2) =w8b at E8 Y8 Z8⊢;clear y0 y1 y2 y3 fO2 zx zo k02 k12 zO zO2 hb8 hb9 hS2 E7b Y7b Z7b HPt HAdd npt npo npt2 npo2 l1 l2;have co:=bC Z8.out;have zo:=lB Z8.out;have HEn8:=LH (E8.out.s.ended)
        cases hme:m.en
        ·cases hme2:m'.en
         ·rw [hme2] at HEn8
          go_wp2_with fail;refine HEn8.out.mono ?_;rintro e w9 ⟨rfl,hb9⟩;have E9:=LH (E8.out.below hb9);have Y9:=LH (Y8.out.below hb9);have HM2:=LH hme2;clear hb9 HEn8 hme2;go_wp2_with fail;go_roundw
          case rel=>exact⟨q+1,E2,D2,N2,m',was,(some ⟨bO,oO,none⟩),cn,As,ns,cs,Ad,nd,cd,(Ln.set i ⟨A2,addR (D i) o.x o.w,c2⟩),by go_num,rfl,hlt,E9.out,Y9.out,L8.out,.inr HM2.out⟩
          case measure=>simp [intOf];omega
         ·rw [hme2] at HEn8
          have HM2:=LH hme2;have K8:=LH ((E8.out.s.blw.block pc (lB K1.out)).trans K1.out);clear hme2;go_wp2_with fail;refine HEn8.out.mono ?_;rintro e w9 ⟨rfl,hb9⟩;have E9:=LH (E8.out.below hb9);have Y9:=LH (Y8.out.below hb9);have K9:=LH (bB K8.out hb9);clear hb9 HEn8 co zo E8 Y8 K8;have hb1:=Below.then_ B1.out E9.out.s.blw;have HX:=law32_exact w1 w9 L K' k wt (q+1) E2 D2 N2 m' E9.out HM2.out A cap n HLn.out HFe.out.1 (HSp.out.keep hb1.size fun p hp=>hb1.cell hp) (some ⟨bO,oO,none⟩) cn (Ln.set i ⟨A2,addR (D i) o.x o.w,c2⟩) Y9.out.o.slT Y9.out.ln Y9.out.it (fun j=>Nat.le_trans (L8.out j) (by have:=HFe.out;omega)) As ns cs Ad nd cd k K wt ep y;rw [HLl.out] at HX;have HXh:=LH HX;have cy:=bC Y9.out.xt;have zy:=lB Y9.out.xt;have ck:=bC K9.out;have zk:=lB K9.out;clear HX hb1;go_wp2_with fail;refine HXh.out.mono ?_;rintro e v1 ⟨rfl,hb9⟩;have E10:=LH (E9.out.below hb9);have Y10:=LH (Y9.out.below hb9);clear hb9 HXh cy zy ck zk;go_wp2_with fail;go_roundw
          case rel=>exact⟨q+1,E2,D2,N2,m',true,(some ⟨bO,oO,none⟩),cn,As,ns,cs,Ad,nd,cd,(Ln.set i ⟨A2,addR (D i) o.x o.w,c2⟩),by go_num,rfl,hlt,E10.out,Y10.out,L8.out,.inl rfl⟩
          case measure=>simp [intOf];omega
        ·have HM2:Hid (was=true):=LH (KW.out.resolve_right (by rw [hme];simp))
         clear HEn8;go_wp2_with fail;go_roundw
         case rel=>exact⟨q+1,E2,D2,N2,m',was,(some ⟨bO,oO,none⟩),cn,As,ns,cs,Ad,nd,cd,(Ln.set i ⟨A2,addR (D i) o.x o.w,c2⟩),by go_num,rfl,hlt,E8.out,Y8.out,L8.out,.inl HM2.out⟩
         case measure=>simp [intOf];omega
       by_cases hk7:o.kd=7
       ·subst her
        have hDg:gD o 0 D=fun _=> []:=by unfold gD;rw [if_neg (by omega),if_pos ⟨hk7,rfl⟩]
        have L8:=LH (KL.out.call o 0);obtain⟨E2,hE2⟩ : ∃x,x=gE o 0 E:=⟨_,rfl⟩;obtain⟨N2,hN2⟩ : ∃x,x=gN o 0 N:=⟨_,rfl⟩;rw [←hE2,hDg,←hN2] at hW;rw [hDg] at L8;have E7:=LH hW;have Y7:=LH (Y6.out.k3 hk3);have Z7:=LH ((hk3 po _ (.of Z6.out) (.inr (.inr (.inr rfl)))).trans Z6.out);have K7:=LH ((hW.s.blw.block pc (lB K1.out)).trans K1.out);have g0: (o.kd == 0) =false:=by simpa using hk0
        have g7: (o.kd == 7) =true:=by simpa using hk7
        have co:=bC Z7.out;have zo:=lB Z7.out;have cc:=bC K7.out;have zc:=lB K7.out;clear hW hk3 hs hk0 hk7 hDg hE2 hN2 Y6 E6;go_wp2_with fail;refine(HBe.out _).mono ?_;rintro e w8 ⟨vn2,As2,ns2,cs2,Ad2,nd2,cd2,rfl,hon,hb8⟩;obtain⟨An2,cn2,rfl,_⟩:=hon.form;rw [List.length_replicate] at hon⊢;have hon2:=hon.base_le E7.out.s.blw.size;have E7b:=LH (E7.out.below hb8);have Y7b:=LH (Y7.out.below hb8);have Z7b:=LH (bB Z7.out hb8);have E8:=LH (E7b.out.anew Y7b.out (.slice An2 n cn2) (.slice As2 ns2 cs2) (.slice Ad2 nd2 cd2));have Y8:=LH (Y7b.out.anew (ns2:=ns2) (As2:=As2) (cs2:=cs2) (Ad2:=Ad2) (nd2:=nd2) (cd2:=cd2) hon2);have Z8:=LH (Y7b.out.step3 Z7b.out (.slice An2 n cn2) (.slice As2 ns2 cs2) (.slice Ad2 nd2 cd2));clear co zo cc zc;have cx:=bC Y7b.out.xt;have fx:=bF Y7b.out.xt;have zx:=lB Y7b.out.xt;clear hon hon2 hb8 E7 Y7 Z7 K7 E7b Y7b Z7b;go_upto_region 18 with fail;generalize ((w8.setCell ⟨pt,0,none⟩ (.slice An2 n cn2)).setCell ⟨pt,1,none⟩ (.slice As2 ns2 cs2)).setCell ⟨pt,2,none⟩ (.slice Ad2 nd2 cd2) =w8b at E8 Y8 Z8⊢;clear cx fx zx;have co:=bC Z8.out;have zo:=lB Z8.out;have HEn8:=LH (E8.out.s.ended)
        cases hme:m.en
        ·cases hme2:m'.en
         ·rw [hme2] at HEn8
          go_wp2_with fail;refine HEn8.out.mono ?_;rintro e w9 ⟨rfl,hb9⟩;have E9:=LH (E8.out.below hb9);have Y9:=LH (Y8.out.below hb9);have HM2:=LH hme2;clear hb9 HEn8 hme2;go_wp2_with fail;go_roundw
          case rel=>exact⟨q+1,E2,(fun _=> []),N2,m',was,An2,cn2,As2,ns2,cs2,Ad2,nd2,cd2,(List.replicate n bk0),by go_num,rfl,hlt,E9.out,Y9.out,L8.out,.inr HM2.out⟩
          case measure=>simp [intOf];omega
         ·rw [hme2] at HEn8
          have HM2:=LH hme2;have K8:=LH ((E8.out.s.blw.block pc (lB K1.out)).trans K1.out);clear hme2;go_wp2_with fail;refine HEn8.out.mono ?_;rintro e w9 ⟨rfl,hb9⟩;have E9:=LH (E8.out.below hb9);have Y9:=LH (Y8.out.below hb9);have K9:=LH (bB K8.out hb9);clear hb9 HEn8 co zo E8 Y8 K8;have hb1:=Below.then_ B1.out E9.out.s.blw;have HX:=law32_exact w1 w9 L K' k wt (q+1) E2 (fun _=> []) N2 m' E9.out HM2.out A cap n HLn.out HFe.out.1 (HSp.out.keep hb1.size fun p hp=>hb1.cell hp) An2 cn2 (List.replicate n bk0) Y9.out.o.slT Y9.out.ln Y9.out.it (fun j=>Nat.le_trans (L8.out j) (by have:=HFe.out;omega)) As2 ns2 cs2 Ad2 nd2 cd2 k K wt ep y;rw [HLl.out] at HX;have HXh:=LH HX;have cy:=bC Y9.out.xt;have zy:=lB Y9.out.xt;have ck:=bC K9.out;have zk:=lB K9.out;clear HX hb1;go_wp2_with fail;refine HXh.out.mono ?_;rintro e v1 ⟨rfl,hb9⟩;have E10:=LH (E9.out.below hb9);have Y10:=LH (Y9.out.below hb9);clear hb9 HXh cy zy ck zk;go_wp2_with fail;go_roundw
          case rel=>exact⟨q+1,E2,(fun _=> []),N2,m',true,An2,cn2,As2,ns2,cs2,Ad2,nd2,cd2,(List.replicate n bk0),by go_num,rfl,hlt,E10.out,Y10.out,L8.out,.inl rfl⟩
          case measure=>simp [intOf];omega
        ·have HM2:Hid (was=true):=LH (KW.out.resolve_right (by rw [hme];simp))
         clear HEn8;go_wp2_with fail;go_roundw
         case rel=>exact⟨q+1,E2,(fun _=> []),N2,m',was,An2,cn2,As2,ns2,cs2,Ad2,nd2,cd2,(List.replicate n bk0),by go_num,rfl,hlt,E8.out,Y8.out,L8.out,.inl HM2.out⟩
         case measure=>simp [intOf];omega
       have HLi:Hid (¬(o.kd=0∧er=0)∧¬(o.kd=7∧er=0)):=LH ⟨fun h=>hk0 h.1,fun h=>hk7 h.1⟩;have g0: (o.kd == 0) =false:=by simpa using hk0
       have g7: (o.kd == 7) =false:=by simpa using hk7
       clear her hk0 hk7;obtain⟨e1,e2,e3⟩:=g_same (o:=o) HLi.out.1 HLi.out.2 D N E;rw [e1,e2,e3] at hW;have E8:=LH hW;have Y8:=LH (Y6.out.k3 hk3);have L8:=LH (KL.out.more (Nat.le_succ q));have Z8:=LH ((hk3 po _ (.of Z6.out) (.inr (.inr (.inr rfl)))).trans Z6.out);have co:=bC Z8.out;have zo:=lB Z8.out;clear hW hk3 hs e1 e2 e3;have HEn8:=LH (E8.out.s.ended)
       cases hme:m.en
       ·cases hme2:m'.en
        ·rw [hme2] at HEn8
         go_wp2_with fail;refine HEn8.out.mono ?_;rintro e w9 ⟨rfl,hb9⟩;have E9:=LH (E8.out.below hb9);have Y9:=LH (Y8.out.below hb9);have HM2:=LH hme2;clear hb9 HEn8 hme2;go_wp2_with fail;go_roundw
         case rel=>exact⟨q+1,E,D,N,m',was,An,cn,As,ns,cs,Ad,nd,cd,Ln,by go_num,rfl,hlt,E9.out,Y9.out,L8.out,.inr HM2.out⟩
         case measure=>simp [intOf];omega
        ·rw [hme2] at HEn8
         have HM2:=LH hme2;have K8:=LH ((E8.out.s.blw.block pc (lB K1.out)).trans K1.out);clear hme2;go_wp2_with fail;refine HEn8.out.mono ?_;rintro e w9 ⟨rfl,hb9⟩;have E9:=LH (E8.out.below hb9);have Y9:=LH (Y8.out.below hb9);have K9:=LH (bB K8.out hb9);clear hb9 HEn8 co zo E8 Y8 K8;have hb1:=Below.then_ B1.out E9.out.s.blw;have HX:=law32_exact w1 w9 L K' k wt (q+1) E D N m' E9.out HM2.out A cap n HLn.out HFe.out.1 (HSp.out.keep hb1.size fun p hp=>hb1.cell hp) An cn Ln Y9.out.o.slT Y9.out.ln Y9.out.it (fun j=>Nat.le_trans (L8.out j) (by have:=HFe.out;omega)) As ns cs Ad nd cd k K wt ep y;rw [HLl.out] at HX;have HXh:=LH HX;have cy:=bC Y9.out.xt;have zy:=lB Y9.out.xt;have ck:=bC K9.out;have zk:=lB K9.out;clear HX hb1;go_wp2_with fail;refine HXh.out.mono ?_;rintro e v1 ⟨rfl,hb9⟩;have E10:=LH (E9.out.below hb9);have Y10:=LH (Y9.out.below hb9);clear hb9 HXh cy zy ck zk;go_wp2_with fail;go_roundw
         case rel=>exact⟨q+1,E,D,N,m',true,An,cn,As,ns,cs,Ad,nd,cd,Ln,by go_num,rfl,hlt,E10.out,Y10.out,L8.out,.inl rfl⟩
         case measure=>simp [intOf];omega
       ·have HM2:Hid (was=true):=LH (KW.out.resolve_right (by rw [hme];simp))
        clear HEn8;go_wp2_with fail;go_roundw
        case rel=>exact⟨q+1,E,D,N,m',was,An,cn,As,ns,cs,Ad,nd,cd,Ln,by go_num,rfl,hlt,E8.out,Y8.out,L8.out,.inl HM2.out⟩
        case measure=>simp [intOf];omega
      ·have HLi:Hid (¬(o.kd=0∧er=0)∧¬(o.kd=7∧er=0)):=LH ⟨fun h=>her h.2,fun h=>her h.2⟩
       have ge: (er == 0) =false:=by simpa using her
       clear her;rcases (by by_cases h0:o.kd=0;exact .inl ⟨by simpa using h0,by rw [h0];rfl⟩;exact .inr (by by_cases h7:o.kd=7;exact .inl ⟨by simpa using h0,by simpa using h7⟩;exact .inr ⟨by simpa using h0,by simpa using h7⟩) : ((o.kd == 0) =true∧(o.kd == 7) =false)∨((o.kd == 0) =false∧(o.kd == 7) =true)∨((o.kd == 0) =false∧(o.kd == 7) =false)) with ⟨g0,g7⟩ | ⟨g0,g7⟩ | ⟨g0,g7⟩
       ·skip
        obtain⟨e1,e2,e3⟩:=g_same (o:=o) HLi.out.1 HLi.out.2 D N E;rw [e1,e2,e3] at hW;have E8:=LH hW;have Y8:=LH (Y6.out.k3 hk3);have L8:=LH (KL.out.more (Nat.le_succ q));have Z8:=LH ((hk3 po _ (.of Z6.out) (.inr (.inr (.inr rfl)))).trans Z6.out);have co:=bC Z8.out;have zo:=lB Z8.out;clear hW hk3 hs e1 e2 e3;have HEn8:=LH (E8.out.s.ended)
        cases hme:m.en
        ·cases hme2:m'.en
         ·rw [hme2] at HEn8
          go_wp2_with fail;refine HEn8.out.mono ?_;rintro e w9 ⟨rfl,hb9⟩;have E9:=LH (E8.out.below hb9);have Y9:=LH (Y8.out.below hb9);have HM2:=LH hme2;clear hb9 HEn8 hme2;go_wp2_with fail;go_roundw
          case rel=>exact⟨q+1,E,D,N,m',was,An,cn,As,ns,cs,Ad,nd,cd,Ln,by go_num,rfl,hlt,E9.out,Y9.out,L8.out,.inr HM2.out⟩
          case measure=>simp [intOf];omega
         ·rw [hme2] at HEn8
          have HM2:=LH hme2;have K8:=LH ((E8.out.s.blw.block pc (lB K1.out)).trans K1.out);clear hme2;go_wp2_with fail;refine HEn8.out.mono ?_;rintro e w9 ⟨rfl,hb9⟩;have E9:=LH (E8.out.below hb9);have Y9:=LH (Y8.out.below hb9);have K9:=LH (bB K8.out hb9);clear hb9 HEn8 co zo E8 Y8 K8;have hb1:=Below.then_ B1.out E9.out.s.blw;have HX:=law32_exact w1 w9 L K' k wt (q+1) E D N m' E9.out HM2.out A cap n HLn.out HFe.out.1 (HSp.out.keep hb1.size fun p hp=>hb1.cell hp) An cn Ln Y9.out.o.slT Y9.out.ln Y9.out.it (fun j=>Nat.le_trans (L8.out j) (by have:=HFe.out;omega)) As ns cs Ad nd cd k K wt ep y;rw [HLl.out] at HX;have HXh:=LH HX;have cy:=bC Y9.out.xt;have zy:=lB Y9.out.xt;have ck:=bC K9.out;have zk:=lB K9.out;clear HX hb1;go_wp2_with fail;refine HXh.out.mono ?_;rintro e v1 ⟨rfl,hb9⟩;have E10:=LH (E9.out.below hb9);have Y10:=LH (Y9.out.below hb9);clear hb9 HXh cy zy ck zk;go_wp2_with fail;go_roundw
          case rel=>exact⟨q+1,E,D,N,m',true,An,cn,As,ns,cs,Ad,nd,cd,Ln,by go_num,rfl,hlt,E10.out,Y10.out,L8.out,.inl rfl⟩
          case measure=>simp [intOf];omega
        ·have HM2:Hid (was=true):=LH (KW.out.resolve_right (by rw [hme];simp))
         clear HEn8;go_wp2_with fail;go_roundw
         case rel=>exact⟨q+1,E,D,N,m',was,An,cn,As,ns,cs,Ad,nd,cd,Ln,by go_num,rfl,hlt,E8.out,Y8.out,L8.out,.inl HM2.out⟩
         case measure=>simp [intOf];omega
       ·skip
        obtain⟨e1,e2,e3⟩:=g_same (o:=o) HLi.out.1 HLi.out.2 D N E;rw [e1,e2,e3] at hW;have E8:=LH hW;have Y8:=LH (Y6.out.k3 hk3);have L8:=LH (KL.out.more (Nat.le_succ q));have Z8:=LH ((hk3 po _ (.of Z6.out) (.inr (.inr (.inr rfl)))).trans Z6.out);have co:=bC Z8.out;have zo:=lB Z8.out;clear hW hk3 hs e1 e2 e3;have HEn8:=LH (E8.out.s.ended)
        cases hme:m.en
        ·cases hme2:m'.en
         ·rw [hme2] at HEn8
          go_wp2_with fail;refine HEn8.out.mono ?_;rintro e w9 ⟨rfl,hb9⟩;have E9:=LH (E8.out.below hb9);have Y9:=LH (Y8.out.below hb9);have HM2:=LH hme2;clear hb9 HEn8 hme2;go_wp2_with fail;go_roundw
          case rel=>exact⟨q+1,E,D,N,m',was,An,cn,As,ns,cs,Ad,nd,cd,Ln,by go_num,rfl,hlt,E9.out,Y9.out,L8.out,.inr HM2.out⟩
          case measure=>simp [intOf];omega
         ·rw [hme2] at HEn8
          have HM2:=LH hme2;have K8:=LH ((E8.out.s.blw.block pc (lB K1.out)).trans K1.out);clear hme2;go_wp2_with fail;refine HEn8.out.mono ?_;rintro e w9 ⟨rfl,hb9⟩;have E9:=LH (E8.out.below hb9);have Y9:=LH (Y8.out.below hb9);have K9:=LH (bB K8.out hb9);clear hb9 HEn8 co zo E8 Y8 K8;have hb1:=Below.then_ B1.out E9.out.s.blw;have HX:=law32_exact w1 w9 L K' k wt (q+1) E D N m' E9.out HM2.out A cap n HLn.out HFe.out.1 (HSp.out.keep hb1.size fun p hp=>hb1.cell hp) An cn Ln Y9.out.o.slT Y9.out.ln Y9.out.it (fun j=>Nat.le_trans (L8.out j) (by have:=HFe.out;omega)) As ns cs Ad nd cd k K wt ep y;rw [HLl.out] at HX;have HXh:=LH HX;have cy:=bC Y9.out.xt;have zy:=lB Y9.out.xt;have ck:=bC K9.out;have zk:=lB K9.out;clear HX hb1;go_wp2_with fail;refine HXh.out.mono ?_;rintro e v1 ⟨rfl,hb9⟩;have E10:=LH (E9.out.below hb9);have Y10:=LH (Y9.out.below hb9);clear hb9 HXh cy zy ck zk;go_wp2_with fail;go_roundw
          case rel=>exact⟨q+1,E,D,N,m',true,An,cn,As,ns,cs,Ad,nd,cd,Ln,by go_num,rfl,hlt,E10.out,Y10.out,L8.out,.inl rfl⟩
          case measure=>simp [intOf];omega
        ·have HM2:Hid (was=true):=LH (KW.out.resolve_right (by rw [hme];simp))
         clear HEn8;go_wp2_with fail;go_roundw
         case rel=>exact⟨q+1,E,D,N,m',was,An,cn,As,ns,cs,Ad,nd,cd,Ln,by go_num,rfl,hlt,E8.out,Y8.out,L8.out,.inl HM2.out⟩
         case measure=>simp [intOf];omega
       ·skip
        obtain⟨e1,e2,e3⟩:=g_same (o:=o) HLi.out.1 HLi.out.2 D N E;rw [e1,e2,e3] at hW;have E8:=LH hW;have Y8:=LH (Y6.out.k3 hk3);have L8:=LH (KL.out.more (Nat.le_succ q));have Z8:=LH ((hk3 po _ (.of Z6.out) (.inr (.inr (.inr rfl)))).trans Z6.out);have co:=bC Z8.out;have zo:=lB Z8.out;clear hW hk3 hs e1 e2 e3;have HEn8:=LH (E8.out.s.ended)
        cases hme:m.en
        ·cases hme2:m'.en
         ·rw [hme2] at HEn8
          go_wp2_with fail;refine HEn8.out.mono ?_;rintro e w9 ⟨rfl,hb9⟩;have E9:=LH (E8.out.below hb9);have Y9:=LH (Y8.out.below hb9);have HM2:=LH hme2;clear hb9 HEn8 hme2;go_wp2_with fail;go_roundw
          case rel=>exact⟨q+1,E,D,N,m',was,An,cn,As,ns,cs,Ad,nd,cd,Ln,by go_num,rfl,hlt,E9.out,Y9.out,L8.out,.inr HM2.out⟩
          case measure=>simp [intOf];omega
         ·rw [hme2] at HEn8
          have HM2:=LH hme2;have K8:=LH ((E8.out.s.blw.block pc (lB K1.out)).trans K1.out);clear hme2;go_wp2_with fail;refine HEn8.out.mono ?_;rintro e w9 ⟨rfl,hb9⟩;have E9:=LH (E8.out.below hb9);have Y9:=LH (Y8.out.below hb9);have K9:=LH (bB K8.out hb9);clear hb9 HEn8 co zo E8 Y8 K8;have hb1:=Below.then_ B1.out E9.out.s.blw;have HX:=law32_exact w1 w9 L K' k wt (q+1) E D N m' E9.out HM2.out A cap n HLn.out HFe.out.1 (HSp.out.keep hb1.size fun p hp=>hb1.cell hp) An cn Ln Y9.out.o.slT Y9.out.ln Y9.out.it (fun j=>Nat.le_trans (L8.out j) (by have:=HFe.out;omega)) As ns cs Ad nd cd k K wt ep y;rw [HLl.out] at HX;have HXh:=LH HX;have cy:=bC Y9.out.xt;have zy:=lB Y9.out.xt;have ck:=bC K9.out;have zk:=lB K9.out;clear HX hb1;go_wp2_with fail;refine HXh.out.mono ?_;rintro e v1 ⟨rfl,hb9⟩;have E10:=LH (E9.out.below hb9);have Y10:=LH (Y9.out.below hb9);clear hb9 HXh cy zy ck zk;go_wp2_with fail;go_roundw
          case rel=>exact⟨q+1,E,D,N,m',true,An,cn,As,ns,cs,Ad,nd,cd,Ln,by go_num,rfl,hlt,E10.out,Y10.out,L8.out,.inl rfl⟩
          case measure=>simp [intOf];omega
        ·have HM2:Hid (was=true):=LH (KW.out.resolve_right (by rw [hme];simp))
         clear HEn8;go_wp2_with fail;go_roundw
         case rel=>exact⟨q+1,E,D,N,m',was,An,cn,As,ns,cs,Ad,nd,cd,Ln,by go_num,rfl,hlt,E8.out,Y8.out,L8.out,.inl HM2.out⟩
         case measure=>simp [intOf];omega
    ·obtain rfl:q=os.length:=by omega
     clear hBr hwas
     cases was
     ·have hen:m.en=false:=KW.out.resolve_left (by simp)
      rw [hen] at HEn;clear hen;go_wp2_with fail;refine HEn.out.mono ?_;rintro e w5 ⟨rfl,hb5⟩;have B5:=LH (Below.then_ BR.out hb5);clear hb5 HEn;go_wp2_with fail;refine(HAl.out _ B5.out).mono ?_;rintro e w6 ⟨rfl,hb6⟩;have B6:=LH (Below.then_ B5.out hb6);clear hb6;go_wp2_with fail;exact bR (v:=.bool true) (by simp only [results,Tryz.results7];go_simp) rfl ⟨rfl,B6.out⟩
     ·go_wp2_with fail
      refine(HAl.out _ BR.out).mono ?_;rintro e w6 ⟨rfl,hb6⟩;have B6:=LH (Below.then_ BR.out hb6);clear hb6;go_wp2_with fail;exact bR (v:=.bool true) (by simp only [results,Tryz.results7];go_simp) rfl ⟨rfl,B6.out⟩
end Go.Proofs.YtmdidmclfbfmiaaGreatDoor
