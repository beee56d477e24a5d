/-
  Texts of this proof, one behind the other: OpenBase, EpFew, EpRun, PlanB, EpSize, EpochBytesW, EpEndL, CrewLen, EpochEndsW, EpLateL, EpochLateW.
-/
import Derived.Test.YtmdidmclfbfmiaaGreatDoorR2
import Derived.Test.YtmdidmclfbfmiaaGreatDoorR6
import Derived.Test.YtmdidmclfbfmiaaGreatDoorR10
import Derived.Test.YtmdidmclfbfmiaaGreatDoorR12
set_option linter.unusedVariables false
set_option linter.unusedSimpArgs false
set_option maxRecDepth 100000
set_option maxHeartbeats 16000000
namespace Go.Proofs.YtmdidmclfbfmiaaGreatDoor
open Go.ChangeShapes Go.WideShapes Go.ChangeAt Go.RowKit
def encSt:Enc Stp 6:=⟨fun o=> [.int .i64 o.kd,.int .i64 o.i,.int .i64 o.x,.int .i64 o.w,.int .i64 o.at_,.int .u8 o.by_],fun _=>rfl,by intro x u hu;simp at hu;rcases hu with rfl|rfl|rfl|rfl|rfl|rfl <;> rfl⟩
def StpOk (o:Stp) :Prop:=(i64 o.kd∧i64 o.i∧i64 o.x∧i64 o.w∧i64 o.at_)∧0≤o.by_∧o.by_≤255
instance:Inhabited Stp:=⟨⟨0,0,0,0,0,0⟩⟩
def baseV (A:Option Addr) (n cap:Nat) (l k K wt ep:Int) :Value:=.agg #[.slice A n cap,.int .i64 l,.int .i64 k,.int .i64 K,.int .i64 wt,.int .i64 ep]
theorem open_Steps {H:Type} {enc:TypeId×Value→H} {w:World} {base:Nat} {spare:Nat→Bool} {held:Bool} {r:Reach} {b0:Nat} {v:Value} {d:DataW H} {p:List MemPlace}
 (hv:Value.okWide Tryz.prog w r b0 27 v) (h:DataW.Trod enc Tryz.prog w base spare held 27 v d p) :
 ∃(os:List Stp) (A:Option Addr) (cap:Nat),v=.slice A os.length cap∧Sl w w.heap.size encSt A os∧(∀x∈os,StpOk x)∧os.length≤maxLen:=by
 obtain⟨A,n,cap,rfl⟩:=okWide_slice Tryz.underlying27 hv;obtain⟨fuel,hf⟩:=h
 obtain⟨l,A',cap',hc,rest⟩:=slice_of_trod encSt StpOk Tryz.underlying27 (by kernel_rfl) (by decide) (fun fuel cs x h=>by
  obtain⟨a,b,c,d,e,f,rfl,h1,h2,h3,h4,h5,h6,h7⟩:=step_of_trod h;exact⟨⟨a,b,c,d,e,f⟩,rfl,⟨h1,h2,h3,h4,h5⟩,h6,by show f≤255;omega⟩) hf
 have hc':Value.slice A n cap=.slice A' l.length cap':=by simpa [Value.cells] using hc
 rw [hc'];exact⟨l,A',cap',rfl,rest⟩
section
variable {H:Type} {enc:TypeId×Value→H} {w:World} {base:Nat} {spare:Nat→Bool} {held:Bool} {fuel:Nat} {cs:List Value} {x:DataW H×List MemPlace}
theorem base_of_trod (h:DataW.trod enc Tryz.prog w base spare held fuel 26 cs=some x) :
 ∃(ps:List Int) (A:Option Addr) (cap:Nat) (l k K wt ep:Int),cs= [.slice A ps.length cap,.int .i64 l,.int .i64 k,.int .i64 K,.int .i64 wt,.int .i64 ep]∧Sl w w.heap.size encZ A ps∧(∀x∈ps,i64 x)∧ps.length≤maxLen∧i64 l∧i64 k∧i64 K∧i64 wt∧i64 ep:=by
 obtain⟨xs,n,_,_,hlen,hxl,hf⟩:=DataW.trod_struct Tryz.underlying26 h;have hC: (Tryz.prog).cellsOf 26=6:=by kernel_rfl
 have hCs: (Tryz.prog).cellsOf 22=1:=by kernel_rfl
 have hCc: (Tryz.prog).cellsOf 24=3:=by kernel_rfl
 have hCi: (Tryz.prog).cellsOf 3=1:=by kernel_rfl
 rw [hC] at hlen
 match cs,hlen with
 | [c0,c1,c2,c3,c4,c5],_=>
  match xs,hxl with
  | [y0,y1,y2,y3],_=>
   have g0:DataW.trod enc Tryz.prog w base spare held n 22 (([c0,c1,c2,c3,c4,c5].drop 0).take ((Tryz.prog).cellsOf 22)) =some y0:=hf 0 _ rfl;have g1:DataW.trod enc Tryz.prog w base spare held n 24 (([c0,c1,c2,c3,c4,c5].drop 1).take ((Tryz.prog).cellsOf 24)) =some y1:=hf 1 _ rfl;have g2:DataW.trod enc Tryz.prog w base spare held n 3 (([c0,c1,c2,c3,c4,c5].drop 4).take ((Tryz.prog).cellsOf 3)) =some y2:=hf 2 _ rfl;have g3:DataW.trod enc Tryz.prog w base spare held n 3 (([c0,c1,c2,c3,c4,c5].drop 5).take ((Tryz.prog).cellsOf 3)) =some y3:=hf 3 _ rfl;rw [hCs] at g0;rw [hCc] at g1;rw [hCi] at g2 g3
   obtain⟨ps,A,cap,e0,hS,hI,hm⟩:=slice_of_trod encZ i64 Tryz.underlying22 (by kernel_rfl) (by decide) (fun fuel cs x h=>by
    obtain⟨k,e0,_,k0⟩:=DataW.trod_int Tryz.underlying3 h;exact⟨k,e0,i64_of_wf k0⟩) g0
   obtain⟨l,k,K,e1,w0,w1,w2⟩:=conf_of_trod g1;obtain⟨wt,e2,_,k2⟩:=DataW.trod_int Tryz.underlying3 g2;obtain⟨ep,e3,_,k3⟩:=DataW.trod_int Tryz.underlying3 g3;simp at e0 e1 e2 e3
   obtain⟨rfl,rfl,rfl⟩:=e1;subst e0 e2 e3;exact⟨ps,A,cap,l,k,K,wt,ep,rfl,hS,hI,hm,w0,w1,w2,i64_of_wf k2,i64_of_wf k3⟩
end
theorem open_Base {H:Type} {enc:TypeId×Value→H} {w:World} {base:Nat} {spare:Nat→Bool} {held:Bool} {r:Reach} {b0:Nat} {v:Value} {d:DataW H} {p:List MemPlace}
 (hv:Value.okWide Tryz.prog w r b0 26 v) (h:DataW.Trod enc Tryz.prog w base spare held 26 v d p) :
 ∃(ps:List Int) (A:Option Addr) (cap:Nat) (l k K wt ep:Int),v=baseV A ps.length cap l k K wt ep∧Sl w w.heap.size encZ A ps∧(∀x∈ps,i64 x)∧ps.length≤maxLen∧i64 l∧i64 k∧i64 K∧i64 wt∧i64 ep:=by
 obtain⟨cs,rfl,hsz⟩:=okWide_struct Tryz.underlying26 hv;obtain⟨fuel,hf⟩:=h;obtain⟨ps,A,cap,l,k,K,wt,ep,hc,rest⟩:=base_of_trod hf;refine⟨ps,A,cap,l,k,K,wt,ep,?_,rest⟩;obtain⟨c⟩:=cs;have:c= [.slice A ps.length cap,.int .i64 l,.int .i64 k,.int .i64 K,.int .i64 wt,.int .i64 ep]:=by simpa [Value.cells] using hc
 subst this
 rfl
def fewB (n m:Nat) (most K l:Int) :Bool:=decide ((n:Int)≤12) && decide ((m:Int)≤most) && (!decide (K=1) || decide (l≤10))
theorem law32_Few (w:World) (A A2:Option Addr) (n c m c2:Nat) (l k K wt ep most:Int) (hn:n≤maxLen) (hm:m≤maxLen) :
 Calls Tryz.prog 10 #[baseV A n c l k K wt ep,.slice A2 m c2,.int .i64 most] w fun e w'=>e=.returned (.bool (fewB n m most K l))∧Below w.heap.size w w':=by
 unfold baseV fewB;unfold maxLen at hn hm;by_cases h1: (n:Int)≤12
 ·by_cases h2: (m:Int)≤most
  ·by_cases h3:K=1
   ·subst h3
    by_cases h4:l≤10
    ·have e: (decide ((n:Int)≤12) && decide ((m:Int)≤most) && (!decide ((1:Int) =1) || decide (l≤10))) =true:=by simp [h1,h2,h4]
     rw [e]
     go_enter Tryz.func10,Tryz.ntmps10
     go_wp2_with fail;exact bR (v:=.bool true) (by simp only [results,Tryz.results10];go_simp) rfl ⟨rfl,bE⟩
    ·have h4d:decide (l≤10) =false:=by simpa using h4
     have e: (decide ((n:Int)≤12) && decide ((m:Int)≤most) && (!decide ((1:Int) =1) || decide (l≤10))) =false:=by simp [h4]
     rw [e]
     go_enter Tryz.func10,Tryz.ntmps10
     go_wp2_with fail;exact bR (v:=.bool false) (by simp only [results,Tryz.results10];go_simp) rfl ⟨rfl,bE⟩
   ·have h3d: (K == 1) =false:=by simpa using h3
    have e: (decide ((n:Int)≤12) && decide ((m:Int)≤most) && (!decide (K=1) || decide (l≤10))) =true:=by simp [h1,h2,h3]
    rw [e]
    go_enter Tryz.func10,Tryz.ntmps10
    go_wp2_with fail;exact bR (v:=.bool true) (by simp only [results,Tryz.results10];go_simp) rfl ⟨rfl,bE⟩
  ·have h2d:decide ((m:Int)≤most) =false:=by simpa using h2
   have e: (decide ((n:Int)≤12) && decide ((m:Int)≤most) && (!decide (K=1) || decide (l≤10))) =false:=by simp [h2]
   rw [e]
   go_enter Tryz.func10,Tryz.ntmps10
   go_wp2_with fail;exact bR (v:=.bool false) (by simp only [results,Tryz.results10];go_simp) rfl ⟨rfl,bE⟩
 ·have h1d:decide ((n:Int)≤12) =false:=by simpa using h1
  have e: (decide ((n:Int)≤12) && decide ((m:Int)≤most) && (!decide (K=1) || decide (l≤10))) =false:=by simp [h1]
  rw [e]
  go_enter Tryz.func10,Tryz.ntmps10
  go_wp2_with fail;exact bR (v:=.bool false) (by simp only [results,Tryz.results10];go_simp) rfl ⟨rfl,bE⟩
def noEp (ps:List Int) (l k K wt ep:Int) :Prop:=rightG ps=false∨(rightG ps=true∧newS l k K (plcE ps wt 0) ep=false)
theorem law32_made_no (w:World) (A:Option Addr) (cap:Nat) (ps:List Int) (l k K wt ep:Int) (hS:Sl w w.heap.size encZ A ps) (hT:TabZ w) (hm:ps.length≤maxLen) (h:noEp ps l k K wt ep) :
 Calls Tryz.prog 12 #[baseV A ps.length cap l k K wt ep] w fun e w'=>e=.returned (.pointer none)∧Below w.heap.size w w':=by
 have HN:Hid (∀W,Below w.heap.size w W→Calls Tryz.prog 37 #[.slice A ps.length cap,.agg #[.int .i64 l,.int .i64 k,.int .i64 K],.int .i64 wt,.int .i64 ep] W fun e w'=>(∃er,e=.returned (.tuple #[.pointer none,.int .i64 er])∧(er == 0) =false)∧Below W.heap.size W w'):=LH fun W hb=>by
  have hSW:=hS.keep hb.size fun p hp=>hb.cell hp;rcases h with h| ⟨h1,h2⟩
  ·exact(ep_New_tree W A cap ps l k K wt ep hSW hm h).mono fun e w' ⟨h1,h2⟩=>⟨⟨15,h1,rfl⟩,h2⟩
  ·exact(ep_New_arg W A cap ps l k K wt ep hSW (hT.below hb) h1 h2).mono fun e w' ⟨h1,h2⟩=>⟨⟨2,h1,rfl⟩,h2⟩
 have b0:Below w.heap.size w (w.alloc (.cells #[.slice A ps.length cap,.int .i64 l,.int .i64 k,.int .i64 K,.int .i64 wt,.int .i64 ep] 26)):=bE;have HN0:=LH (HN.out _ b0);unfold baseV;clear h hS hT HN b0;generalize ps.length=n at*
 go_enter Tryz.func12,Tryz.ntmps12
 go_wp2_with fail;refine HN0.out.mono ?_;rintro e w1 ⟨⟨er,rfl,her⟩,hb1⟩;have B1:Below w.heap.size w w1:=Below.then_ bE hb1;go_wp2_with fail;exact bR (v:=.pointer none) (by simp only [results,Tryz.results12];go_simp) rfl ⟨rfl,B1⟩
def MadeE (ps:List Int) (l K:Nat) (k wt ep:Int) (w:World) (e:Ending) (w':World) :Prop:=∃L,e=.returned (.pointer (some ⟨L.g,0,none⟩))∧EpS w L (epNew ps l k K wt ep) w'∧L.ps=ps∧L.l=l∧L.K=K
theorem law32_made (w:World) (A:Option Addr) (cap:Nat) (ps:List Int) (l K:Nat) (k wt ep:Int) (hS:Sl w w.heap.size encZ A ps) (hT:TabZ w) (hR:rightG ps=true) (hN:newS l k K (plcE ps wt 0) ep=true) :
 Calls Tryz.prog 12 #[baseV A ps.length cap l k K wt ep] w (MadeE ps l K k wt ep w):=by
 have b0:Below w.heap.size w (w.alloc (.cells #[.slice A ps.length cap,.int .i64 l,.int .i64 k,.int .i64 K,.int .i64 wt,.int .i64 ep] 26)):=bE;have HN0:Hid (Calls Tryz.prog 37 #[.slice A ps.length cap,.agg #[.int .i64 l,.int .i64 k,.int .i64 K],.int .i64 wt,.int .i64 ep] (w.alloc (.cells #[.slice A ps.length cap,.int .i64 l,.int .i64 k,.int .i64 K,.int .i64 wt,.int .i64 ep] 26)) fun e W=>∃L,e=.returned (.tuple #[.pointer (some ⟨L.g,0,none⟩),.int .i64 0])∧EpS w L (epNew ps l k K wt ep) W∧L.ps=ps∧L.l=l∧L.K=K):=LH ((ep_New _ A cap ps l K k wt ep (hS.keep b0.size fun p hp=>b0.cell hp) (hT.below b0) hR hN).mono fun e W h=>EpS.new h b0);unfold baseV MadeE;clear hS hT hR hN b0;generalize ps.length=n at*;generalize epNew ps l k K wt ep=m at*
 go_enter Tryz.func12,Tryz.ntmps12
 go_wp2_with fail;refine HN0.out.mono ?_;rintro e w1 ⟨L,rfl,hS,h1,h2,h3⟩;have H1:=LH (And.intro hS (And.intro h1 (And.intro h2 h3)));clear hS h1 h2 h3;go_wp2_with fail;exact bR (v:=.pointer (some ⟨L.g,0,none⟩)) (by simp only [results,Tryz.results12];go_simp) rfl ⟨L,rfl,H1.out⟩
def FairPost (w:World) (L:EpL) (m:EpM) (o:Stp) (e:Ending) (W':World) :Prop:=
 (e=.returned (.tuple #[.int .i64 0,.bool false])∧EpS w L m W')∨
 ∃er m',e=.returned (.tuple #[.int .i64 er,.bool true])∧(o.kd=4→∀(q:Nat) y,o.i= (q:Int)→m.wv.items[q]? =some y→(decL y.2.data.toList).2=0)∧EpStep L.l L.ps m o er m'∧EpS w L m' W'
theorem law32_Fair (w W:World) (L:EpL) (m:EpM) (T:Nat) (o:Stp) (h:EpS w L m W) (ok:EpOk L T m) (hT:T≤4611686018427379800) (hby:0≤o.by_∧o.by_≤255) (hL: ∀x∈m.ss,lightOf L.l x.2 x.1.k=true) (hH:HearsOk L m o.i) :
 Calls Tryz.prog 23 #[.pointer (some ⟨L.g,0,none⟩),o.v] W (FairPost w L m o):=by
 have HD:=LH (fun W (h:EpS w L m W)=>law32_Do w W L m T o h ok hT hby hL hH);have HLt:=LH (fun W (h:EpS w L m W)=>h.letter o.i);unfold EpE at HD;have S0:=LH h;by_cases h4:o.kd=4
 ·have hsz: (m.wv.at_ o.i).2.1.data.toList.length≤8000000:=by
   unfold WS.at_
   split
   ·rename_i hh
    have:=(ok.it _ (getW_mem hh (0,⟨#[]⟩))).2.2;rw [Array.length_toList];exact Nat.le_trans this (by decide)
   ·simp
  have hdec: (decL (m.wv.at_ o.i).2.1.data.toList).2=0→∀(q:Nat) y,o.i= (q:Int)→m.wv.items[q]? =some y→(decL y.2.data.toList).2=0:=fun hd q y hq hy=>by
   have hql:=(List.getElem?_eq_some_iff.1 hy).1;have hh:m.wv.has o.i=true:=by unfold WS.has;rw [hq];simp;exact hql
   unfold WS.at_ at hd;rw [if_pos hh,hq,Int.toNat_natCast,List.getD_eq_getElem?_getD,hy] at hd;exact hd
  have HDe:=LH hdec;have HDc:=LH (fun W=>ref29_Decode W (m.wv.at_ o.i).2.1.data.toList hsz);unfold atV at HLt;have eS: ∀t:ByteArray,(⟨t.data.toList.toArray⟩ :ByteArray) =t:=fun t=>by cases t;simp
  have HP0:Hid (∀W,EpS w L m W→FairPost w L m o (.returned (.tuple #[.int .i64 0,.bool false])) W):=LH fun W h=>.inl ⟨rfl,h⟩;have HP1:Hid ((decL (m.wv.at_ o.i).2.1.data.toList).2=0→∀er m' W,EpStep L.l L.ps m o er m'→EpS w L m' W→FairPost w L m o (.returned (.tuple #[.int .i64 er,.bool true])) W):=LH fun hd er m' W h1 h2=>.inr ⟨er,m',rfl,fun _=>hdec hd,h1,h2⟩;unfold LtPost at HDc;rw [eS] at HDc;have b0:Below W.heap.size W (W.alloc (.cells #[.int .i64 o.kd,.int .i64 o.i,.int .i64 o.x,.int .i64 o.w,.int .i64 o.at_,.int .u8 o.by_] 37)):=(Below.refl _ _).alloc (Nat.le_refl _) _;have S1:=LH (S0.out.below b0);have K1:=LH (heap_alloc_new W (.cells #[.int .i64 o.kd,.int .i64 o.i,.int .i64 o.x,.int .i64 o.w,.int .i64 o.at_,.int .u8 o.by_] 37));unfold Stp.v stepV at HD⊢;have h4d: (o.kd == 4) =true:=by simpa using h4
  clear h ok hL hH hby h4 b0 S0 hdec hsz eS HDe;generalize decL (m.wv.at_ o.i).2.1.data.toList=D at*;generalize m.wv.at_ o.i=r at*;generalize FairPost w L m o=PP at*;obtain⟨pc,hpc⟩ : ∃q,q=W.heap.size:=⟨_,rfl⟩
  go_enter Tryz.func23,Tryz.ntmps23
  go_upto_region 1 with fail;rw [←hpc] at K1⊢;clear hpc;generalize W.alloc (.cells #[.int .i64 o.kd,.int .i64 o.i,.int .i64 o.x,.int .i64 o.w,.int .i64 o.at_,.int .u8 o.by_] 37) =W1 at S1 K1⊢;have cc:=bC K1.out;have zc:=lB K1.out;go_wp2_with fail;refine(HLt.out _ S1.out).mono ?_;rintro e w2 ⟨rfl,hb2⟩;have S2:=LH (S1.out.below hb2);have K2:=LH (bB K1.out hb2);clear hb2 cc zc;go_wp2_with fail;refine(HDc.out _).mono ?_;rintro e w3 ⟨rfl,hb3⟩;have S3:=LH (S2.out.below hb3);have K3:=LH (bB K2.out hb3);clear hb3 HLt HDc;by_cases hd0:D.2=0
  ·have hd0d: (D.2 == 0) =true:=by simpa using hd0
   have HP:=LH (HP1.out hd0);clear HP1;go_upto_region 4 with fail;have S4:=LH (S3.out.below (W':=_) ((Below.refl w3.heap.size w3).alloc (Nat.le_refl _) (.cells #[.int .i64 D.1.e,.int .i64 D.1.f,.int .u64 D.1.c,.string ⟨D.1.b.toArray⟩] 110)));have K4:=LH (bB K3.out ((Below.refl w3.heap.size w3).alloc (Nat.le_refl _) (.cells #[.int .i64 D.1.e,.int .i64 D.1.f,.int .u64 D.1.c,.string ⟨D.1.b.toArray⟩] 110)));generalize w3.alloc (.cells #[.int .i64 D.1.e,.int .i64 D.1.f,.int .u64 D.1.c,.string ⟨D.1.b.toArray⟩] 110) =W4 at S4 K4⊢;have cc:=bC K4.out;have zc:=lB K4.out;clear S3 K3;go_wp2_with fail;refine(HD.out _ S4.out).mono ?_;rintro e w5 ⟨er,m',rfl,h1,h2⟩;have HF:=LH (HP.out _ _ _ h1 h2);clear h1 h2;go_wp2_with fail;exact HF.out
  ·have hd0d: (D.2 == 0) =false:=by simpa using hd0
   have S4:=LH (S3.out.below (W':=_) ((Below.refl w3.heap.size w3).alloc (Nat.le_refl _) (.cells #[.int .i64 D.1.e,.int .i64 D.1.f,.int .u64 D.1.c,.string ⟨D.1.b.toArray⟩] 110)));clear hd0 HP1 HD;go_wp2_with fail;exact HP0.out _ S4.out
 ·have h4d: (o.kd == 4) =false:=by simpa using h4
  have HP1:Hid (∀er m' W,EpStep L.l L.ps m o er m'→EpS w L m' W→FairPost w L m o (.returned (.tuple #[.int .i64 er,.bool true])) W):=LH fun er m' W h1 h2=>.inr ⟨er,m',rfl,fun h=>absurd h h4,h1,h2⟩;have b0:Below W.heap.size W (W.alloc (.cells #[.int .i64 o.kd,.int .i64 o.i,.int .i64 o.x,.int .i64 o.w,.int .i64 o.at_,.int .u8 o.by_] 37)):=(Below.refl _ _).alloc (Nat.le_refl _) _;have S1:=LH (S0.out.below b0);unfold Stp.v stepV at HD⊢;clear h ok hL hH hby h4 b0 S0;generalize FairPost w L m o=PP at*
  go_enter Tryz.func23,Tryz.ntmps23
  go_wp2_with fail;refine(HD.out _ S1.out).mono ?_;rintro e w1 ⟨er,m',rfl,h1,h2⟩;have HF:=LH (HP1.out _ _ _ h1 h2);clear h1 h2;go_wp2_with fail;exact HF.out
structure EpW (w:World) (L:EpL) (K:Nat) (k wt:Int) (q:Nat) (E:Int) (D:Nat→List Nd) (N:Nat→Int) (m:EpM) (W:World) :Prop where
 s:EpS w L m W
 j:EpJ L.l K k wt L.ps E D N m
 v:WvOk L.ps.length (49*q) m.wv
 t:totN N≤q
section
variable {w W W':World} {L:EpL} {K:Nat} {k wt:Int} {q:Nat} {E:Int} {D:Nat→List Nd} {N:Nat→Int} {m:EpM}
theorem EpW.below (h:EpW w L K k wt q E D N m W) (hb:Below W.heap.size W W') :EpW w L K k wt q E D N m W':=⟨h.s.below hb,h.j,h.v,h.t⟩
theorem EpW.more (h:EpW w L K k wt q E D N m W) {q':Nat} (hq:q≤q') :EpW w L K k wt q' E D N m W:=⟨h.s,h.j,h.v.mono (by omega),by have:=h.t;omega⟩
theorem EpW.ok (h:EpW w L K k wt q E D N m W) :EpOk L (49*q) m:=h.j.epOk h.v
theorem EpW.new {ps:List Int} {l:Nat} {ep:Int} (h:EpS w L (epNew ps l k K wt ep) W) (h1:L.ps=ps) (h2:L.l=l) (hR:rightG ps=true) (hN:newS l k K (plcE ps wt 0) ep=true) :EpW w L K k wt 0 ep (fun _=> []) (fun _=>0) (epNew ps l k K wt ep) W:=by
 refine⟨h,?_,WvOk.new _,by rw [totN_zero];decide⟩;rw [h1,h2];exact EpJ.new hR hN
theorem EpW.to (h:EpW w L K k wt q E D N m W) (hq:q≤1000) {o:Stp} {e:Ending} (he:EpE w L m o e W') (hf:o.kd=4→∀(q:Nat) y,o.i= (q:Int)→m.wv.items[q]? =some y→(decL y.2.data.toList).2=0) :
 ∃er m',e=.returned (.int .i64 er)∧EpStep L.l L.ps m o er m'∧EpW w L K k wt (q+1) (gE o er E) (gD o er D) (gN o er N) m' W':=by
 obtain⟨er,m',rfl,hs,h'⟩:=he;obtain⟨k1,k2⟩:=hs.keeps h.j (by have:=h.t;omega) hf;exact⟨er,m',rfl,hs,h',k1,(hs.wave h.j h.v).mono (by omega),by have:=h.t;omega⟩
theorem EpW.do_ (h:EpW w L K k wt q E D N m W) (hq:q≤1000) (o:Stp) (hby:0≤o.by_∧o.by_≤255) (h4:o.kd≠4) :Calls Tryz.prog 34 #[.pointer (some ⟨L.g,0,none⟩),o.v] W fun e W'=>
 ∃er m',e=.returned (.int .i64 er)∧EpStep L.l L.ps m o er m'∧EpW w L K k wt (q+1) (gE o er E) (gD o er D) (gN o er N) m' W':=
 (law32_Do w W L m (49*q) o h.s h.ok (by omega) hby h.j.lights (h.j.hearsOk _)).mono fun e W' he=>h.to hq he fun h=>absurd h h4
theorem EpW.fair (h:EpW w L K k wt q E D N m W) (hq:q≤1000) (o:Stp) (hby:0≤o.by_∧o.by_≤255) :Calls Tryz.prog 23 #[.pointer (some ⟨L.g,0,none⟩),o.v] W fun e W'=>
 (e=.returned (.tuple #[.int .i64 0,.bool false])∧EpW w L K k wt q E D N m W')∨
 ∃er m',e=.returned (.tuple #[.int .i64 er,.bool true])∧EpStep L.l L.ps m o er m'∧EpW w L K k wt (q+1) (gE o er E) (gD o er D) (gN o er N) m' W':=by
 refine(law32_Fair w W L m (49*q) o h.s h.ok (by omega) hby h.j.lights (h.j.hearsOk _)).mono ?_;rintro e W' (⟨rfl,hs⟩ | ⟨er,m',rfl,hf,hs,h'⟩)
 ·exact .inl ⟨rfl,hs,h.j,h.v,h.t⟩
 ·obtain⟨er2,m2,he,hs2,h2⟩:=h.to (e:=.returned (.int .i64 er)) hq ⟨er,m',rfl,hs,h'⟩ hf
  cases he
  exact .inr ⟨er,m2,rfl,hs2,h2⟩
theorem EpW.start (h:EpW w L K k wt q E D N m W) (hq:q≤1000) :Calls Tryz.prog 15 #[.pointer (some ⟨L.g,0,none⟩)] W fun e W'=>∃er m',e=.returned (.int .i64 er)∧EpStep L.l L.ps m ⟨6,0,0,0,0,0⟩ er m'∧EpW w L K k wt (q+1) E D N m' W':=
 (h.s.start h.ok (by omega) ⟨6,0,0,0,0,0⟩ rfl).mono fun e W' he=>h.to hq he (fun h=>absurd h (by simp))
theorem EpW.tick (h:EpW w L K k wt q E D N m W) (hq:q≤1000) :Calls Tryz.prog 24 #[.pointer (some ⟨L.g,0,none⟩)] W fun e W'=>∃er m',e=.returned (.int .i64 er)∧EpStep L.l L.ps m ⟨5,0,0,0,0,0⟩ er m'∧EpW w L K k wt (q+1) E D N m' W':=
 (h.s.post fun F hA=>ep_Tick W L m F (49*q) ⟨5,0,0,0,0,0⟩ (by decide) hA h.ok (by omega)).mono fun e W' he=>h.to hq he (fun h=>absurd h (by simp))
theorem EpW.deliver (h:EpW w L K k wt q E D N m W) (hq:q≤1000) (i:Int) :Calls Tryz.prog 18 #[.pointer (some ⟨L.g,0,none⟩),.int .i64 i] W fun e W'=>∃er m',e=.returned (.int .i64 er)∧EpStep L.l L.ps m ⟨1,i,0,0,0,0⟩ er m'∧EpW w L K k wt (q+1) E D N m' W':=
 (h.s.deliver h.ok (by omega) ⟨1,i,0,0,0,0⟩ rfl h.j.lights (h.j.hearsOk _)).mono fun e W' he=>h.to hq he (fun h=>absurd h (by simp))
theorem EpW.copy (h:EpW w L K k wt q E D N m W) (hq:q≤1000) (i:Int) :Calls Tryz.prog 17 #[.pointer (some ⟨L.g,0,none⟩),.int .i64 i] W fun e W'=>∃er m',e=.returned (.int .i64 er)∧EpStep L.l L.ps m ⟨3,i,0,0,0,0⟩ er m'∧EpW w L K k wt (q+1) E D N m' W':=
 (h.s.post fun F hA=>ep_Copy W L m F (49*q) ⟨3,i,0,0,0,0⟩ rfl hA h.ok (by omega)).mono fun e W' he=>h.to hq he (fun h=>absurd h (by simp))
theorem EpW.next (h:EpW w L K k wt q E D N m W) (hq:q≤1000) :Calls Tryz.prog 26 #[.pointer (some ⟨L.g,0,none⟩)] W fun e W'=>∃er m',e=.returned (.int .i64 er)∧EpStep L.l L.ps m ⟨7,0,0,0,0,0⟩ er m'∧EpW w L K k wt (q+1) (gE ⟨7,0,0,0,0,0⟩ er E) (gD ⟨7,0,0,0,0,0⟩ er D) (gN ⟨7,0,0,0,0,0⟩ er N) m' W':=
 (h.s.post fun F hA=>ep_Next W L m F (49*q) ⟨7,0,0,0,0,0⟩ rfl hA h.ok).mono fun e W' he=>h.to hq he (fun h=>absurd h (by simp))
theorem EpW.put (h:EpW w L K k wt q E D N m W) (hq:q≤1000) (i x c:Int) :Calls Tryz.prog 13 #[.pointer (some ⟨L.g,0,none⟩),.int .i64 i,.int .i64 x,.int .i64 c] W fun e W'=>∃er m',e=.returned (.int .i64 er)∧EpStep L.l L.ps m ⟨0,i,x,c,0,0⟩ er m'∧EpW w L K k wt (q+1) E (gD ⟨0,i,x,c,0,0⟩ er D) (gN ⟨0,i,x,c,0,0⟩ er N) m' W':=
 (h.s.put h.ok ⟨0,i,x,c,0,0⟩ rfl).mono fun e W' he=>h.to hq he (fun h=>absurd h (by simp))
end
theorem press_BoundK (w:World) (k:Int) (h1:1≤k) (h2:k≤1048576) :Calls Tryz.prog 74 #[.int .i64 k] w fun e w'=>e=.returned (.int .i64 (4*k - 1))∧Below w.heap.size w w':=by
 have hw:wrap64 (4*k) =4*k:=by unfold wrap64;omega
 have hw2:wrap64 (4*k - 1) =4*k - 1:=by unfold wrap64;omega
 go_enter Tryz.func74,Tryz.ntmps74
 go_wp2_with fail;refine(press_may _ k h1 h2).mono ?_;rintro e w1 ⟨rfl,hb1⟩;have B1:Below w.heap.size w w1:=Below.then_ bE hb1;have s1:=B1.size;go_wp2_with fail;exact bR (v:=.int .i64 (4*k - 1)) (by simp only [results,Tryz.results74];go_simp) rfl ⟨rfl,B1⟩
theorem wire_BoundK (w:World) (n:Int) (h1:0≤n) (h2:n≤4194304) :Calls Tryz.prog 73 #[.int .i64 n] w fun e w'=>e=.returned (.int .i64 (32+18*n))∧Below w.heap.size w w':=by
 have hm:max n 0=n:=by omega
 have hm2:min n 1099511627776=n:=by omega
 have hw:wrap64 (18*n) =18*n:=by unfold wrap64;omega
 have hw2:wrap64 (32+18*n) =32+18*n:=by unfold wrap64;omega
 go_enter Tryz.func73,Tryz.ntmps73
 go_wp2_with fail;exact bR (v:=.int .i64 (32+18*n)) (by simp only [results,Tryz.results73];go_simp) rfl ⟨rfl,bE⟩
theorem plan_may (w:World) (k:Int) (h1:1≤k) (h2:k≤1048576) :Calls Tryz.prog 72 #[.int .i64 k] w fun e w'=>e=.returned (.bool true)∧Below w.heap.size w w':=by
 have h3:decide (k≤1048576) =true:=by simpa using h2
 go_enter Tryz.func72,Tryz.ntmps72
 go_wp2_with fail;go_ret;exact⟨ret_bool (by simp [h2]),bE⟩
def planB (k:Int) :Int:=96+18* (4*k - 1)
theorem plan_Bytes (w:World) (k:Int) (h1:1≤k) (h2:k≤1048576) :Calls Tryz.prog 33 #[.int .i64 k] w fun e w'=>e=.returned (.tuple #[.int .i64 (planB k),.bool true])∧Below w.heap.size w w':=by
 have HP:=LH (fun W=>press_BoundK W k h1 h2);have HW:=LH (fun W=>wire_BoundK W (4*k - 1) (by omega) (by omega));have hw:wrap64 (64+ (32+18* (4*k - 1))) =64+ (32+18* (4*k - 1)):=by unfold wrap64;omega
 have hp:64+ (32+18* (4*k - 1)) =planB k:=by unfold planB;omega
 go_enter Tryz.func33,Tryz.ntmps33
 go_wp2_with fail;refine(plan_may _ k h1 h2).mono ?_;rintro e w1 ⟨rfl,hb1⟩;have B1:Below w.heap.size w w1:=Below.then_ bE hb1;have s1:=B1.size;go_wp2_with fail;refine(HP.out _).mono ?_;rintro e w2 ⟨rfl,hb2⟩;have B2:=Below.then_ B1 hb2;go_wp2_with fail;refine(HW.out _).mono ?_;rintro e w3 ⟨rfl,hb3⟩;have B3:=Below.then_ B2 hb3;go_wp2_with fail;exact bR (v:=.tuple #[.int .i64 (64+ (32+18* (4*k - 1))),.bool true]) (by simp only [results,Tryz.results33];go_simp) rfl ⟨by rw [hp],B3⟩
theorem ltrT_size {x:Ltr} (h:rightL x=true) (he:x.e≤9223372036854775807) : (ltrT x).length≤44+x.b.length:=by
 unfold rightL at h;simp only [Bool.and_eq_true,decide_eq_true_eq] at h
 have hf:x.f<48:=by
  have:=h.1.1.2;unfold hasC isCrew at this;simp only [Bool.and_eq_true,decide_eq_true_eq] at this;omega
 have hc:=h.1.2;unfold rightC at hc;simp only [decide_eq_true_eq] at hc
 have h1:=putB_len (L:=ltrL x) (by
  intro z hz;unfold ltrL at hz;simp only [List.mem_cons,List.not_mem_nil,or_false] at hz;rcases hz with rfl|rfl|rfl|rfl <;> omega)
 have h2: (ltrL x).length=4:=rfl;unfold ltrT;rw [sealT_len];simp only [List.length_append,List.length_cons,List.length_nil];omega
def SzOk (k:Int) (s:WS) :Prop:=∀y∈s.items,(y.2.size:Int)≤planB k
section
variable {l K:Nat} {k wt:Int} {ps:List Int} {E:Int} {D:Nat→List Nd} {N:Nat→Int} {m m':EpM}
theorem OnStep.size (h:EpJ l K k wt ps E D N m) (hz:SzOk k m.wv) {i:Nat} (hs:OnStep l ps m i m') :SzOk k m'.wv:=by
 cases hs with
 |skip _ _=>exact hz
 | @send x pl r' hx hr hrun=>
  have hj:=h.s i x hx;have hsr:=(h.sr hx).run hrun;have hf:=(h.sr hx).fits;unfold sendM
  split
  ·exact hz
  ·intro y hy
   rcases send_items m.wv (ps.getD i 0,⟨(ltrT (senL l x.1 r')).toArray⟩) with e2| ⟨_,e2⟩
   ·have hy:y∈(m.wv.send (ps.getD i 0,⟨(ltrT (senL l x.1 r')).toArray⟩)).1.items:=hy
    rw [e2] at hy;exact hz y hy
   ·have hy:y∈(m.wv.send (ps.getD i 0,⟨(ltrT (senL l x.1 r')).toArray⟩)).1.items:=hy
    rw [e2] at hy;rcases List.mem_append.1 hy with hy|hy
    ·exact hz y hy
    ·rw [List.mem_singleton] at hy
     subst hy;have hR:=senL_right (r:=r') hj.ok h.l1 hsr.fits hsr.k.1 hsr.k.2 hsr.len
     have htl: (r'.length:Int)≤4*k - 1:=tight_len (r:=r') hsr.fits h.l1 (k:=k) h.k1.1 (fun p=>by
      have:=hrun.tight p
      rwa [hj.k_,←hrun.folded.sum hf] at this)
     have h1:=ltrT_size hR (by show x.1.ep≤_;have:=hj.ok.e1;omega);have h2: (senL l x.1 r').b.length≤36+18*r'.length:=wireT_len h.l1 hsr.fits hsr.k.1 hsr.k.2 hsr.len;have h3: (⟨(ltrT (senL l x.1 r')).toArray⟩ :ByteArray).size= (ltrT (senL l x.1 r')).length:=List.size_toArray ..;show ((⟨(ltrT (senL l x.1 r')).toArray⟩ :ByteArray).size:Int)≤planB k
     rw [h3];unfold planB;omega
theorem OnTo.size (h:EpJ l K k wt ps E D N m) (hz:SzOk k m.wv) {is:List Nat} (hs:OnTo l ps m is m') :SzOk k m'.wv:=by
 induction hs with
 |nil=>exact hz
 |snoc h1 h2 ih=>exact h2.size (h.on h1) ih
theorem EpStep.size (h:EpJ l K k wt ps E D N m) (hz:SzOk k m.wv) {o:Stp} {e:Int} (hs:EpStep l ps m o e m') (h4:o.kd≠4) :SzOk k m'.wv:=by
 cases hs with
 |put_no h1 h2=>exact hz
 |put h1 h2 hx hp=>exact hz
 |early h1 h2 h3 h4=>exact hz
 |take_no h1 h2 h3=>exact hz
 | @take q j y x s' r' m2 h1 h2 h3 hy hj hx hh ho=>
  have hl:=(h.w y (List.mem_of_getElem? hy)).1;have h5:EpJ l K k wt ps E D N ({m with wv:=m.wv.take q} :EpM):=h.wave fun z hz=>h.w z (take_mem hz);exact ho.size (h5.hear (x:=x) hx hl hh) fun z hz2=>hz z (take_mem hz2)
 |lose h1 h2=>exact fun z hz2=>hz z (lose_mem hz2)
 |copy h1 h2=>exact fun z hz2=>hz z (copy_mem hz2)
 |spoil h1 h2=>exact absurd h1 h4
 |late h1 h2=>exact hz
 |start h1 h2 ho=>exact ho.size (h.flag true) hz
 |next_no h1 h2=>exact hz
 |limit h1 h2 h3=>exact hz
 |next h1 h2 h3=>exact hz
 |tick h1 h2 ho=>exact ho.size h.tick hz
end
theorem ep_either (ps:List Int) (l k K wt ep:Int) :noEp ps l k K wt ep∨(rightG ps=true∧∃l' K':Nat,l=l'∧K=K'∧newS l' k K' (plcE ps wt 0) ep=true):=by
 unfold noEp
 cases h1:rightG ps
 ·exact .inl (.inl rfl)
 ·cases h2:newS l k K (plcE ps wt 0) ep
  ·exact .inl (.inr ⟨rfl,rfl⟩)
  ·right
   have h3:=h2;simp only [newS,isDig,isPool,Bool.and_eq_true,decide_eq_true_eq] at h3;obtain⟨l',rfl⟩:=Int.eq_ofNat_of_zero_le (show 0≤l by omega);obtain⟨K',rfl⟩:=Int.eq_ofNat_of_zero_le (show 0≤K by omega);exact⟨rfl,l',K',rfl,rfl,h2⟩
theorem at_item {s:WS} {i:Nat} (h:i<s.items.length) :s.at_ i= (s.items[i].1,s.items[i].2,true):=by
 have hh:s.has i=true:=by unfold WS.has;simp;exact h
 unfold WS.at_;rw [if_pos hh,Int.toNat_natCast,List.getD_eq_getElem?_getD,List.getElem?_eq_getElem h]
 rfl
theorem law_EpochBytes (ps:List Int) (A:Option Addr) (cap:Nat) (l k K wt ep:Int) (os:List Stp) (A2:Option Addr) (c2:Nat) (w:World) (hS:Sl w w.heap.size encZ A ps) (hI: ∀x∈ps,i64 x) (hm:ps.length≤maxLen) (wl:i64 l) (wk:i64 k) (wK:i64 K) (ww:i64 wt) (we:i64 ep) (hS2:Sl w w.heap.size encSt A2 os) (hO: ∀x∈os,StpOk x) (hm2:os.length≤maxLen) (hT:TabZ w) :
 Calls Tryz.prog 5 #[baseV A ps.length cap l k K wt ep,.slice A2 os.length c2] w fun e w'=>e=.returned (.bool true)∧Below w.heap.size w w':=by
 clear hI wl wk wK ww we;have HF:=LH (fun W=>law32_Few W A A2 ps.length cap os.length c2 l k K wt ep 100 hm hm2);have HAl:Hid (∀W,Below w.heap.size w W→Calls Tryz.prog 11 #[] W fun e w'=>e=.returned (.bool true)∧Below W.heap.size W w'):=LH fun W h=>law32_alive W (hT.below h);have b0:Below w.heap.size w (w.alloc (.cells #[.slice A ps.length cap,.int .i64 l,.int .i64 k,.int .i64 K,.int .i64 wt,.int .i64 ep] 26)):=bE;have k0:=LH (heap_alloc_new w (.cells #[.slice A ps.length cap,.int .i64 l,.int .i64 k,.int .i64 K,.int .i64 wt,.int .i64 ep] 26));have B0:=LH b0
 have HMade:Hid (∀W,Below w.heap.size w W→(noEp ps l k K wt ep∧Calls Tryz.prog 12 #[.agg #[.slice A ps.length cap,.int .i64 l,.int .i64 k,.int .i64 K,.int .i64 wt,.int .i64 ep]] W fun e w'=>e=.returned (.pointer none)∧Below W.heap.size W w')∨
  ∃l' K':Nat,(1≤k∧k≤1048576)∧Calls Tryz.prog 12 #[.agg #[.slice A ps.length cap,.int .i64 l,.int .i64 k,.int .i64 K,.int .i64 wt,.int .i64 ep]] W fun e w'=>∃L m,e=.returned (.pointer (some ⟨L.g,0,none⟩))∧L.ps=ps∧EpW W L K' k wt 0 ep (fun _=> []) (fun _=>0) m w'∧SzOk k m.wv):=LH fun W hb=>by
  rcases ep_either ps l k K wt ep with h| ⟨hR,l',K',rfl,rfl,hN⟩
  ·exact .inl ⟨h,law32_made_no W A cap ps l k K wt ep (hS.keep hb.size fun p hp=>hb.cell hp) (hT.below hb) hm h⟩
  ·have hk:1≤k∧k≤1048576:=by
    have h3:=hN;simp only [newS,isDig,isPool,Bool.and_eq_true,decide_eq_true_eq] at h3;omega
   refine .inr ⟨l',K',hk,(law32_made W A cap ps l' K' k wt ep (hS.keep hb.size fun p hp=>hb.cell hp) (hT.below hb) hR hN).mono ?_⟩;rintro e W' ⟨L,rfl,h1,h2,h3,h4⟩;exact⟨L,_,rfl,h2,EpW.new h1 h2 h3 hR hN,fun y hy=>by simp [epNew] at hy⟩
 have HS2:=LH hS2;have HO:=LH hO;unfold baseV at HF⊢;have hm2':os.length≤9223372036854775807:=Nat.le_trans hm2 (by decide);obtain⟨n,hnn⟩ : ∃n,n=ps.length:=⟨_,rfl⟩;have HNn:=LH hnn;rw [←hnn] at HF b0 k0 B0 HMade⊢;clear hS hm hS2 hO hm2 hT hnn b0;obtain⟨pc,hpc⟩ : ∃q,q=w.heap.size:=⟨_,rfl⟩
 go_enter Tryz.func5,Tryz.ntmps5
 go_upto_region 1 with fail;rw [←hpc] at k0⊢;clear hpc;generalize w.alloc (.cells #[.slice A n cap,.int .i64 l,.int .i64 k,.int .i64 K,.int .i64 wt,.int .i64 ep] 26) =W0 at k0 B0⊢;have cc:=bC k0.out;have zc:=lB k0.out
 cases hf:fewB n os.length 100 K l
 ·rw [hf] at HF
  go_wp2_with fail;refine(HF.out _).mono ?_;rintro e w1 ⟨rfl,hb1⟩;have B1:=LH (Below.then_ B0.out hb1);clear hb1;go_wp2_with fail;refine(HAl.out _ B1.out).mono ?_;rintro e w2 ⟨rfl,hb2⟩;have B2:=LH (Below.then_ B1.out hb2);clear hb2;go_wp2_with fail;exact bR (v:=.bool true) (by simp only [results,Tryz.results5];go_simp) rfl ⟨rfl,B2.out⟩
 ·rw [hf] at HF
  have hfew:n≤12∧os.length≤100:=by
   unfold fewB at hf;simp only [Bool.and_eq_true,decide_eq_true_eq] at hf;omega
  go_wp2_with fail;refine(HF.out _).mono ?_;rintro e w1 ⟨rfl,hb1⟩;have B1:=LH (Below.then_ B0.out hb1);have K1:=LH (bB k0.out hb1);clear hb1 cc zc;have cc:=bC K1.out;have zc:=lB K1.out;rcases HMade.out _ B1.out with ⟨_,hM⟩ | ⟨l',K',hk,hM⟩
  ·go_wp2_with fail
   refine hM.mono ?_;rintro e w2 ⟨rfl,hb2⟩;have B2:=LH (Below.then_ B1.out hb2);clear hb2 hM;go_wp2_with fail;refine(HAl.out _ B2.out).mono ?_;rintro e w3 ⟨rfl,hb3⟩;have B3:=LH (Below.then_ B2.out hb3);clear hb3;go_wp2_with fail;exact bR (v:=.bool true) (by simp only [results,Tryz.results5];go_simp) rfl ⟨rfl,B3.out⟩
  ·go_wp2_with fail
   refine hM.mono ?_;rintro e w2 ⟨L,m0,rfl,hLps,hW,hz⟩;have HW2:=LH hW;have HZ2:=LH hz;have K2:=LH ((hW.s.blw.block pc (lB K1.out)).trans K1.out);have HPl:=LH (fun W=>plan_Bytes W k hk.1 hk.2);have HLn:Hid (L.ps.length=n):=LH (by rw [hLps,HNn.out]);obtain⟨M,hM2⟩ : ∃M,M=planB k:=⟨_,rfl⟩;have hpb:M≤100000000:=by rw [hM2];unfold planB;omega
   have HSz:Hid (∀s,SzOk k s→∀y∈s.items,(y.2.size:Int)≤M):=LH fun s h y hy=>by rw [hM2];exact h y hy
   rw [←hM2] at HPl;clear hM hW hz cc zc hLps hM2;have cc:=bC K2.out;have zc:=lB K2.out;go_wp2_with fail;refine(HPl.out _).mono ?_;rintro e w3 ⟨rfl,hb3⟩;have HW3:=LH (HW2.out.below hb3);clear hb3 cc zc HW2 K2;go_wp2_with fail
   go_loopw [33] (fun i wr=>∃(q:Nat) (E:Int) (D:Nat→List Nd) (N:Nat→Int) (m:EpM),i=.int .i64 q∧q≤os.length∧EpW w1 L K' k wt q E D N m wr∧SzOk k m.wv) (fun i _=>os.length - (intOf i).toNat)
   case atStart=>exact⟨0,_,_,_,_,rfl,Nat.zero_le _,HW3.out,HZ2.out⟩
   case round=>
    obtain⟨q,E,D,N,m,rfl,hq,hE,hz⟩:=hrel;have KE:=LH hE;have KZ:=LH hz;have hBr:=Below.then_ B1.out hE.s.blw;have BR:=LH hBr;clear hE hz;by_cases hlt:q<os.length
    ·obtain⟨b,off,rfl,hbb,hcl⟩:=HS2.out.at_ hlt
     have ho:=HO.out _ (List.getElem_mem hlt);obtain⟨o,hoe⟩ : ∃o,o=os[q]:=⟨_,rfl⟩;rw [←hoe] at hcl ho;have d0:=(hBr.cell (p:=⟨b,off+q*6+0,none⟩) hbb).trans (hcl 0 (.int .i64 o.kd) rfl);have d1:=(hBr.cell (p:=⟨b,off+q*6+1,none⟩) hbb).trans (hcl 1 (.int .i64 o.i) rfl);have d2:=(hBr.cell (p:=⟨b,off+q*6+2,none⟩) hbb).trans (hcl 2 (.int .i64 o.x) rfl);have d3:=(hBr.cell (p:=⟨b,off+q*6+3,none⟩) hbb).trans (hcl 3 (.int .i64 o.w) rfl);have d4:=(hBr.cell (p:=⟨b,off+q*6+4,none⟩) hbb).trans (hcl 4 (.int .i64 o.at_) rfl);have d5:=(hBr.cell (p:=⟨b,off+q*6+5,none⟩) hbb).trans (hcl 5 (.int .u8 o.by_) rfl);simp only [Nat.add_zero] at d0;have zb:b<wr.heap.size:=by have:=hBr.size;omega
     have KA:=LH (fun ob=>KE.out.below ((Below.refl wr.heap.size wr).alloc (Nat.le_refl _) ob));clear hcl hoe hBr;by_cases h4:o.kd=4
     ·have h4d: (o.kd == 4) =true:=by simpa using h4
      have H4:=LH h4;clear h4;go_wp2_with fail;go_roundw
      case rel=>exact⟨q+1,E,D,N,m,by go_num,by omega,(KA.out _).more (by omega),KZ.out⟩
      case measure=>simp [intOf];omega
     ·have h4d: (o.kd == 4) =false:=by simpa using h4
      have HDo:=LH ((KA.out (.cells #[.int .i64 o.kd,.int .i64 o.i,.int .i64 o.x,.int .i64 o.w,.int .i64 o.at_,.int .u8 o.by_] 37)).do_ (by omega) o ho.2 h4);have HZs:Hid (∀er m',EpStep L.l L.ps m o er m'→SzOk k m'.wv):=LH fun er m' hs=>hs.size KE.out.j KZ.out h4;unfold Stp.v stepV at HDo;clear h4 KA;go_wp2_with fail;refine HDo.out.mono ?_;rintro e w4 ⟨er,m',rfl,hs,hW4⟩;have W4:=LH hW4;have Z4:=LH (HZs.out _ _ hs);have HFl:=LH hW4.s.flight;have hlen:=hW4.v.its;clear hs hW4 d0 d1 d2 d3 d4 d5 zb HDo HZs;go_wp2_with fail;refine HFl.out.mono ?_;rintro e w5 ⟨rfl,hb5⟩;have W5:=LH (W4.out.below hb5);clear hb5 HFl W4;go_wp2_with fail
      go_loopw [45] (fun i wi=>∃(j:Nat),i=.int .i64 j∧j≤m'.wv.items.length∧EpW w1 L K' k wt (q+1) (gE o er E) (gD o er D) (gN o er N) m' wi) (fun i _=>m'.wv.items.length - (intOf i).toNat)
      case atStart=>exact⟨0,rfl,Nat.zero_le _,W5.out⟩
      case round=>
       obtain⟨j,rfl,hj,hW6⟩:=hrel;have W6:=LH hW6;have K6:=LH ((hW6.s.blw.block pc (lB K1.out)).trans K1.out);clear hW6;by_cases hjl:j<m'.wv.items.length
       ·have HL6:=LH (W6.out.s.letter j)
        rw [at_item hjl] at HL6;have hit:=W6.out.v.it _ (List.getElem_mem hjl);have hsz:=HSz.out _ Z4.out _ (List.getElem_mem hjl);rw [HLn.out] at hit;generalize m'.wv.items[j] =y at HL6 hit hsz;obtain⟨y1,y2⟩:=y;unfold atV at HL6;dsimp only at HL6 hit hsz;have i0:decide (y1<0) =false:=by have:=hit.1;simp;exact this
        have i1:decide ((n:Int)≤y1) =false:=by have:=hit.2.1;simp;exact this
        have i2:decide (M< (y2.size:Int)) =false:=by simp;exact hsz
        have i3:y2.size≤1048700:=hit.2.2;clear hit hsz;go_wp2_with fail;refine HL6.out.mono ?_;rintro e w7 ⟨rfl,hb7⟩;have W7:=LH (W6.out.below hb7);have K7:=bB K6.out hb7;have cc:=bC K7;have zc:=lB K7;clear hb7 HL6 K7;go_wp2_with fail;go_roundw
        case rel=>exact⟨j+1,by go_num,by omega,W7.out⟩
        case measure=>simp [intOf];omega
       ·obtain rfl:j=m'.wv.items.length:=by omega
        go_wp2_with fail;go_roundw
        case rel=>exact⟨q+1,_,_,_,m',by go_num,by omega,W6.out,Z4.out⟩
        case measure=>simp [intOf];omega
    ·obtain rfl:q=os.length:=by omega
     go_wp2_with fail;refine(HAl.out _ BR.out).mono ?_;rintro e w9 ⟨rfl,hb9⟩;have B9:=LH (Below.then_ BR.out hb9);clear hb9;go_wp2_with fail;exact bR (v:=.bool true) (by simp only [results,Tryz.results5];go_simp) rfl ⟨rfl,B9.out⟩
def Ticked (n:Int) (m:EpM) :Prop:=∀x∈m.ss,n≤x.1.ti
def Still (m:EpM) :Prop:=∀(i:Nat) (x:SR),m.ss[i]? =some x→readyS x.1=false
section
variable {l K:Nat} {k wt:Int} {ps:List Int} {E:Int} {D:Nat→List Nd} {N:Nat→Int} {m m':EpM} {is:List Nat} {i j:Nat} {n:Int} {x:SR} {o:Stp} {e:Int}
theorem Ticked.zero (h: ∀x∈m.ss,SenOk x.1) :Ticked 0 m:=fun x hx=>(h x hx).t0
theorem Ticked.step (h:Ticked n m) (hs:OnStep l ps m i m') :Ticked n m':=by
 cases hs with
 |skip _ _=>exact h
 | @send x pl r' hx _ _=>
  intro y hy;rw [sendM_ss] at hy;rcases List.mem_or_eq_of_mem_set hy with hy|rfl
  ·exact h y hy
  ·exact h x (List.mem_of_getElem? hx)
theorem Ticked.on (h:Ticked n m) (hs:OnTo l ps m is m') :Ticked n m':=by
 induction hs with
 |nil=>exact h
 |snoc _ h2 ih=>exact ih.step h2
theorem sendM_st (l:Nat) (ps:List Int) (m:EpM) (i:Nat) (s:Sen) (r':List Nd) : (sendM l ps m i s r').st=m.st:=by unfold sendM;split <;> rfl
theorem OnStep.st (hs:OnStep l ps m i m') :m'.st=m.st:=by
 cases hs with
 |skip _ _=>rfl
 |send _ _ _=>exact sendM_st _ _ _ _ _ _
theorem OnTo.st (hs:OnTo l ps m is m') :m'.st=m.st:=by
 induction hs with
 |nil=>rfl
 |snoc _ h2 ih=>rw [h2.st,ih]
theorem OnTo.lens (hs:OnTo l ps m is m') :m'.ss.length=m.ss.length:=by
 induction hs with
 |nil=>rfl
 |snoc _ h2 ih=>rw [h2.len,ih]
theorem OnTo.still (hR:rightG ps=true) (hl:m.ss.length=ps.length) (hs:OnTo l ps m (orderG ps) m') :Still m':=fun i x hx=>by
 refine hs.quiet i ?_ x hx;have hi:=(List.getElem?_eq_some_iff.1 hx).1;rw [hs.lens,hl] at hi;exact(order_mem hR).2 hi
theorem Ticked.tick (h:Ticked n m) (hn: ∀x∈m.ss,n+1≤x.1.p.wait) :Ticked (n+1) {m with ss:=m.ss.map tickSR}:=fun y hy=>by
 obtain⟨x,hx,rfl⟩:=List.mem_map.1 hy;have h1:=h x hx;have h2:=hn x hx;show n+1≤(tickedS x.1).ti
 unfold tickedS
 split
 ·show n+1≤x.1.ti+1;omega
 ·omega
theorem EpJ.wait (h:EpJ l K k wt ps E D N m) (hx:x∈m.ss) :x.1.p.wait=wt:=by
 obtain⟨j,hj⟩:=List.getElem?_of_mem hx;have:=(h.s j x hj).p;rw [this]
theorem EpJ.wt1 (h:EpJ l K k wt ps E D N m) :1≤wt:=by
 have h1:=rightG_len h.tree;have h2:=h.len;have hx:m.ss[0]? =some (m.ss[0]'(by omega)):=List.getElem?_eq_getElem _;have h3:=(h.s 0 _ hx).ok.wait.2.1;rw [h.wait (List.mem_of_getElem? hx)] at h3;exact h3
theorem EpJ.sens (h:EpJ l K k wt ps E D N m) : ∀x∈m.ss,SenOk x.1:=fun x hx=>by
 obtain⟨j,hj⟩:=List.getElem?_of_mem hx;exact(h.s j x hj).ok
theorem EpJ.root (h:EpJ l K k wt ps E D N m) : ∃x,m.ss[rootG ps]? =some x:=by
 have h1:=rightG_root h.tree;have h2:=(List.getElem?_eq_some_iff.1 h1).1;exact⟨_,List.getElem?_eq_getElem (by rw [h.len];exact h2)⟩
theorem EpJ.done (h:EpJ l K k wt ps E D N m) (ht:Ticked wt m) (hq:Still m) :m.en=true:=by
 obtain⟨x,hx⟩:=h.root;refine h.en.2 ⟨x,hx,?_⟩;have h1:=hq _ x hx;have h2:=ht x (List.mem_of_getElem? hx);have h3:=h.wait (List.mem_of_getElem? hx);unfold readyS at h1
 cases hs:x.1.sent
 ·rw [hs] at h1
  have:decide (x.1.p.wait≤x.1.ti) =true:=by rw [decide_eq_true_eq,h3];exact h2
  rw [this] at h1;simp at h1
 ·rfl
theorem EpStep.tick_inv (h:EpStep l ps m o e m') (h0:o.kd=5) (hs:m.st=true) :e=0∧OnTo l ps {m with ss:=m.ss.map tickSR} (orderG ps) m':=by
 cases h with
 |put_no h1 h2=>omega
 |put h1=>omega
 |early h1 h2 h3 h4=>rw [hs] at h4;cases h4
 |take_no h1=>omega
 |take h1=>omega
 |lose h1=>omega
 |copy h1=>omega
 |spoil h1=>omega
 |late h1 h2=>omega
 |start h1=>omega
 |next_no h1=>omega
 |limit h1=>omega
 |next h1=>omega
 |tick h1 h2 h3=>exact⟨rfl,h3⟩
theorem EpStep.started (h:EpStep l ps m o e m') (h0:o.kd=6) :m'.st=true:=by
 cases hs:m.st
 ·have h1:=(h.start_inv h0 hs).2.st
  exact h1
 ·cases h with
  |put_no h1 h2=>omega
  |put h1=>omega
  |early h1 h2 h3 h4=>omega
  |take_no h1=>omega
  |take h1=>omega
  |lose h1=>omega
  |copy h1=>omega
  |spoil h1=>omega
  |late h1 h2=>exact hs
  |start h1 h2 h3=>rw [hs] at h2;cases h2
  |next_no h1=>omega
  |limit h1=>omega
  |next h1=>omega
  |tick h1=>omega
theorem EpStep.ticked (h:EpStep l ps m o e m') (h0:o.kd=5) (hs:m.st=true) (hj:EpJ l K k wt ps E D N m) (ht:Ticked n m) (hn:n+1≤wt) :e=0∧m'.st=true∧Ticked (n+1) m'∧Still m':=by
 obtain⟨rfl,h1⟩:=h.tick_inv h0 hs;refine⟨rfl,by rw [h1.st];exact hs,(ht.tick fun x hx=>by rw [hj.wait hx];exact hn).on h1,h1.still hj.tree ?_⟩
 simpa using hj.len
theorem UpIn.lt {c:Nat} (h:UpIn ps c i j) (hj:j<ps.length) :i<ps.length:=by
 cases h with
 |here _=>exact hj
 |up _ e _=>exact(List.getElem?_eq_some_iff.1 e).1
theorem eachL_mem {s j:Nat} :j∈eachL s↔j<48∧s.testBit j=true:=by
 unfold eachL;rw [List.mem_filter,List.mem_range]
theorem eachL_few {s n:Nat} (hn:n≤48) (h: ∀j,s.testBit j=true→j<n) : (eachL s).length≤n:=by
 have e:eachL s= (List.range n).filter fun j=>s.testBit j:=by
  unfold eachL;obtain⟨d,hd⟩ : ∃d,48=n+d:=⟨48 - n,by omega⟩;rw [hd,List.range_add,List.filter_append]
  have: ((List.range d).map (n+ ·)).filter (fun j=>s.testBit j) = []:=by
   rw [List.filter_eq_nil_iff];intro a ha hb;obtain⟨b,_,rfl⟩:=List.mem_map.1 ha;have:=h _ hb;omega
  rw [this,List.append_nil]
 rw [e];refine Nat.le_trans (List.length_filter_le _ _) ?_;simp
theorem EpJ.cover (h:EpJ l K k wt ps E D N m) (hx:m.ss[j]? =some x) : (∀i,x.1.cover.testBit i=true→i<ps.length)∧x.1.cover.testBit j=true:=by
 have hs:=h.s j x hx;have hj:=(List.getElem?_eq_some_iff.1 hx).1;rw [h.len] at hj;exact⟨fun i hi=>(hs.up i hi).lt hj,hs.me.1⟩
theorem lt_pow_bits {c n:Nat} (h: ∀i,c.testBit i=true→i<n) :c<2^n:=by
 apply Nat.lt_pow_two_of_testBit _
 intro i hi
 cases hb:c.testBit i
 ·rfl
 ·have:=h i hb;omega
theorem EpJ.coverLen (h:EpJ l K k wt ps E D N m) (hn:ps.length≤12) (hx:m.ss[j]? =some x) :x.1.cover<4096∧1≤(eachL x.1.cover).length∧(eachL x.1.cover).length≤ps.length:=by
 obtain⟨h1,h2⟩:=h.cover hx;refine⟨Nat.lt_of_lt_of_le (lt_pow_bits h1) (Nat.pow_le_pow_right (by decide) hn),?_,eachL_few (by omega) h1⟩;have:=(h.s j x hx).me.2;exact List.length_pos_of_mem (eachL_mem.2 ⟨this,h2⟩)
end
theorem ep_eitherE (ps:List Int) (l k K wt ep:Int) :noEp ps l k K wt ep∨(rightG ps=true∧∃l' K':Nat,l=l'∧K=K'∧newS l' k K' (plcE ps wt 0) ep=true):=by
 unfold noEp
 cases h1:rightG ps
 ·exact .inl (.inl rfl)
 ·cases h2:newS l k K (plcE ps wt 0) ep
  ·exact .inl (.inr ⟨rfl,rfl⟩)
  ·right
   have h3:=h2;simp only [newS,isDig,isPool,Bool.and_eq_true,decide_eq_true_eq] at h3;obtain⟨l',rfl⟩:=Int.eq_ofNat_of_zero_le (show 0≤l by omega);obtain⟨K',rfl⟩:=Int.eq_ofNat_of_zero_le (show 0≤K by omega);exact⟨rfl,l',K',rfl,rfl,h2⟩
def pop1 (x:Int) :Int:=IntKind.u64.wrap (bits .and .u64 (x / 2) 6148914691236517205+bits .and .u64 x 6148914691236517205)
def pop2 (x:Int) :Int:=IntKind.u64.wrap (bits .and .u64 (x / 4) 3689348814741910323+bits .and .u64 x 3689348814741910323)
def pop3 (x:Int) :Int:=bits .and .u64 (IntKind.u64.wrap (x / 16+x)) 1085102592571150095
def pop4 (x:Int) :Int:=IntKind.u64.wrap (x+x / 256)
def pop5 (x:Int) :Int:=IntKind.u64.wrap (x+x / 65536)
def pop6 (x:Int) :Int:=IntKind.u64.wrap (x+x / 4294967296)
def popV (x:Int) :Int:=bits .and .i64 (wrap64 (pop6 (pop5 (pop4 (pop3 (pop2 (pop1 x))))))) 127
theorem pop_all: ∀x:Fin 4096,popV (x.1:Int) = ((eachL x.1).length:Nat):=by decide+kernel
theorem ones64 (x:Nat) (hx:x<4096) (w:World) :Calls Tryz.prog 57 #[.int .u64 x] w fun e w'=>e=.returned (.int .i64 ((eachL x).length:Nat))∧w'=w:=by
 have hv:=pop_all ⟨x,hx⟩;dsimp only at hv;rw [←hv]
 go_enter Tryz.func57,Tryz.ntmps57
 go_wp2_with fail;go_ret;exact⟨rfl,rfl⟩
theorem crew_Len (s:Nat) (hs:s<4096) (w:World) :Calls Tryz.prog 21 #[.int .u64 s] w fun e w'=>e=.returned (.int .i64 ((eachL s).length:Nat))∧Below w.heap.size w w':=by
 have hand:bits BinOp.and IntKind.u64 (s:Int) 281474976710655= (s:Int):=by
  have h:=bits_and_u64_nat s 281474976710655 (by omega) (by decide)
  have e:s &&& 281474976710655=s:=by
   rw [show (281474976710655:Nat) =2^48 - 1 from rfl,Nat.and_two_pow_sub_one_eq_mod];exact Nat.mod_eq_of_lt (by omega)
  rw [e] at h;exact h
 have HO:=LH (ones64 s hs w);generalize (eachL s).length=n at*
 go_enter Tryz.func21,Tryz.ntmps21
 go_wp2_with (simp only [hand]);refine HO.out.mono ?_;rintro e w1 ⟨rfl,rfl⟩;go_wp2_with fail;exact bR (v:=.int .i64 n) (by simp only [results,Tryz.results21];go_simp) rfl ⟨rfl,bE⟩
theorem law_EpochEnds (ps:List Int) (A:Option Addr) (cap:Nat) (l k K wt ep:Int) (os:List Stp) (A2:Option Addr) (c2:Nat) (w:World) (hS:Sl w w.heap.size encZ A ps) (hI: ∀x∈ps,i64 x) (hm:ps.length≤maxLen) (wl:i64 l) (wk:i64 k) (wK:i64 K) (ww:i64 wt) (we:i64 ep) (hS2:Sl w w.heap.size encSt A2 os) (hO: ∀x∈os,StpOk x) (hm2:os.length≤maxLen) (hT:TabZ w) :
 Calls Tryz.prog 8 #[baseV A ps.length cap l k K wt ep,.slice A2 os.length c2] w fun e w'=>e=.returned (.bool true)∧Below w.heap.size w w':=by
 clear hI wl wk wK ww we;have HF:=LH (fun W=>law32_Few W A A2 ps.length cap os.length c2 l k K wt ep 60 hm hm2);have HAl:Hid (∀W,Below w.heap.size w W→Calls Tryz.prog 11 #[] W fun e w'=>e=.returned (.bool true)∧Below W.heap.size W w'):=LH fun W h=>law32_alive W (hT.below h);have b0:Below w.heap.size w (w.alloc (.cells #[.slice A ps.length cap,.int .i64 l,.int .i64 k,.int .i64 K,.int .i64 wt,.int .i64 ep] 26)):=bE;have k0:=LH (heap_alloc_new w (.cells #[.slice A ps.length cap,.int .i64 l,.int .i64 k,.int .i64 K,.int .i64 wt,.int .i64 ep] 26));have B0:=LH b0;have HLen:=LH crew_Len
 have HMade:Hid (∀W,Below w.heap.size w W→(noEp ps l k K wt ep∧Calls Tryz.prog 12 #[.agg #[.slice A ps.length cap,.int .i64 l,.int .i64 k,.int .i64 K,.int .i64 wt,.int .i64 ep]] W fun e w'=>e=.returned (.pointer none)∧Below W.heap.size W w')∨
  ∃l' K':Nat,Calls Tryz.prog 12 #[.agg #[.slice A ps.length cap,.int .i64 l,.int .i64 k,.int .i64 K,.int .i64 wt,.int .i64 ep]] W fun e w'=>∃L m,e=.returned (.pointer (some ⟨L.g,0,none⟩))∧L.ps=ps∧EpW W L K' k wt 0 ep (fun _=> []) (fun _=>0) m w'):=LH fun W hb=>by
  rcases ep_eitherE ps l k K wt ep with h| ⟨hR,l',K',rfl,rfl,hN⟩
  ·exact .inl ⟨h,law32_made_no W A cap ps l k K wt ep (hS.keep hb.size fun p hp=>hb.cell hp) (hT.below hb) hm h⟩
  ·refine .inr ⟨l',K',(law32_made W A cap ps l' K' k wt ep (hS.keep hb.size fun p hp=>hb.cell hp) (hT.below hb) hR hN).mono ?_⟩
   rintro e W' ⟨L,rfl,h1,h2,h3,h4⟩;exact⟨L,_,rfl,h2,EpW.new h1 h2 h3 hR hN⟩
 have HS2:=LH hS2;have HO:=LH hO;unfold baseV at HF⊢;have hm2':os.length≤9223372036854775807:=Nat.le_trans hm2 (by decide);obtain⟨n,hnn⟩ : ∃n,n=ps.length:=⟨_,rfl⟩;have HNn:=LH hnn;rw [←hnn] at HF b0 k0 B0 HMade⊢;clear hS hm hS2 hO hm2 hT hnn b0;obtain⟨pc,hpc⟩ : ∃q,q=w.heap.size:=⟨_,rfl⟩
 go_enter Tryz.func8,Tryz.ntmps8
 go_upto_region 1 with fail;rw [←hpc] at k0⊢;clear hpc;generalize w.alloc (.cells #[.slice A n cap,.int .i64 l,.int .i64 k,.int .i64 K,.int .i64 wt,.int .i64 ep] 26) =W0 at k0 B0⊢;have cc:=bC k0.out;have zc:=lB k0.out;by_cases hw50:50<wt
 ·have w50:decide (50<wt) =true:=by simpa using hw50
  clear hw50
  cases hf:fewB n os.length 60 K l
  ·rw [hf] at HF
   clear hf;go_wp2_with fail;refine(HF.out _).mono ?_;rintro e w1 ⟨rfl,hb1⟩;have B1:=LH (Below.then_ B0.out hb1);clear hb1 cc zc;go_wp2_with fail;refine(HAl.out _ B1.out).mono ?_;rintro e w2 ⟨rfl,hb2⟩;have B2:=LH (Below.then_ B1.out hb2);clear hb2;go_wp2_with fail;exact bR (v:=.bool true) (by simp only [results,Tryz.results8];go_simp) rfl ⟨rfl,B2.out⟩
  ·rw [hf] at HF
   clear hf;go_wp2_with fail;refine(HF.out _).mono ?_;rintro e w1 ⟨rfl,hb1⟩;have B1:=LH (Below.then_ B0.out hb1);have K1:=LH (bB k0.out hb1);clear hb1 cc zc;have cc:=bC K1.out;have zc:=lB K1.out;go_wp2_with fail;refine(HAl.out _ B1.out).mono ?_;rintro e w2 ⟨rfl,hb2⟩;have B2:=LH (Below.then_ B1.out hb2);clear hb2;go_wp2_with fail;exact bR (v:=.bool true) (by simp only [results,Tryz.results8];go_simp) rfl ⟨rfl,B2.out⟩
 have w50:decide (50<wt) =false:=by simpa using hw50
 have hwt:wt≤50:=by omega
 clear hw50;have HWt:=LH hwt;clear hwt
 cases hf:fewB n os.length 60 K l
 ·rw [hf] at HF
  go_wp2_with fail;refine(HF.out _).mono ?_;rintro e w1 ⟨rfl,hb1⟩;have B1:=LH (Below.then_ B0.out hb1);clear hb1;go_wp2_with fail;refine(HAl.out _ B1.out).mono ?_;rintro e w2 ⟨rfl,hb2⟩;have B2:=LH (Below.then_ B1.out hb2);clear hb2;go_wp2_with fail;exact bR (v:=.bool true) (by simp only [results,Tryz.results8];go_simp) rfl ⟨rfl,B2.out⟩
 ·rw [hf] at HF
  have hfew:n≤12∧os.length≤60:=by
   unfold fewB at hf;simp only [Bool.and_eq_true,decide_eq_true_eq] at hf;omega
  have HFe:=LH hfew;clear hf hfew;go_wp2_with fail;refine(HF.out _).mono ?_;rintro e w1 ⟨rfl,hb1⟩;have B1:=LH (Below.then_ B0.out hb1);have K1:=LH (bB k0.out hb1);clear hb1 cc zc;have cc:=bC K1.out;have zc:=lB K1.out;rcases HMade.out _ B1.out with ⟨_,hM⟩ | ⟨l',K',hM⟩
  ·go_wp2_with fail
   refine hM.mono ?_;rintro e w2 ⟨rfl,hb2⟩;have B2:=LH (Below.then_ B1.out hb2);clear hb2 hM;go_wp2_with fail;refine(HAl.out _ B2.out).mono ?_;rintro e w3 ⟨rfl,hb3⟩;have B3:=LH (Below.then_ B2.out hb3);clear hb3;go_wp2_with fail;exact bR (v:=.bool true) (by simp only [results,Tryz.results8];go_simp) rfl ⟨rfl,B3.out⟩
  ·go_wp2_with fail
   refine hM.mono ?_;rintro e w2 ⟨L,m0,rfl,hLps,hW⟩;have HW2:=LH hW;have HLn:Hid (L.ps.length=n):=LH (by rw [hLps,HNn.out]);have H1:=LH hW.j.wt1;clear hM hW cc zc hLps;go_wp2_with fail
   go_loopw [28] (fun i wr=>∃(q:Nat) (E:Int) (D:Nat→List Nd) (N:Nat→Int) (m:EpM),i=.int .i64 q∧q≤os.length∧EpW w1 L K' k wt q E D N m wr) (fun i _=>os.length - (intOf i).toNat)
   case atStart=>exact⟨0,_,_,_,_,rfl,Nat.zero_le _,HW2.out⟩
   case round=>
    obtain⟨q,E,D,N,m,rfl,hq,hE⟩:=hrel;have KE:=LH hE;have hBr:=Below.then_ B1.out hE.s.blw;have BR:=LH hBr;clear hE;by_cases hlt:q<os.length
    ·obtain⟨b,off,rfl,hbb,hcl⟩:=HS2.out.at_ hlt
     have ho:=HO.out _ (List.getElem_mem hlt);obtain⟨o,hoe⟩ : ∃o,o=os[q]:=⟨_,rfl⟩;rw [←hoe] at hcl ho;have d0:=(hBr.cell (p:=⟨b,off+q*6+0,none⟩) hbb).trans (hcl 0 (.int .i64 o.kd) rfl);have d1:=(hBr.cell (p:=⟨b,off+q*6+1,none⟩) hbb).trans (hcl 1 (.int .i64 o.i) rfl);have d2:=(hBr.cell (p:=⟨b,off+q*6+2,none⟩) hbb).trans (hcl 2 (.int .i64 o.x) rfl);have d3:=(hBr.cell (p:=⟨b,off+q*6+3,none⟩) hbb).trans (hcl 3 (.int .i64 o.w) rfl);have d4:=(hBr.cell (p:=⟨b,off+q*6+4,none⟩) hbb).trans (hcl 4 (.int .i64 o.at_) rfl);have d5:=(hBr.cell (p:=⟨b,off+q*6+5,none⟩) hbb).trans (hcl 5 (.int .u8 o.by_) rfl);simp only [Nat.add_zero] at d0;have zb:b<wr.heap.size:=by have:=hBr.size;omega
     have hq60:q≤60:=by have:=HFe.out;omega
     have HDo:=LH ((KE.out.below ((Below.refl wr.heap.size wr).alloc (Nat.le_refl _) (.cells #[.int .i64 o.kd,.int .i64 o.i,.int .i64 o.x,.int .i64 o.w,.int .i64 o.at_,.int .u8 o.by_] 37))).fair (by omega) o ho.2);unfold Stp.v stepV at HDo;clear hcl hoe hBr ho hq60;go_wp2_with fail;refine HDo.out.mono ?_;clear d0 d1 d2 d3 d4 d5 zb HDo;rintro e w4 (⟨rfl,hW4⟩ | ⟨er,m',rfl,hs,hW4⟩)
     ·have W4:=LH hW4
      clear hW4;go_wp2_with fail;go_roundw
      case rel=>exact⟨q+1,_,_,_,_,by go_num,by omega,W4.out.more (by omega)⟩
      case measure=>simp [intOf];omega
     ·have W4:=LH hW4
      clear hW4 hs;go_wp2_with fail;go_roundw
      case rel=>exact⟨q+1,_,_,_,_,by go_num,by omega,W4.out⟩
      case measure=>simp [intOf];omega
    ·obtain rfl:q=os.length:=by omega
     have HSt:=LH (KE.out.start (by have:=HFe.out;omega));go_wp2_with fail;refine HSt.out.mono ?_;rintro e w4 ⟨er,m1,rfl,hs,hW4⟩;have W4:=LH hW4;have hst:=hs.started rfl;have T4:Hid (m1.st=true∧Ticked 0 m1):=LH ⟨hst,Ticked.zero hW4.j.sens⟩;have K4:=LH ((hW4.s.blw.block pc (lB K1.out)).trans K1.out);clear hW4 hs HSt hst KE BR;have cc:=bC K4.out;have zc:=lB K4.out;go_wp2_with fail;clear cc zc
     go_loopw [40] (fun i wr=>∃(t:Nat) (m:EpM),i=.int .i64 t∧(t:Int)≤wt∧EpW w1 L K' k wt (os.length+1+t) E D N m wr∧m.st=true∧Ticked t m∧(t=0∨Still m)) (fun i _=>(wt - intOf i).toNat)
     case atStart=>exact⟨0,m1,rfl,by have:=H1.out;omega,W4.out,T4.out.1,T4.out.2,.inl rfl⟩
     case round=>
      obtain⟨t,m2,rfl,htw,hE2,hst,htk,hsl⟩:=hrel;have KE:=LH hE2;by_cases hlt: (t:Int) <wt
      ·have hdt:decide ((t:Int) <wt) =true:=by simpa using hlt
       have HTk:=LH (hE2.tick (by have:=HFe.out;have:=HWt.out;omega));have HX:Hid (∀er m3,EpStep L.l L.ps m2 ⟨5,0,0,0,0,0⟩ er m3→er=0∧m3.st=true∧Ticked ((t:Int) +1) m3∧Still m3):=LH fun er m3 hs=>hs.ticked rfl hst hE2.j htk (by omega);clear hE2 hst htk hsl;go_wp2_with fail;refine HTk.out.mono ?_;rintro e w5 ⟨er,m3,rfl,hs,hW5⟩;obtain⟨rfl,h1,h2,h3⟩:=HX.out _ _ hs;have W5:=LH hW5;have X5:Hid (m3.st=true∧Ticked ((t:Int) +1) m3∧Still m3):=LH ⟨h1,h2,h3⟩;clear hs hW5 h1 h2 h3 HTk HX;go_wp2_with fail;have hwr:wrap64 ((t:Int) +1) = ((t+1:Nat) :Int):=by have:=HWt.out;unfold wrap64;omega
       go_roundw
       case rel=>exact⟨t+1,m3,by rw [hwr],by omega,W5.out,X5.out.1,by push_cast;exact X5.out.2.1,.inr X5.out.2.2⟩
       case measure=>rw [hwr];simp [intOf];omega
      ·have hdt:decide ((t:Int) <wt) =false:=by simpa using hlt
       have htw': (t:Int) =wt:=by omega
       have hsl':=hsl.resolve_left (by have:=H1.out;omega);have hen:=hE2.j.done (by rw [←htw'];exact htk) hsl';obtain⟨x,hx⟩:=hE2.j.root;have hR:=hE2.j.tree;obtain⟨c1,c2,c3⟩:=hE2.j.coverLen (by rw [HLn.out];exact HFe.out.1) hx;rw [HLn.out] at c3;have HRs:=LH (hE2.s.result hR hen hx)
       have HEn:Hid (∀W,Below wr.heap.size wr W→Calls Tryz.prog 20 #[.pointer (some ⟨L.g,0,none⟩)] W fun e W'=>e=.returned (.bool true)∧Below W.heap.size W W'):=LH fun W hb=>by
        have:=(hE2.s.below hb).ended
        rwa [hen] at this
       have HLe:Hid (∀W,Calls Tryz.prog 21 #[.int .u64 x.1.cover] W fun e W'=>e=.returned (.int .i64 ((eachL x.1.cover).length:Nat))∧Below W.heap.size W W'):=LH fun W=>HLen.out _ c1 W;have K5:=LH ((hE2.s.blw.block pc (lB K1.out)).trans K1.out);have B5:=LH (Below.then_ B1.out hE2.s.blw);unfold ResPost at HRs;generalize x.1.cover=cv at HLe HRs c2 c3;generalize (eachL cv).length=z at HLe c2 c3;generalize x.1.k=kk at HRs;generalize x.2=rr at HRs;clear hE2 hst htk hsl hsl' hen hR hx c1 KE;have z1:decide ((1:Int)≤(z:Int)) =true:=by simp;omega
       have z2:decide ((z:Int)≤(n:Int)) =true:=by simp;omega
       have z3:decide (z≤n) =true:=by simp;omega
       have z4:decide (1≤z) =true:=by simp;omega
       have z5:decide (0<z) =true:=by simp;omega
       clear c2 c3;go_wp2_with fail;refine HRs.out.mono ?_;rintro e w5 ⟨g',F',rfl,_,_,hb5⟩;have K6:=LH (bB K5.out hb5);have B6:=LH (Below.then_ B5.out hb5);have HE6:=LH hb5;clear hb5 HRs K5 B5;have cc:=bC K6.out;have zc:=lB K6.out;go_wp2_with fail;refine rX (by kernel_rfl) (by kernel_rfl) ?_
       repeat (go_big_quiet_step (first
        | (go_at_call 20;exact quiet_ext (HEn.out _ (HE6.out.trans ((ext_below _ _).mono HE6.out.size))))
        | (go_at_call 21;exact quiet_ext (HLe.out _))
        | (go_at_call 11;exact quiet_ext (HAl.out _ (Below.extW B6.out _)))))
       refine wpQuiet_nil ?_;intro w7 hb7;have B7:=LH (Below.then_ B6.out (bX hb7));clear hb7;go_wp2_with fail;exact bR (v:=.bool true) (by simp only [results,Tryz.results8];go_simp) rfl ⟨rfl,B7.out⟩
def LOld (E:Int) (y:It) :Prop:=((decL y.2.data.toList).2≠0∨∃x,y.2.data.toList=ltrT x∧rightL x=true∧x.e<E)∧y.2.size≠0
theorem LOld.deaf {E:Int} {y:It} (h:LOld E y) (hE:E≤1099511627776) {l:Nat} {s:Sen} {r:List Nd} (hs:s.ep=E) :hearE l s r y.2.data.toList≠0:=by
 unfold hearE;rcases h.1 with h1| ⟨x,h1,h2,h3⟩
 ·rw [if_pos h1];exact h1
 ·have hd:decL y.2.data.toList= (x,0):=by rw [h1];exact decL_enc h2 (by omega)
  rw [hd];have hr:refusedE s x=17:=by unfold refusedE;rw [if_pos (by omega)]
  simp only [ne_eq,not_true_eq_false,if_false,hr];rw [if_pos (by decide)]
  decide
section
variable {l K:Nat} {k wt:Int} {ps:List Int} {E:Int} {D:Nat→List Nd} {N:Nat→Int} {m m':EpM} {is:List Nat} {i j:Nat} {n:Int} {x:SR} {o:Stp} {e:Int}
theorem OnTo.asleep (h:OnTo l ps m is m') (hs:Still m) :m'=m:=by
 induction h with
 |nil=>rfl
 | @snoc is m1 m2 i h1 h2 ih=>
  subst ih
  cases h2 with
  |skip _ _=>rfl
  |send h3 h4 _=>rw [hs _ _ h3] at h4;cases h4
theorem OnStep.items (h:OnStep l ps m i m') : ∃t,m'.wv.items=m.wv.items ++ t:=by
 cases h with
 |skip _ _=>exact⟨[],by simp⟩
 | @send x pl r' hx _ _=>
  unfold sendM
  split
  ·exact⟨[],by simp⟩
  ·rcases send_items m.wv (ps.getD i 0,⟨(ltrT (senL l x.1 r')).toArray⟩) with h| ⟨_,h⟩
   ·exact⟨[],by rw [List.append_nil];exact h⟩
   ·exact⟨_,h⟩
theorem OnTo.items (h:OnTo l ps m is m') : ∃t,m'.wv.items=m.wv.items ++ t:=by
 induction h with
 |nil=>exact⟨[],by simp⟩
 |snoc _ h2 ih=>
  obtain⟨t,ht⟩:=ih;obtain⟨u,hu⟩:=h2.items;exact⟨t ++ u,by rw [hu,ht,List.append_assoc]⟩
def Cov (c:Nat→Nat) (m:EpM) :Prop:=∀(i:Nat) (x:SR),m.ss[i]? =some x→x.1.cover=c i
theorem Cov.step {c:Nat→Nat} (h:Cov c m) (hs:OnStep l ps m i m') :Cov c m':=by
 cases hs with
 |skip _ _=>exact h
 | @send x pl r' hx _ _=>
  intro j y hy;rw [sendM_ss] at hy;by_cases e:i=j
  ·subst e
   rw [List.getElem?_set_self (List.getElem?_eq_some_iff.1 hx).1] at hy
   cases hy
   exact h i x hx
  ·rw [List.getElem?_set_ne e] at hy
   exact h j y hy
theorem Cov.on {c:Nat→Nat} (h:Cov c m) (hs:OnTo l ps m is m') :Cov c m':=by
 induction hs with
 |nil=>exact h
 |snoc _ h2 ih=>exact ih.step h2
theorem EpStep.next_inv (h:EpStep l ps m o e m') (h0:o.kd=7) (hs:m.en=true) : (e=21∧m'=m)∨(e=0∧m.E≠1099511627776∧m'= {ss:=m.ss.map nextSR,wv:=m.wv,st:=false,en:=false}):=by
 cases h with
 |put_no h1 h2=>omega
 |put h1=>omega
 |early h1 h2 h3 h4=>omega
 |take_no h1=>omega
 |take h1=>omega
 |lose h1=>omega
 |copy h1=>omega
 |spoil h1=>omega
 |late h1 h2=>omega
 |start h1 h2 h3=>omega
 |next_no h1 h2=>rw [hs] at h2;cases h2
 |limit h1=>exact .inl ⟨rfl,rfl⟩
 |next h1 h2 h3=>exact .inr ⟨rfl,h3,rfl⟩
 |tick h1=>omega
theorem EpStep.tick_early (h:EpStep l ps m o e m') (h0:o.kd=5) (hs:m.st=false) :e=22∧m'=m:=by
 cases h with
 |put_no h1 h2=>omega
 |put h1=>omega
 |early h1 h2 h3 h4=>exact⟨rfl,rfl⟩
 |take_no h1=>omega
 |take h1=>omega
 |lose h1=>omega
 |copy h1=>omega
 |spoil h1=>omega
 |late h1 h2=>omega
 |start h1 h2 h3=>omega
 |next_no h1 h2=>omega
 |limit h1=>omega
 |next h1=>omega
 |tick h1 h2 h3=>rw [hs] at h2;cases h2
structure Fresh (E:Int) (m:EpM) :Prop where
 st:m.st=false
 en:m.en=false
 w: ∀y∈m.wv.items,LOld E y
 c:Cov (fun i=>withC 0 (i:Int)) m
theorem EpJ.fresh_ {D':Nat→List Nd} {N':Nat→Int} (h:EpJ l K k wt ps E D N m) (h':EpJ l K k wt ps (E+1) D' N' {ss:=m.ss.map nextSR,wv:=m.wv,st:=false,en:=false}) (hE:m.E≠1099511627776) :Fresh (E+1) {ss:=m.ss.map nextSR,wv:=m.wv,st:=false,en:=false}:=by
 have hE:E≠1099511627776:=by rw [←h.epo];exact hE
 have hS: ∀j,¬SentA {ss:=m.ss.map nextSR,wv:=m.wv,st:=false,en:=false} j:=fun j ⟨x,h1,h2⟩=>by
  have h1: (m.ss.map nextSR)[j]? =some x:=h1;rw [List.getElem?_map] at h1;obtain⟨y,hy,rfl⟩:=Option.map_eq_some_iff.1 h1;have h3:=(h.s j y hy).ep;simp only [nextSR,nextS] at h2;rw [if_neg (by rw [h3];exact hE)] at h2
  cases h2
 refine⟨rfl,rfl,fun y hy=>⟨?_,(h'.w y hy).2⟩,fun i x hx=> ?_⟩
 ·cases (h'.w y hy).1 with
  |bad h=>exact .inl h
  |old x a b c=>exact .inr ⟨x,a,b,c⟩
  |now x j r a b c d e f g h1 h2=>exact absurd f (hS j)
 ·have hx: (m.ss.map nextSR)[i]? =some x:=hx
  rw [List.getElem?_map] at hx;obtain⟨y,hy,rfl⟩:=Option.map_eq_some_iff.1 hx;have h1:=h.s i y hy;have hep:y.1.ep≠1099511627776:=by rw [h1.ep];exact hE
  have e1:nextS y.1=senNew y.1.l y.1.k y.1.kd y.1.p (y.1.ep+1):=if_neg hep;show (nextS y.1).cover=_
  rw [e1];show withC 0 y.1.p.me=_
  rw [h1.p]
structure Olds (E:Int) (f:Nat) (m:EpM) :Prop where
 st:m.st=true
 still:Still m
 c:Cov (fun i=>withC 0 (i:Int)) m
 w: ∀q:Nat,q<f→∃y,m.wv.items[q]? =some y∧LOld E y
theorem Fresh.start (h:Fresh E m) (hR:rightG ps=true) (hl:m.ss.length=ps.length) (hs:EpStep l ps m o e m') (h0:o.kd=6) :e=0∧Olds E m.wv.items.length m':=by
 obtain⟨rfl,h1⟩:=hs.start_inv h0 h.st;refine⟨rfl,OnTo.st (m:={m with st:=true}) h1,OnTo.still (m:={m with st:=true}) hR hl h1,Cov.on (m:={m with st:=true}) h.c h1,fun q hq=> ?_⟩;obtain⟨t,ht⟩:=h1.items;exact⟨m.wv.items[q],by rw [ht];exact(List.getElem?_append_left hq).trans (List.getElem?_eq_getElem hq),h.w _ (List.getElem_mem hq)⟩
theorem Olds.deliver {f:Nat} (h:Olds E (f+1) m) (hj:EpJ l K k wt ps E D N m) {T:Nat} (hw:WvOk ps.length T m.wv) (hs:EpStep l ps m o e m') (h0:o.kd=1) (hi:o.i=0) :e≠0∧Olds E f m':=by
 obtain⟨y,hy,ho⟩:=h.w 0 (by omega);have hy1:=hw.it y (List.mem_of_getElem? hy);obtain⟨j,hjy⟩:=Int.eq_ofNat_of_zero_le hy1.1;have hjl:j<m.ss.length:=by have:=hy1.2.1;rw [hj.len];omega
 obtain⟨s',r',rfl,hh,hon⟩:=hs.take_inv (q:=0) (j:=j) (x:=m.ss[j]) h0 h.st hi hy hjy (List.getElem?_eq_getElem hjl);have hne:=ho.deaf hj.e1.2 (l:=l) (s:=m.ss[j].1) (r:=m.ss[j].2) (hj.s j _ (List.getElem?_eq_getElem hjl)).ep;refine⟨hne,?_⟩;rcases hh with ⟨_,rfl,rfl⟩ | ⟨h0,_⟩
 ·have e1: ({m with wv:=m.wv.take ((0:Nat) :Int)} :EpM).setS j (m.ss[j].1,m.ss[j].2) = {m with wv:=m.wv.take ((0:Nat) :Int)}:=EpM.set_same (x:=m.ss[j]) (List.getElem?_eq_getElem (l:=m.ss) hjl)
  rw [e1] at hon;have e2:=hon.asleep (m:={m with wv:=m.wv.take ((0:Nat) :Int)}) h.still;subst e2;refine⟨h.st,h.still,h.c,fun q hq=> ?_⟩;obtain⟨z,hz,hz2⟩:=h.w (q+1) (by omega);refine⟨z,?_,hz2⟩
  have hh:m.wv.has ((0:Nat) :Int) =true:=by
   have:=(List.getElem?_eq_some_iff.1 hy).1;unfold WS.has;simp;omega
  show (m.wv.take ((0:Nat) :Int)).items[q]? =some z
  unfold WS.take;rw [if_pos hh];show (m.wv.items.take (((0:Nat) :Int)).toNat ++ m.wv.items.drop ((((0:Nat) :Int)).toNat+1))[q]? =_
  simp only [Int.toNat_natCast,List.take_zero,List.nil_append,Nat.zero_add,List.getElem?_drop];rw [Nat.add_comm];exact hz
 ·exact absurd h0 hne
theorem EpJ.none_ (h:EpJ l K k wt ps E (fun _=> []) (fun _=>0) m) (hx:m.ss[i]? =some x) :sumR x.2=0:=by
 rw [(h.s i x hx).cov.sum fun j=>.nil l]
 have: ∀n,wsumN (fun _:Nat=>sumR []) x.1.cover n=0:=fun n=>by
  induction n with
  |zero=>rfl
  |succ n ih=>
   unfold wsumN;rw [ih]
   split <;> rfl
 exact this 48
end
theorem at_item0 {s:WS} {i:Nat} (h:i<s.items.length) :s.at_ i= (s.items[i].1,s.items[i].2,true):=by
 have hh:s.has i=true:=by unfold WS.has;simp;exact h
 unfold WS.at_;rw [if_pos hh,Int.toNat_natCast,List.getD_eq_getElem?_getD,List.getElem?_eq_getElem h]
 rfl
section
variable {w W W':World} {L:EpL} {K:Nat} {k wt:Int} {q:Nat} {E:Int} {D:Nat→List Nd} {N:Nat→Int} {m:EpM}
theorem EpW.next_ (h:EpW w L K k wt q E D N m W) (hq:q≤1000) (hen:m.en=true) :Calls Tryz.prog 26 #[.pointer (some ⟨L.g,0,none⟩)] W fun e W'=>(e=.returned (.int .i64 21)∧EpW w L K k wt (q+1) E D N m W')∨(e=.returned (.int .i64 0)∧∃m',EpW w L K k wt (q+1) (E+1) (fun _=> []) (fun _=>0) m' W'∧Fresh (E+1) m'):=by
 refine(h.next hq).mono ?_;rintro e W' ⟨er,m',rfl,hs,h'⟩;rcases hs.next_inv rfl hen with ⟨rfl,rfl⟩ | ⟨rfl,hE,rfl⟩
 ·obtain⟨e1,e2,e3⟩:=g_same (o:=⟨7,0,0,0,0,0⟩) (e:=21) (by simp) (by simp) D N E
  rw [e1,e2,e3] at h';exact .inl ⟨rfl,h'⟩
 ·have h2:EpW w L K k wt (q+1) (E+1) (fun _=> []) (fun _=>0) {ss:=m.ss.map nextSR,wv:=m.wv,st:=false,en:=false} W':=h'
  exact .inr ⟨rfl,_,h2,h.j.fresh_ h2.j hE⟩
end
theorem law_EpochLate (ps:List Int) (A:Option Addr) (cap:Nat) (l k K wt ep:Int) (os:List Stp) (A2:Option Addr) (c2:Nat) (w:World) (hS:Sl w w.heap.size encZ A ps) (hI: ∀x∈ps,i64 x) (hm:ps.length≤maxLen) (wl:i64 l) (wk:i64 k) (wK:i64 K) (ww:i64 wt) (we:i64 ep) (hS2:Sl w w.heap.size encSt A2 os) (hO: ∀x∈os,StpOk x) (hm2:os.length≤maxLen) (hT:TabZ w) :
 Calls Tryz.prog 4 #[baseV A ps.length cap l k K wt ep,.slice A2 os.length c2] w fun e w'=>e=.returned (.bool true)∧Below w.heap.size w w':=by
 clear hI wl wk wK ww we;have HF:=LH (fun W=>law32_Few W A A2 ps.length cap os.length c2 l k K wt ep 60 hm hm2);have HAl:Hid (∀W,Below w.heap.size w W→Calls Tryz.prog 11 #[] W fun e w'=>e=.returned (.bool true)∧Below W.heap.size W w'):=LH fun W h=>law32_alive W (hT.below h);have b0:Below w.heap.size w (w.alloc (.cells #[.slice A ps.length cap,.int .i64 l,.int .i64 k,.int .i64 K,.int .i64 wt,.int .i64 ep] 26)):=bE;have k0:=LH (heap_alloc_new w (.cells #[.slice A ps.length cap,.int .i64 l,.int .i64 k,.int .i64 K,.int .i64 wt,.int .i64 ep] 26));have B0:=LH b0
 have HMade:Hid (∀W,Below w.heap.size w W→(noEp ps l k K wt ep∧Calls Tryz.prog 12 #[.agg #[.slice A ps.length cap,.int .i64 l,.int .i64 k,.int .i64 K,.int .i64 wt,.int .i64 ep]] W fun e w'=>e=.returned (.pointer none)∧Below W.heap.size W w')∨
  ∃l' K':Nat,Calls Tryz.prog 12 #[.agg #[.slice A ps.length cap,.int .i64 l,.int .i64 k,.int .i64 K,.int .i64 wt,.int .i64 ep]] W fun e w'=>∃L m,e=.returned (.pointer (some ⟨L.g,0,none⟩))∧L.ps=ps∧EpW W L K' k wt 0 ep (fun _=> []) (fun _=>0) m w'):=LH fun W hb=>by
  rcases ep_eitherE ps l k K wt ep with h| ⟨hR,l',K',rfl,rfl,hN⟩
  ·exact .inl ⟨h,law32_made_no W A cap ps l k K wt ep (hS.keep hb.size fun p hp=>hb.cell hp) (hT.below hb) hm h⟩
  ·refine .inr ⟨l',K',(law32_made W A cap ps l' K' k wt ep (hS.keep hb.size fun p hp=>hb.cell hp) (hT.below hb) hR hN).mono ?_⟩
   rintro e W' ⟨L,rfl,h1,h2,h3,h4⟩;exact⟨L,_,rfl,h2,EpW.new h1 h2 h3 hR hN⟩
 have HS2:=LH hS2;have HO:=LH hO;unfold baseV at HF⊢;have hm2':os.length≤9223372036854775807:=Nat.le_trans hm2 (by decide);obtain⟨n,hnn⟩ : ∃n,n=ps.length:=⟨_,rfl⟩;have HNn:=LH hnn;rw [←hnn] at HF b0 k0 B0 HMade⊢;clear hS hm hS2 hO hm2 hT hnn b0;obtain⟨pc,hpc⟩ : ∃q,q=w.heap.size:=⟨_,rfl⟩
 go_enter Tryz.func4,Tryz.ntmps4
 go_upto_region 1 with fail;rw [←hpc] at k0⊢;clear hpc;generalize w.alloc (.cells #[.slice A n cap,.int .i64 l,.int .i64 k,.int .i64 K,.int .i64 wt,.int .i64 ep] 26) =W0 at k0 B0⊢;have cc:=bC k0.out;have zc:=lB k0.out;by_cases hw50:20<wt
 ·have w50:decide (20<wt) =true:=by simpa using hw50
  clear hw50
  cases hf:fewB n os.length 60 K l
  ·rw [hf] at HF
   clear hf;go_wp2_with fail;refine(HF.out _).mono ?_;rintro e w1 ⟨rfl,hb1⟩;have B1:=LH (Below.then_ B0.out hb1);clear hb1 cc zc;go_wp2_with fail;refine(HAl.out _ B1.out).mono ?_;rintro e w2 ⟨rfl,hb2⟩;have B2:=LH (Below.then_ B1.out hb2);clear hb2;go_wp2_with fail;exact bR (v:=.bool true) (by simp only [results,Tryz.results4];go_simp) rfl ⟨rfl,B2.out⟩
  ·rw [hf] at HF
   clear hf;go_wp2_with fail;refine(HF.out _).mono ?_;rintro e w1 ⟨rfl,hb1⟩;have B1:=LH (Below.then_ B0.out hb1);have K1:=LH (bB k0.out hb1);clear hb1 cc zc;have cc:=bC K1.out;have zc:=lB K1.out;go_wp2_with fail;refine(HAl.out _ B1.out).mono ?_;rintro e w2 ⟨rfl,hb2⟩;have B2:=LH (Below.then_ B1.out hb2);clear hb2;go_wp2_with fail;exact bR (v:=.bool true) (by simp only [results,Tryz.results4];go_simp) rfl ⟨rfl,B2.out⟩
 have w50:decide (20<wt) =false:=by simpa using hw50
 have hwt:wt≤20:=by omega
 clear hw50;have HWt:=LH hwt;clear hwt
 cases hf:fewB n os.length 60 K l
 ·rw [hf] at HF
  go_wp2_with fail;refine(HF.out _).mono ?_;rintro e w1 ⟨rfl,hb1⟩;have B1:=LH (Below.then_ B0.out hb1);clear hb1;go_wp2_with fail;refine(HAl.out _ B1.out).mono ?_;rintro e w2 ⟨rfl,hb2⟩;have B2:=LH (Below.then_ B1.out hb2);clear hb2;go_wp2_with fail;exact bR (v:=.bool true) (by simp only [results,Tryz.results4];go_simp) rfl ⟨rfl,B2.out⟩
 ·rw [hf] at HF
  have hfew:n≤12∧os.length≤60:=by
   unfold fewB at hf;simp only [Bool.and_eq_true,decide_eq_true_eq] at hf;omega
  have HFe:=LH hfew;clear hf hfew;go_wp2_with fail;refine(HF.out _).mono ?_;rintro e w1 ⟨rfl,hb1⟩;have B1:=LH (Below.then_ B0.out hb1);have K1:=LH (bB k0.out hb1);clear hb1 cc zc;have cc:=bC K1.out;have zc:=lB K1.out;rcases HMade.out _ B1.out with ⟨_,hM⟩ | ⟨l',K',hM⟩
  ·go_wp2_with fail
   refine hM.mono ?_;rintro e w2 ⟨rfl,hb2⟩;have B2:=LH (Below.then_ B1.out hb2);clear hb2 hM;go_wp2_with fail;refine(HAl.out _ B2.out).mono ?_;rintro e w3 ⟨rfl,hb3⟩;have B3:=LH (Below.then_ B2.out hb3);clear hb3;go_wp2_with fail;exact bR (v:=.bool true) (by simp only [results,Tryz.results4];go_simp) rfl ⟨rfl,B3.out⟩
  ·go_wp2_with fail
   refine hM.mono ?_;rintro e w2 ⟨L,m0,rfl,hLps,hW⟩;have HW2:=LH hW;have HLn:Hid (L.ps.length=n):=LH (by rw [hLps,HNn.out]);have H1:=LH hW.j.wt1;clear hM hW cc zc hLps;go_wp2_with fail
   go_loopw [36] (fun i wr=>∃(q:Nat) (E:Int) (D:Nat→List Nd) (N:Nat→Int) (m:EpM),i=.int .i64 q∧q≤os.length∧EpW w1 L K' k wt q E D N m wr) (fun i _=>os.length - (intOf i).toNat)
   case atStart=>exact⟨0,_,_,_,_,rfl,Nat.zero_le _,HW2.out⟩
   case round=>
    obtain⟨q,E,D,N,m,rfl,hq,hE⟩:=hrel;have KE:=LH hE;have hBr:=Below.then_ B1.out hE.s.blw;have BR:=LH hBr;clear hE;by_cases hlt:q<os.length
    ·obtain⟨b,off,rfl,hbb,hcl⟩:=HS2.out.at_ hlt
     have ho:=HO.out _ (List.getElem_mem hlt);obtain⟨o,hoe⟩ : ∃o,o=os[q]:=⟨_,rfl⟩;rw [←hoe] at hcl ho;have d0:=(hBr.cell (p:=⟨b,off+q*6+0,none⟩) hbb).trans (hcl 0 (.int .i64 o.kd) rfl);have d1:=(hBr.cell (p:=⟨b,off+q*6+1,none⟩) hbb).trans (hcl 1 (.int .i64 o.i) rfl);have d2:=(hBr.cell (p:=⟨b,off+q*6+2,none⟩) hbb).trans (hcl 2 (.int .i64 o.x) rfl);have d3:=(hBr.cell (p:=⟨b,off+q*6+3,none⟩) hbb).trans (hcl 3 (.int .i64 o.w) rfl);have d4:=(hBr.cell (p:=⟨b,off+q*6+4,none⟩) hbb).trans (hcl 4 (.int .i64 o.at_) rfl);have d5:=(hBr.cell (p:=⟨b,off+q*6+5,none⟩) hbb).trans (hcl 5 (.int .u8 o.by_) rfl);simp only [Nat.add_zero] at d0;have zb:b<wr.heap.size:=by have:=hBr.size;omega
     have hq60:q≤60:=by have:=HFe.out;omega
     have HDo:=LH ((KE.out.below ((Below.refl wr.heap.size wr).alloc (Nat.le_refl _) (.cells #[.int .i64 o.kd,.int .i64 o.i,.int .i64 o.x,.int .i64 o.w,.int .i64 o.at_,.int .u8 o.by_] 37))).fair (by omega) o ho.2);unfold Stp.v stepV at HDo;clear hcl hoe hBr ho hq60;go_wp2_with fail;refine HDo.out.mono ?_;clear d0 d1 d2 d3 d4 d5 zb HDo;rintro e w4 (⟨rfl,hW4⟩ | ⟨er,m',rfl,hs,hW4⟩)
     ·have W4:=LH hW4
      clear hW4;go_wp2_with fail;go_roundw
      case rel=>exact⟨q+1,_,_,_,_,by go_num,by omega,W4.out.more (by omega)⟩
      case measure=>simp [intOf];omega
     ·have W4:=LH hW4
      clear hW4 hs;go_wp2_with fail;go_roundw
      case rel=>exact⟨q+1,_,_,_,_,by go_num,by omega,W4.out⟩
      case measure=>simp [intOf];omega
    ·obtain rfl:q=os.length:=by omega
     have HSt:=LH (KE.out.start (by have:=HFe.out;omega));go_wp2_with fail;refine HSt.out.mono ?_;rintro e w4 ⟨er,m1,rfl,hs,hW4⟩;have W4:=LH hW4;have hst:=hs.started rfl;have T4:Hid (m1.st=true∧Ticked 0 m1):=LH ⟨hst,Ticked.zero hW4.j.sens⟩;have K4:=LH ((hW4.s.blw.block pc (lB K1.out)).trans K1.out);clear hW4 hs HSt hst KE BR;have cc:=bC K4.out;have zc:=lB K4.out;go_wp2_with fail;clear cc zc
     go_loopw [48] (fun i wr=>∃(t:Nat) (m:EpM),i=.int .i64 t∧(t:Int)≤wt∧EpW w1 L K' k wt (os.length+1+t) E D N m wr∧m.st=true∧Ticked t m∧(t=0∨Still m)) (fun i _=>(wt - intOf i).toNat)
     case atStart=>exact⟨0,m1,rfl,by have:=H1.out;omega,W4.out,T4.out.1,T4.out.2,.inl rfl⟩
     case round=>
      obtain⟨t,m2,rfl,htw,hE2,hst,htk,hsl⟩:=hrel;have KE:=LH hE2;by_cases hlt: (t:Int) <wt
      ·have hdt:decide ((t:Int) <wt) =true:=by simpa using hlt
       have HTk:=LH (hE2.tick (by have:=HFe.out;have:=HWt.out;omega));have HX:Hid (∀er m3,EpStep L.l L.ps m2 ⟨5,0,0,0,0,0⟩ er m3→er=0∧m3.st=true∧Ticked ((t:Int) +1) m3∧Still m3):=LH fun er m3 hs=>hs.ticked rfl hst hE2.j htk (by omega);clear hE2 hst htk hsl;go_wp2_with fail;refine HTk.out.mono ?_;rintro e w5 ⟨er,m3,rfl,hs,hW5⟩;obtain⟨rfl,h1,h2,h3⟩:=HX.out _ _ hs;have W5:=LH hW5;have X5:Hid (m3.st=true∧Ticked ((t:Int) +1) m3∧Still m3):=LH ⟨h1,h2,h3⟩;clear hs hW5 h1 h2 h3 HTk HX;go_wp2_with fail;have hwr:wrap64 ((t:Int) +1) = ((t+1:Nat) :Int):=by have:=HWt.out;unfold wrap64;omega
       go_roundw
       case rel=>exact⟨t+1,m3,by rw [hwr],by omega,W5.out,X5.out.1,by push_cast;exact X5.out.2.1,.inr X5.out.2.2⟩
       case measure=>rw [hwr];simp [intOf];omega
      ·have hdt:decide ((t:Int) <wt) =false:=by simpa using hlt
       have htw': (t:Int) =wt:=by omega
       have hsl':=hsl.resolve_left (by have:=H1.out;omega);have hen:=hE2.j.done (by rw [←htw'];exact htk) hsl';obtain⟨T0,hT0⟩ : ∃T0,T0=os.length+1+t:=⟨_,rfl⟩;have hT1:T0≤81:=by have:=HFe.out;have:=HWt.out;omega
       rw [←hT0] at KE hE2;have HTo:=LH hT1;have HNu:Hid (Calls Tryz.prog 25 #[.pointer (some ⟨L.g,0,none⟩)] wr fun e W'=>e=.returned (.int .i64 E)∧Below wr.heap.size wr W'):=LH (by have:=hE2.s.number hE2.j.tree;rwa [hE2.j.epo] at this);have HNx:Hid (∀W,Below wr.heap.size wr W→Calls Tryz.prog 26 #[.pointer (some ⟨L.g,0,none⟩)] W fun e W'=>(e=.returned (.int .i64 21)∧EpW w1 L K' k wt (T0+1) E D N m2 W')∨(e=.returned (.int .i64 0)∧∃m',EpW w1 L K' k wt (T0+1) (E+1) (fun _=> []) (fun _=>0) m' W'∧Fresh (E+1) m')):=LH fun W hb=>(KE.out.below hb).next_ (by omega) hen;have hEw:wrap64 (E+1) =E+1:=by have:=hE2.j.e1;unfold wrap64;omega
       clear hE2 hst htk hsl hsl' hen hT0 hT1 KE htw';go_wp2_with fail;refine HNu.out.mono ?_;rintro e w5 ⟨rfl,hb5⟩;have H5:=LH hb5;clear hb5 HNu;go_wp2_with fail;refine(HNx.out _ H5.out).mono ?_;clear HNx H5;rintro e w6 (⟨rfl,hW6⟩ | ⟨rfl,m3,hW6,hfr⟩)
       ·have B6:=LH (Below.then_ B1.out hW6.s.blw)
        clear hW6;go_wp2_with fail;refine(HAl.out _ B6.out).mono ?_;rintro e w7 ⟨rfl,hb7⟩;have B7:=LH (Below.then_ B6.out hb7);clear hb7;go_wp2_with fail;exact bR (v:=.bool true) (by simp only [results,Tryz.results4];go_simp) rfl ⟨rfl,B7.out⟩
       have W6:=LH hW6;have HR:Hid (rightG L.ps=true):=LH hW6.j.tree;have hNu:=hW6.s.number hW6.j.tree;rw [hW6.j.epo] at hNu;have HNu:=LH hNu;have hst3:=fun W hb=>(hW6.s.below (W':=W) hb).started;have hen3:=fun W hb=>(hW6.s.below (W':=W) hb).ended;rw [hfr.st] at hst3;rw [hfr.en] at hen3;have HS3:=LH hst3;have HE3:=LH hen3;have HTk3:=LH (fun W hb=>(hW6.below (W':=W) hb).tick (by have:=HTo.out;omega));have Fr:=LH hfr;clear hNu hst3 hen3 hfr hW6;go_wp2_with (simp only [hEw]);refine HNu.out.mono ?_;rintro e w7 ⟨rfl,hb7⟩;have B7:=LH hb7;clear hb7 HNu;go_wp2_with (simp only [hEw]);refine(HS3.out _ B7.out).mono ?_;rintro e w8 ⟨rfl,hb8⟩;have B8:=LH (Below.then_ B7.out hb8);clear hb8 HS3;go_wp2_with fail;refine(HE3.out _ B8.out).mono ?_;rintro e w9 ⟨rfl,hb9⟩;have B9:=LH (Below.then_ B8.out hb9);clear hb9 HE3;go_wp2_with fail;refine(HTk3.out _ B9.out).mono ?_;rintro e v1 ⟨er,m4,rfl,hs,hW⟩;obtain⟨rfl,rfl⟩:=hs.tick_early rfl Fr.out.st;have X1:=LH hW;have HFl:=LH hW.s.flight;have hf256:=hW.v.its
       have HSt:Hid (∀W,Below v1.heap.size v1 W→Calls Tryz.prog 15 #[.pointer (some ⟨L.g,0,none⟩)] W fun e W'=>e=.returned (.int .i64 0)∧∃m',EpW w1 L K' k wt (T0+3) (E+1) (fun _=> []) (fun _=>0) m' W'∧Olds (E+1) m4.wv.items.length m'):=LH fun W hb=>by
        refine((X1.out.below hb).start (by have:=HTo.out;omega)).mono ?_;rintro e W' ⟨er,m',rfl,hs,h'⟩;obtain⟨rfl,ho⟩:=Fr.out.start HR.out X1.out.j.len hs rfl;exact⟨rfl,m',h',ho⟩
       clear hs hW HTk3 W6 Fr B7 B8 B9;generalize m4.wv.items.length=f at HSt HFl hf256;have HFf:=LH hf256;clear hf256;go_wp2_with fail;refine HFl.out.mono ?_;rintro e v2 ⟨rfl,hb2⟩;have B2:=LH hb2;clear hb2 HFl;go_wp2_with fail;refine(HSt.out _ B2.out).mono ?_;rintro e v3 ⟨rfl,m5,hW,ho⟩;have X3:=LH hW;have O3:=LH ho;clear hW ho HSt B2 X1;go_wp2_with fail
       go_loopw [88] (fun i wr=>∃(t:Nat) (m:EpM),i=.int .i64 t∧t≤f∧EpW w1 L K' k wt (T0+3+t) (E+1) (fun _=> []) (fun _=>0) m wr∧Olds (E+1) (f - t) m) (fun i _=>f - (intOf i).toNat)
       case atStart=>exact⟨0,m5,rfl,Nat.zero_le _,X3.out,O3.out⟩
       case round=>
        obtain⟨t,m6,rfl,htf,hW,ho⟩:=hrel;have X6:=LH hW;by_cases hlt:t<f
        ·obtain⟨f',hf'⟩ : ∃f',f - t=f'+1:=⟨f - t - 1,by omega⟩
         rw [hf'] at ho;obtain⟨y,hy,hyo⟩:=ho.w 0 (by omega);have hl0:=(List.getElem?_eq_some_iff.1 hy).1;have hye:m6.wv.items[0] =y:=(List.getElem?_eq_some_iff.1 hy).2
         have HLt:Hid (Calls Tryz.prog 28 #[.pointer (some ⟨L.g,0,none⟩),.int .i64 0] wr fun e W'=>e=.returned (.tuple #[.int .i64 y.1,.string y.2,.bool true])∧Below wr.heap.size wr W'):=LH (by
          have h1:=hW.s.letter ((0:Nat) :Int);rw [at_item0 hl0,hye] at h1;exact h1)
         have HDl:Hid (∀W,Below wr.heap.size wr W→Calls Tryz.prog 18 #[.pointer (some ⟨L.g,0,none⟩),.int .i64 0] W fun e W'=>∃er,e=.returned (.int .i64 er)∧er≠0∧∃m',EpW w1 L K' k wt (T0+3+t+1) (E+1) (fun _=> []) (fun _=>0) m' W'∧Olds (E+1) f' m'):=LH fun W hb=>by
          refine((X6.out.below hb).deliver (by have:=HTo.out;have:=HFf.out;omega) 0).mono ?_;rintro e W' ⟨er,m',rfl,hs,h'⟩;obtain⟨h1,h2⟩:=ho.deliver X6.out.j X6.out.v hs rfl rfl;exact⟨er,rfl,h1,m',h',h2⟩
         have hz:=hyo.2;generalize y.1=y1 at HLt;generalize y.2=y2 at HLt hz
         have hz2:y2.toList.isEmpty=false:=by
          rw [ByteArray.toList_eq];have h1:y2.data.size≠0:=hz
          cases h2:y2.data.toList with
          |nil=>rw [←Array.length_toList,h2] at h1;exact absurd rfl h1
          |cons a t=>rfl
         clear hW ho hy hl0 hye hyo hz;go_wp2_with fail;refine HLt.out.mono ?_;rintro e w7 ⟨rfl,hb7⟩;have B7:=LH hb7;clear hb7 HLt;go_wp2_with fail;refine(HDl.out _ B7.out).mono ?_;rintro e w8 ⟨er,rfl,hne,m7,hW,ho⟩;have hn0: (er == 0) =false:=by simpa using hne
         have X8:=LH hW;have O8:=LH ho;clear hW ho HDl B7 hne;go_wp2_with fail;have hwr:wrap64 ((t:Int) +1) = ((t+1:Nat) :Int):=by have:=HFf.out;unfold wrap64;omega
         go_roundw
         case rel=>exact⟨t+1,m7,by rw [hwr],by omega,X8.out,by rw [show f - (t+1) =f' by omega];exact O8.out⟩
         case measure=>rw [hwr];simp [intOf];omega
        ·obtain rfl:t=f:=by omega
         have hcv:=ho.c
         have HCov:Hid (∀(i:Nat),i<n→∃x,m6.ss[i]? =some x∧x.1.cover=withC 0 (i:Int)∧sumR x.2=0∧x.1.k=k):=LH fun i hi=>by
          have hi2:i<m6.ss.length:=by rw [X6.out.j.len,HLn.out];exact hi
          exact⟨_,List.getElem?_eq_getElem hi2,hcv i _ (List.getElem?_eq_getElem hi2),X6.out.j.none_ (List.getElem?_eq_getElem hi2),(X6.out.j.s i _ (List.getElem?_eq_getElem hi2)).k_⟩
         have K5:=LH ((hW.s.blw.block pc (lB K1.out)).trans K1.out);clear hW ho hcv;have cc:=bC K5.out;have zc:=lB K5.out;go_wp2_with fail;clear cc zc
         go_loopw [107] (fun i wr=>∃(t1:Nat),i=.int .i64 t1∧t1≤n∧EpW w1 L K' k wt (T0+3+t) (E+1) (fun _=> []) (fun _=>0) m6 wr) (fun i _=>n - (intOf i).toNat)
         case atStart=>exact⟨0,rfl,Nat.zero_le _,X6.out⟩
         case round=>
          obtain⟨i,rfl,hin,hW⟩:=hrel;have Y:=LH hW;by_cases hlt2:i<n
          ·obtain⟨x,hx,hc,hs0,hk⟩:=HCov.out i hlt2
           have HCo:=LH (hW.s.cover HR.out hx);rw [hc] at HCo;have HDg:=LH (fun W hb=>(Y.out.s.below (W':=W) hb).digest HR.out hx);have HWi:=LH (fun W=>crew_With 0 (i:Int) (by decide) W)
           have HDN:Hid (∀W g' F',DigAt W g' L.K L.l x.1.k x.2 F'→Calls Tryz.prog 32 #[.pointer (some ⟨g',0,none⟩)] W fun e w'=>e=.returned (.int .i64 0)∧Below W.heap.size W w'):=LH fun W g' F' hd=>by
            have:=digest_N W g' L.K L.l x.1.k x.2 F' hd
            rwa [hs0] at this
           unfold EpDig at HDg;generalize withC 0 (i:Int) =cv at HCo HWi;generalize x.1.k=kk at HDg HDN;generalize x.2=rr at HDg HDN;clear hW hx hc hs0 hk;go_wp2_with fail;refine HCo.out.mono ?_;rintro e w7 ⟨rfl,hb7⟩;have B7:=LH hb7;clear hb7 HCo;go_wp2_with fail;refine(HDg.out _ B7.out).mono ?_;rintro e w8 ⟨g',F',rfl,hd,_,hb8⟩;have B8:=LH (Below.then_ B7.out hb8);have D8:=LH hd;clear hb8 HDg hd;go_wp2_with fail;refine(HWi.out _).mono ?_;rintro e w9 ⟨rfl,hb9⟩;have B9:=LH (Below.then_ B8.out hb9);have D9:=LH (D8.out.below hb9);clear hb9 HWi;go_wp2_with fail;refine(HDN.out _ _ _ D9.out).mono ?_;rintro e v1 ⟨rfl,hb1⟩;have Y1:=LH (Y.out.below (Below.then_ B9.out hb1));clear hb1 HDN;go_wp2_with fail;have hwr:wrap64 ((i:Int) +1) = ((i+1:Nat) :Int):=by have:=HFe.out;unfold wrap64;omega
           go_roundw
           case rel=>exact⟨i+1,by rw [hwr],by omega,Y1.out⟩
           case measure=>rw [hwr];simp [intOf];omega
          ·obtain rfl:i=n:=by omega
           have B9:=LH (Below.then_ B1.out hW.s.blw);clear hW;go_wp2_with fail;refine(HAl.out _ B9.out).mono ?_;rintro e w7 ⟨rfl,hb7⟩;have B7:=LH (Below.then_ B9.out hb7);clear hb7;go_wp2_with fail;exact bR (v:=.bool true) (by simp only [results,Tryz.results4];go_simp) rfl ⟨rfl,B7.out⟩
end Go.Proofs.YtmdidmclfbfmiaaGreatDoor
