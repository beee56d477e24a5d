/-
  Texts of this proof, one behind the other: Worst2, TopLaw, SheetLaw, Vary, Seal, SheetNum, Seal2, SheetThree, SheetNode, SheetDig, Builder, SheetText, SheetRd, SheetEnd, RangeSt, Rises, VaryLaw, Crew, Letter.
-/
import Derived.Laws.BitsLemmas
import Derived.Laws.IdiomStrings
import Derived.Laws.Concat
import Derived.RegionTactic
import Derived.ChangeAlike
import Derived.Test.YtapgmnnchbepiaaGreatShelf
import Derived.Deep.RegionWith
import Derived.Laws.Externs
import Derived.Shelf.Strings.BuilderK
import Derived.Deep.DeepCutAuto
import Derived.RangeFuncNested
import Derived.RangeFuncBound
import Derived.RangeFuncCalls
import Derived.RangeFuncLeaves
import Derived.Test.YtapgmnnchbepiaaGreatR1
import Derived.Test.YtapgmnnchbepiaaGreatR2
import Derived.Test.YtapgmnnchbepiaaGreatR3
import Derived.Test.YtapgmnnchbepiaaGreatR4
set_option linter.unusedVariables false
set_option linter.unusedSimpArgs false
set_option maxRecDepth 100000
set_option maxHeartbeats 16000000
namespace Go.Proofs.YtapgmnnchbepiaaGreat
open Go.ChangeShapes Go.WideShapes Go.ChangeAt Go.RowKit
@[go_sem] theorem run_store_func (P:Program) (w:World) (a:Addr) (m:Mode) (f:Fn) (ts:Array Value) (cs:Array Value) : (store a (.func f ts cs) m).run P w=stored P w a (.func f ts cs) m:=run_store P w a _ m rfl
def gapAt (l:Int) (r:List Nd) (x:Int) :Int:=highOf l r x - lowOf l r x
def worstPre (l:Int) (r:List Nd) (p:List Nd) :Int×Int:=p.foldl (fun a x=>worstStep a (endsOf l x.1).1 (gapAt l r (endsOf l x.1).1)) (worstStep (0,0) 0 (gapAt l r 0))
theorem worstPre_succ {l:Int} {r:List Nd} {q:Nat} (h:q<r.length) :worstPre l r (r.take (q+1)) =worstStep (worstPre l r (r.take q)) (endsOf l r[q].1).1 (gapAt l r (endsOf l r[q].1).1):=by
 unfold worstPre;rw [List.take_succ_eq_append_getElem h,List.foldl_append];rfl
theorem bound_Worst2 (w:World) (lo hi c:Int) (bt bg bx bf:Nat) (R:World→Prop) (hf:w.heap[bf]? =some (.cells #[.func (.func 50) #[] #[.pointer (some ⟨bt,0,none⟩),.pointer (some ⟨bg,0,none⟩),.pointer (some ⟨bx,0,none⟩)]] 119 (0,0)))
 (hC:Calls Tryz.prog 50 #[.int .i64 lo,.pointer (some ⟨bt,0,none⟩),.pointer (some ⟨bg,0,none⟩),.pointer (some ⟨bx,0,none⟩)] w fun e w'=>e=.returned (.tuple #[])∧R w') :
 Calls Tryz.prog 53 #[.int .i64 lo,.int .i64 hi,.int .i64 c,.pointer (some ⟨bf,0,none⟩)] w fun e w'=>e=.returned (.tuple #[])∧R w':=by
 have cf:=bC hf;have zf:=lB hf;have HC:=LH hC;clear hf hC
 go_enter Tryz.func53,Tryz.ntmps53
 go_wp2_with fail;refine HC.out.mono ?_;rintro e w1 ⟨rfl,hR⟩;have HR:=LH hR;clear hR;go_wp2_with fail
 go_end0
 exact⟨rfl,HR.out⟩
structure WorstI (w:World) (l:Int) (r lt ft:List Nd) (L B g bt bg bx bf:Nat) (q:Nat) (W:World) :Prop where
 blw:Below w.heap.size w W
 x:intAt W bx (worstPre l r (r.take q)).1
 gp:intAt W bg (worstPre l r (r.take q)).2
 t:W.heap[bt]? =some (.cells #[.pointer (some ⟨g,0,none⟩)] 37 (0,0))
 f:W.heap[bf]? =some (.cells #[.func (.func 50) #[] #[.pointer (some ⟨bt,0,none⟩),.pointer (some ⟨bg,0,none⟩),.pointer (some ⟨bx,0,none⟩)]] 119 (0,0))
 tab:TabAt W L B g (sumR r) lt ft
theorem worstI_stays (w:World) (l:Int) (r lt ft:List Nd) (L B g bt bg bx bf:Nat) (hB: ∀W q,WorstI w l r lt ft L B g bt bg bx bf q W→B≤W.heap.size) :Stays (WorstI w l r lt ft L B g bt bg bx bf):=
 ⟨fun q W W' h hb=>⟨h.blw.trans (hb.mono h.blw.size),h.x.below hb,h.gp.below hb,bB h.t hb,bB h.f hb,h.tab.below (hb.mono (hB W q h))⟩⟩
theorem gap_range {l:Int} {r:List Nd} (h:Roll r) (hs:sumR r≤72057594037927935) (x:Int) : -72057594037927936≤gapAt l r x∧gapAt l r x≤72057594037927936:=by
 have h1:=weighR_le (l:=l) (f:=fun _ hi=>decide (hi≤x)) h;have h2:=weighR_le (l:=l) (f:=fun lo _=>decide (lo≤x)) h;unfold gapAt highOf lowOf;omega
theorem try_at (w:World) (l:Int) (r lt ft:List Nd) (L B g:Nat) (at_ x gp:Int) (bt bg bx:Nat) (hr:Roll r) (hs:sumR r≤72057594037927935) (hn:r.length≤67108864) (htl:Tab (lastL l r) lt) (htf:Tab (firstL l r) ft) (hl1:lt.length≤r.length) (hl2:ft.length≤r.length)
 (hT:TabAt w L B g (sumR r) lt ft) (hBw:B≤w.heap.size) (ht:w.heap[bt]? =some (.cells #[.pointer (some ⟨g,0,none⟩)] 37 (0,0))) (hg:intAt w bg gp) (hx:intAt w bx x) (hne:bg≠bx) :
 Calls Tryz.prog 50 #[.int .i64 at_,.pointer (some ⟨bt,0,none⟩),.pointer (some ⟨bg,0,none⟩),.pointer (some ⟨bx,0,none⟩)] w fun e w'=>e=.returned (.tuple #[])∧TryEnd w bx bg (worstStep (x,gp) at_ (gapAt l r at_)) w':=by
 have e:upT ft at_ - upT lt at_=gapAt l r at_:=by rw [htl.upT,htf.upT,low_up,high_up];rfl
 have hb:=gap_range (l:=l) hr hs at_;have:=bound_try w L B g (sumR r) lt ft at_ x gp bt bg bx hT hBw (by omega) htl.rise (by omega) htf.rise ht hg hx hne (by rw [e];exact hb.1) (by rw [e];exact hb.2)
 rwa [e] at this
def worstT (l:Int) (r:List Nd) :Int×Int×Int:=if sumR r=0 then (0,0,7) else ((worstPre l r r).1,(worstPre l r r).2,0)
def triV (t:Int×Int×Int) :Value:=.tuple #[.int .i64 t.1,.int .i64 t.2.1,.int .i64 t.2.2]
theorem enters_Worst2: ∀args W,(callFunc 53 args).run Tryz.prog W=.ok (.enter 53 args) W:=enters_of Tryz.func53 (by kernel_rfl) rfl
theorem bound_Worst (w:World) (g K l:Nat) (k:Int) (r:List Nd) (F:Nat→Prop) (h:DigAt w g K l k r F) (hn:r.length≤67108864) :
 Calls Tryz.prog 17 #[.pointer (some ⟨g,0,none⟩)] w fun e w'=>e=.returned (triV (worstT l r))∧Below w.heap.size w w':=by
 have HD:=LH ((h.alloc (.cells #[.int .i64 0] 3)).alloc (.cells #[.int .i64 0] 3));have HW:=LH (bound_wrong · g K l k r F ·);have hfit:=h.fits;have HF:=LH h.lt;clear h;unfold triV worstT;unfold wrongOf at HW;by_cases hN:sumR r=0
 ·rw [if_pos hN]
  rw [if_pos hN] at HW;clear hN
  go_enter Tryz.func17,Tryz.ntmps17
  go_wp2_with fail;refine(HW.out _ HD.out).mono ?_;rintro e w1 ⟨rfl,hb1⟩;have B1:Below w.heap.size w w1:=Below.then_ bE hb1;have s1:=B1.size;have z1_0:w.heap.size<w1.heap.size:=by have:=hb1.size;(try simp at this);omega
  have y1_0:w.heap.size≤w1.heap.size:=Nat.le_of_lt z1_0;have c1_0:=czB hb1 (w.heap.size);have f1_0:=fzB hb1 (w.heap.size);have z1_1:w.heap.size+1<w1.heap.size:=by have:=hb1.size;(try simp at this);omega
  have y1_1:w.heap.size+1≤w1.heap.size:=Nat.le_of_lt z1_1;have c1_1:=czB hb1 (w.heap.size+1);have f1_1:=fzB hb1 (w.heap.size+1);go_wp2_with fail;exact bR (v:=.tuple #[.int .i64 0,.int .i64 0,.int .i64 7]) (by simp only [results,Tryz.results17];go_simp) rfl ⟨rfl,bE⟩
 ·rw [if_neg hN]
  rw [if_neg hN] at HW;clear hN;have X0:=LH (show intAt ((w.alloc (.cells #[.int .i64 0] 3)).alloc (.cells #[.int .i64 0] 3)) w.heap.size 0 from(show intAt (w.alloc (.cells #[.int .i64 0] 3)) w.heap.size 0 from heap_alloc_new _ _).alloc _);have G0:=LH (show intAt ((w.alloc (.cells #[.int .i64 0] 3)).alloc (.cells #[.int .i64 0] 3)) (w.heap.size+1) 0 from heap_new_at _ _ _ (by simp))
  go_enter Tryz.func17,Tryz.ntmps17
  go_wp2_with fail;refine(HW.out _ HD.out).mono ?_;rintro e w1 ⟨rfl,hb1⟩;have B1:Below w.heap.size w w1:=Below.then_ bE hb1;have s1:=B1.size;have z1_0:w.heap.size<w1.heap.size:=by have:=hb1.size;(try simp at this);omega
  have y1_0:w.heap.size≤w1.heap.size:=Nat.le_of_lt z1_0;have c1_0:=czB hb1 (w.heap.size);have f1_0:=fzB hb1 (w.heap.size);have z1_1:w.heap.size+1<w1.heap.size:=by have:=hb1.size;(try simp at this);omega
  have y1_1:w.heap.size+1≤w1.heap.size:=Nat.le_of_lt z1_1;have c1_1:=czB hb1 (w.heap.size+1);have f1_1:=fzB hb1 (w.heap.size+1);have HD1:=LH (HD.out.below hb1);have X1:=LH (X0.out.below hb1);have G1:=LH (G0.out.below hb1);go_wp2_with fail;refine(rank_Of _ g K l k r F HD1.out hn).mono ?_;rintro e w2 ⟨tg,lt,ft,rfl,htab,htl,htf,hl1,hl2,hb2⟩;have B2:Below w.heap.size w w2:=Below.then_ bE hb2;have s2:=B2.size;have X2:=LH (X1.out.below hb2);have G2:=LH (G1.out.below hb2);have HD2:=LH (HD1.out.below hb2);have HT:=LH htab;have HTL:=LH htl;have HTF:=LH htf;have hs1:w.heap.size+1<w1.heap.size:=z1_1;have hs12:=hb2.size;have BA2:=LH B2;clear htab htl htf c1_0 c1_1 f1_0 f1_1;go_wp2_with fail;have T3:=LH (HT.out.below ((Below.refl w2.heap.size w2).alloc (Nat.le_refl _) (.cells #[.pointer (some ⟨tg,0,none⟩)] 37) |>.alloc (by simp) (.cells #[.func (.func 50) #[] #[.pointer (some ⟨w2.heap.size,0,none⟩),.pointer (some ⟨w.heap.size+1,0,none⟩),.pointer (some ⟨w.heap.size,0,none⟩)]] 119)));have P3:=LH ((Below.heap_alloc (w2.alloc (.cells #[.pointer (some ⟨tg,0,none⟩)] 37)) (.cells #[.func (.func 50) #[] #[.pointer (some ⟨w2.heap.size,0,none⟩),.pointer (some ⟨w.heap.size+1,0,none⟩),.pointer (some ⟨w.heap.size,0,none⟩)]] 119) w2.heap.size (by simp)).trans (heap_alloc_new w2 _));have Q3:=LH (heap_new_at (w2.alloc (.cells #[.pointer (some ⟨tg,0,none⟩)] 37)) (.cells #[.func (.func 50) #[] #[.pointer (some ⟨w2.heap.size,0,none⟩),.pointer (some ⟨w.heap.size+1,0,none⟩),.pointer (some ⟨w.heap.size,0,none⟩)]] 119) (w2.heap.size+1) (by simp));have hszW: ((w2.alloc (.cells #[.pointer (some ⟨tg,0,none⟩)] 37)).alloc (.cells #[.func (.func 50) #[] #[.pointer (some ⟨w2.heap.size,0,none⟩),.pointer (some ⟨w.heap.size+1,0,none⟩),.pointer (some ⟨w.heap.size,0,none⟩)]] 119)).heap.size=w2.heap.size+1+1:=by simp
  have B3:=LH (BA2.out.alloc s2 (.cells #[.pointer (some ⟨tg,0,none⟩)] 37) |>.alloc (by simp;omega) (.cells #[.func (.func 50) #[] #[.pointer (some ⟨w2.heap.size,0,none⟩),.pointer (some ⟨w.heap.size+1,0,none⟩),.pointer (some ⟨w.heap.size,0,none⟩)]] 119));have X3:=LH ((X2.out.alloc (.cells #[.pointer (some ⟨tg,0,none⟩)] 37)).alloc (.cells #[.func (.func 50) #[] #[.pointer (some ⟨w2.heap.size,0,none⟩),.pointer (some ⟨w.heap.size+1,0,none⟩),.pointer (some ⟨w.heap.size,0,none⟩)]] 119));have G3:=LH ((G2.out.alloc (.cells #[.pointer (some ⟨tg,0,none⟩)] 37)).alloc (.cells #[.func (.func 50) #[] #[.pointer (some ⟨w2.heap.size,0,none⟩),.pointer (some ⟨w.heap.size+1,0,none⟩),.pointer (some ⟨w.heap.size,0,none⟩)]] 119));have HD3:=LH ((HD2.out.alloc (.cells #[.pointer (some ⟨tg,0,none⟩)] 37)).alloc (.cells #[.func (.func 50) #[] #[.pointer (some ⟨w2.heap.size,0,none⟩),.pointer (some ⟨w.heap.size+1,0,none⟩),.pointer (some ⟨w.heap.size,0,none⟩)]] 119));generalize (w2.alloc (.cells #[.pointer (some ⟨tg,0,none⟩)] 37)).alloc (.cells #[.func (.func 50) #[] #[.pointer (some ⟨w2.heap.size,0,none⟩),.pointer (some ⟨w.heap.size+1,0,none⟩),.pointer (some ⟨w.heap.size,0,none⟩)]] 119) =W3 at T3 P3 Q3 B3 X3 G3 HD3 hszW⊢;refine(try_at W3 l r lt ft _ _ tg 0 0 0 w2.heap.size (w.heap.size+1) w.heap.size hfit.roll hfit.sum hn HTL.out HTF.out hl1 hl2 T3.out (by omega) P3.out G3.out X3.out (by omega)).mono ?_;rintro e w4 ⟨rfl,x4,g4,k4,b4,o4⟩
  have I4:Hid (WorstI w l r lt ft w1.heap.size w2.heap.size tg w2.heap.size (w.heap.size+1) w.heap.size (w2.heap.size+1) 0 w4):=LH
   ⟨B3.out.trans (b4 _ (Nat.le_refl _) (by omega) (by omega)),x4,g4,(o4 _ (by omega) (by omega) (by omega)).trans P3.out,(o4 _ (by omega) (by omega) (by omega)).trans Q3.out,T3.out.keep fun b h1 h2=>o4 b (by omega) (by omega) (by omega)⟩
  have hsz4:w2.heap.size+1+1≤w4.heap.size:=by have:=(b4 0 (Nat.zero_le _) (Nat.zero_le _) (Nat.zero_le _)).size;omega
  have D4:Hid (DigAt w4 g K l k r F):=LH (HD3.out.keep fun b hb=>o4 b (by have:=HF.out b hb;omega) (by have:=HF.out b hb;omega) (by have:=HF.out b hb;omega));clear x4 g4 k4 b4 o4;go_wp2_with fail
  have hB: ∀W q,WorstI w l r lt ft w1.heap.size w2.heap.size tg w2.heap.size (w.heap.size+1) w.heap.size (w2.heap.size+1) q W→w2.heap.size≤W.heap.size:=fun W q h=>by
   have:=lB h.f;omega
  have HB:=LH hB;clear hB;refine(bound_each _ g K l k r F D4.out hn 53 #[.pointer (some ⟨w2.heap.size+1,0,none⟩)] enters_Worst2 (WorstI w l r lt ft w1.heap.size w2.heap.size tg w2.heap.size (w.heap.size+1) w.heap.size (w2.heap.size+1)) (worstI_stays _ _ _ _ _ _ _ _ _ _ _ _ HB.out) I4.out ?_).mono ?_
  ·intro q hq W hI
   have hsW:=HB.out W q hI;have hsF:=lB hI.f;refine(bound_Worst2 W (endsOf l r[q].1).1 (endsOf l r[q].1).2.1 r[q].2 _ _ _ _ _ hI.f (try_at W l r lt ft _ _ tg (endsOf l r[q].1).1 _ _ w2.heap.size (w.heap.size+1) w.heap.size hfit.roll hfit.sum hn HTL.out HTF.out hl1 hl2 hI.tab hsW hI.t hI.gp hI.x (by omega))).mono ?_;rintro e W' ⟨rfl,x5,g5,k5,b5,o5⟩;rw [←worstPre_succ hq] at x5 g5;exact⟨rfl,⟨hI.blw.trans (b5 _ (Nat.le_refl _) (by omega) (by omega)),x5,g5,(o5 _ (by omega) (by omega) (by omega)).trans hI.t,(o5 _ (by omega) (by omega) (by omega)).trans hI.f,hI.tab.keep fun b h1 h2=>o5 b (by omega) (by omega) (by omega)⟩,k5⟩
  ·rintro e w5 ⟨rfl,hI,hs5⟩
   have i2:=hI.x;have i3:=hI.gp;have B5:=hI.blw;simp only [List.take_length] at i2 i3;have cc:=bC i3;have cf:=bF i3;have c0:=bC i2;have f0:=bF i2;have z0:=lB i2;have z1:=lB i3;clear i2 i3 hI;go_wp2_with fail
   go_region
   all_goals go_wp2_with fail
   all_goals exact bR (v:=.tuple #[.int .i64 (worstPre l r r).1,.int .i64 (worstPre l r r).2,.int .i64 0]) (by simp only [results,Tryz.results17];go_simp) rfl ⟨rfl,bE⟩
theorem weighR_cong {l:Int} {f g:Int→Int→Bool} {r:List Nd} (h: ∀x∈r,f (endsOf l x.1).1 (endsOf l x.1).2.1=g (endsOf l x.1).1 (endsOf l x.1).2.1) :weighR l f r=weighR l g r:=by
 induction r with
 |nil=>rfl
 |cons x r ih=>
  simp only [weighR];rw [h x (by simp),ih fun y hy=>h y (by simp [hy])]
theorem betw_low {l:Nat} {r:List Nd} (hn: ∀x∈r,isNode l x.1=true) {b:Int} :betwLow l r 0 b=lowOf l r b:=by
 unfold betwLow lowOf;refine weighR_cong fun x hx=> ?_;have:=ends_bounds (hn x hx);simp only [inLow];rw [decide_eq_true (show 0≤(endsOf l x.1).1 by omega),Bool.true_and]
theorem betw_high {l:Nat} {r:List Nd} (hn: ∀x∈r,isNode l x.1=true) {b:Int} :betwHigh l r 0 b=highOf l r b:=by
 unfold betwHigh highOf;refine weighR_cong fun x hx=> ?_;have:=ends_bounds (hn x hx);simp only [inHigh];rw [decide_eq_true (show 0≤(endsOf l x.1).2.1 by omega),Bool.and_true]
theorem med_facts {l:Nat} (hl:1≤l∧l≤48) {r:List Nd} (hf:Fits l r) (h1:1≤sumR r) :
 ∃m,ofT l r 1 2= (m,0)∧evenL l r 2= [m]∧sumR r≤2*lowOf l r m∧2*lowOf l r (m - 1) <sumR r∧0≤m∧m≤281474976710655:=by
 have kp:=partR_ok h1 (parts:=2) (j:=0) (by omega);obtain⟨z,hz,hR⟩:=best_ends hl hf kp false;rw [endL_false] at hz hR;have hb:=best_range hl hf kp;rw [hz] at hb
 have hk:partR r 2 0= ((((sumR r).toNat*1+ (2 - 1)) / 2:Nat) :Int):=by
  unfold partR;rw [upV_eq (by omega)]
 have e1: (sumR r).toNat*1+ (2 - 1) = (sumR r).toNat+1:=by omega
 rw [e1] at hk;have up:=hR.up;have le:=hR.less (z - 1) (by omega);rw [low_up] at up le;refine⟨z,?_,?_,by omega,by omega,by omega,by omega⟩
 ·have hq:rankT r 1 2= (partR r 2 0,0):=by
   unfold rankT;rw [if_neg (by omega),if_neg (by omega)]
   have:max (((upV (sumR r).toNat (1:Int).toNat (2:Int).toNat:Nat)) :Int) 1=partR r 2 0:=by
    have hq1:=(qWrong_ok kp).1;show max (partR r 2 0) 1=partR r 2 0
    omega
   rw [this]
  unfold ofT;rw [hq];simp only [if_true];unfold atT;rw [if_pos kp,hz]
 ·unfold evenL
  rw [if_pos (by unfold evenErr;rw [if_neg (by omega),if_neg (by omega)])];show ddN (partV l r 2) 1= [z]
  unfold ddN ddN;rw [if_pos (Or.inl rfl)];unfold partV;rw [hz];rfl
theorem worst_slack {l:Nat} (hl:1≤l∧l≤48) {r:List Nd} (hf:Fits l r) (hn: ∀x∈r,isNode l x.1=true) {k:Int} (hk:1≤k) (hli:lightOf l r k=true) : (worstT l r).2.1≤(l:Int) * (sumR r / k):=by
 have hs0:=sumR_nonneg hf.roll;have h0:0≤sumR r / k:=Int.ediv_nonneg hs0 (by omega);have hm:0≤(l:Int) * (sumR r / k):=Int.mul_nonneg (by omega) h0
 have hg: ∀y,gapAt l r y≤(l:Int) * (sumR r / k):=fun y=>by
  unfold gapAt;rw [high_low hn];exact around_le hf.roll hn hli h0 hl y
 have hstep: ∀a:Int×Int,a.2≤(l:Int) * (sumR r / k)→∀x y,(worstStep a x (gapAt l r y)).2≤(l:Int) * (sumR r / k):=fun a ha x y=>by
  unfold worstStep
  split
  ·exact hg y
  ·exact ha
 have hfold: ∀(p:List Nd) (a:Int×Int),a.2≤(l:Int) * (sumR r / k)→(p.foldl (fun a x=>worstStep a (endsOf l x.1).1 (gapAt l r (endsOf l x.1).1)) a).2≤(l:Int) * (sumR r / k):=by
  intro p
  induction p with
  |nil=>intro a ha;exact ha
  |cons x p ih=>intro a ha;exact ih _ (hstep a ha _ _)
 unfold worstT
 split
 ·exact hm
 ·exact hfold r _ (hstep _ hm _ _)
theorem bins_one {l:Nat} {r:List Nd} (hr:rightOf l r=true) {a:Int} (h0:0≤a) (h1:a≤2^l - 1) :binErr l [a] =0∧ofBins l r [a] = [lowOf l r a,sumR r - lowOf l r a]:=by
 have he:binErr l [a] =0:=by
  unfold binErr;rw [if_pos (by simp only [rightE,Bool.and_true,Bool.and_eq_true,decide_eq_true_eq];omega)]
 refine⟨he,?_⟩;unfold ofBins;rw [if_pos he,←binFold_runs hr];have e:runsL l [a] = [(0,a),(a+1,2^l - 1)]:=rfl;rw [e];simp only [binFold,List.foldl_cons,List.foldl_nil,binStep,List.nil_append,List.cons_append,Int.sub_zero];rw [low_top hr (Int.le_refl _)]
theorem bins_two {l:Nat} {r:List Nd} (hr:rightOf l r=true) {a b:Int} (h0:0≤a) (hab:a<b) (h1:b≤2^l - 1) :binErr l [a,b] =0∧ofBins l r [a,b] = [lowOf l r a,lowOf l r b - lowOf l r a,sumR r - lowOf l r b]:=by
 have he:binErr l [a,b] =0:=by
  unfold binErr;rw [if_pos (by simp only [rightE,Bool.and_true,Bool.and_eq_true,decide_eq_true_eq];omega)]
 refine⟨he,?_⟩;unfold ofBins;rw [if_pos he,←binFold_runs hr];have e:runsL l [a,b] = [(0,a),(a+1,b),(b+1,2^l - 1)]:=rfl;rw [e];simp only [binFold,List.foldl_cons,List.foldl_nil,binStep,List.nil_append,List.cons_append,Int.sub_zero];rw [low_top hr (Int.le_refl _)]
def dgt (n:Nat) :UInt8:=UInt8.ofNat (48+n % 10)
theorem dgt_nat (n:Nat) : (dgt n).toNat=48+n % 10:=by unfold dgt;rw [UInt8.toNat_ofNat'];omega
def digB (n:Nat) :List UInt8:=if h:n<10 then [dgt n] else digB (n / 10) ++ [dgt n]
termination_by n
decreasing_by omega
theorem digB_lt {n:Nat} (h:n<10) :digB n= [dgt n]:=by rw [digB,dif_pos h]
theorem digB_ge {n:Nat} (h: ¬n<10) :digB n=digB (n / 10) ++ [dgt n]:=by rw [digB,dif_neg h]
theorem digB_pos (n:Nat) :1≤(digB n).length:=by
 rw [digB]
 split <;> simp
theorem digB_len: ∀(k n:Nat),n<10^k→1≤k→(digB n).length≤k:=by
 intro k
 induction k with
 |zero=>intro n _ h;omega
 |succ k ih=>
  intro n hn _;by_cases h:n<10
  ·rw [digB_lt h];simp
  ·rw [digB_ge h,List.length_append,List.length_singleton]
   have h1:n / 10<10^k:=by rw [Nat.pow_succ] at hn;omega
   have h2:1≤k:=by
    rcases Nat.eq_zero_or_pos k with rfl|h2
    ·simp at hn;omega
    ·exact h2
   have:=ih _ h1 h2;omega
theorem digB_le {n:Nat} (h:n≤9223372036854775807) : (digB n).length≤19:=by
 have e: (10:Nat) ^19=10000000000000000000:=by decide
 exact digB_len 19 n (by rw [e];omega) (by decide)
theorem digB_digit: ∀(n:Nat),∀b∈digB n,48≤b.toNat∧b.toNat≤57:=by
 intro n
 induction n using Nat.strongRecOn with
 |ind n ih=>
  intro b hb;by_cases h:n<10
  ·rw [digB_lt h,List.mem_singleton] at hb
   subst hb;rw [dgt_nat];omega
  ·rw [digB_ge h,List.mem_append,List.mem_singleton] at hb
   rcases hb with hb|hb
   ·exact ih _ (by omega) b hb
   ·subst hb
    rw [dgt_nat];omega
def valB (l:List UInt8) :Nat:=l.foldl (fun a b=>10*a+ (b.toNat - 48)) 0
theorem valB_app (l:List UInt8) (b:UInt8) :valB (l ++ [b]) =10*valB l+ (b.toNat - 48):=by unfold valB;rw [List.foldl_append];rfl
theorem valB_digB: ∀(n:Nat),valB (digB n) =n:=by
 intro n
 induction n using Nat.strongRecOn with
 |ind n ih=>
  by_cases h:n<10
  ·rw [digB_lt h]
   show 10*0+ ((dgt n).toNat - 48) =n
   rw [dgt_nat];omega
  ·rw [digB_ge h,valB_app,ih _ (by omega),dgt_nat];omega
theorem valB_take {l:List UInt8} {q:Nat} (h:q<l.length) :valB (l.take (q+1)) =10*valB (l.take q) + (l[q].toNat - 48):=by
 rw [List.take_succ_eq_append_getElem h,valB_app]
theorem valB_mono (l:List UInt8) : ∀(k q:Nat),q+k=l.length→valB (l.take q)≤valB l:=by
 intro k
 induction k with
 |zero=>intro q h;rw [List.take_of_length_le (by omega)];exact Nat.le_refl _
 |succ k ih=>
  intro q h;have h1:=ih (q+1) (by omega);rw [valB_take (by omega)] at h1;omega
theorem valB_take_le (n q:Nat) (h:q≤(digB n).length) :valB ((digB n).take q)≤n:=by
 have h1:=valB_mono (digB n) ((digB n).length - q) q (by omega)
 rwa [valB_digB] at h1
theorem digB_head: ∀(n:Nat),10≤n→∃b t,digB n=b :: t∧49≤b.toNat:=by
 intro n
 induction n using Nat.strongRecOn with
 |ind n ih=>
  intro h;rw [digB_ge (by omega)];by_cases h1:n / 10<10
  ·rw [digB_lt h1]
   exact⟨_,_,rfl,by rw [dgt_nat];omega⟩
  ·obtain⟨b,t,he,hb⟩:=ih (n / 10) (by omega) (by omega)
   rw [he];exact⟨b,t ++ [dgt n],rfl,hb⟩
theorem digB_two {n:Nat} (h:1< (digB n).length) :10≤n:=by
 rcases Nat.lt_or_ge n 10 with h1|h1
 ·rw [digB_lt h1] at h;simp at h
 ·exact h1
theorem digB_first {n:Nat} (h:1< (digB n).length) : ((digB n)[0]'(by omega)).toNat≠48:=by
 obtain⟨b,t,he,hb⟩:=digB_head n (digB_two h);simp only [he,List.getElem_cons_zero];omega
def noDig (t:List UInt8) :Bool:=match t with| []=>true|b :: _=> !(decide (48≤b.toNat) && decide (b.toNat≤57))
theorem noDig_at {t:List UInt8} (h:noDig t=true) (hl:0<t.length) : ¬(48≤(t[0]'hl).toNat∧(t[0]'hl).toNat≤57):=by
 cases t with
 |nil=>simp at hl
 |cons b r=>
  simp only [noDig,Bool.not_eq_true',Bool.and_eq_false_iff,decide_eq_false_iff_not] at h;simp only [List.getElem_cons_zero];omega
def lineL (l:List (List UInt8×Nat)) :List UInt8:=l.flatMap fun x=>x.1 ++ digB x.2
def encB8:Enc UInt8 1:=⟨fun b=> [.int .u8 (b.toNat:Int)],fun _=>rfl,by intro x u hu;simp at hu;subst hu;rfl⟩
theorem tyU8:SliceTy Tryz.prog 134 5 1 1 (.int .u8 0):=⟨Tryz.underlying134,by kernel_rfl,rfl,by decide⟩
def oneB (n:Nat) :List UInt8:=if h:128≤n then UInt8.ofNat (n % 128+128) :: oneB (n / 128) else [UInt8.ofNat n]
termination_by n
decreasing_by omega
theorem oneB_ge {n:Nat} (h:128≤n) :oneB n=UInt8.ofNat (n % 128+128) :: oneB (n / 128):=by rw [oneB,dif_pos h]
theorem oneB_lt {n:Nat} (h: ¬128≤n) :oneB n= [UInt8.ofNat n]:=by rw [oneB,dif_neg h]
theorem oneB_len: ∀(k n:Nat),n<128^k→1≤k→(oneB n).length≤k:=by
 intro k
 induction k with
 |zero=>intro n _ h;omega
 |succ k ih=>
  intro n hn _;by_cases h:128≤n
  ·rw [oneB_ge h,List.length_cons]
   have h1:n / 128<128^k:=by rw [Nat.pow_succ] at hn;exact Nat.div_lt_of_lt_mul (by rw [Nat.mul_comm];exact hn)
   have h2:1≤k:=by
    rcases Nat.eq_zero_or_pos k with rfl|h2
    ·simp at hn;omega
    ·exact h2
   have:=ih _ h1 h2;omega
  ·rw [oneB_lt h];simp
theorem oneB_le {n:Nat} (h:n≤9223372036854775807) : (oneB n).length≤9:=oneB_len 9 n (by have: (128:Nat) ^9=9223372036854775808:=by decide
                                                                                        omega) (by decide)
theorem oneB_pos (n:Nat) :1≤(oneB n).length:=by
 rw [oneB]
 split <;> simp
theorem or_128: ∀x:Fin 256,x.val ||| 128=x.val % 128+128:=by decide
theorem byte_or (m:Nat) :bits BinOp.or IntKind.u8 (IntKind.u8.wrap (m:Int)) 128= (((UInt8.ofNat (m % 128+128)).toNat:Nat) :Int):=by
 have hw:IntKind.u8.wrap (m:Int) = ((m % 256:Nat) :Int):=by rw [IntKind.wrap_u8];omega
 have h:=(bits_nat .u8 8 (by decide) (fun n h0 h1=>by rw [IntKind.wrap_u8];omega) (m % 256) 128 (by omega) (by decide)).2;rw [hw];rw [show ((128:Int)) = ((128:Nat) :Int) from rfl,h,or_128 ⟨m % 256,by omega⟩];simp only [UInt8.toNat_ofNat']
 congr 1
 omega
theorem byte_or' (m:Nat) :bits BinOp.or IntKind.u8 ((m:Int) % 256) 128= (((UInt8.ofNat (m % 128+128)).toNat:Nat) :Int):=by
 have h:=byte_or m
 rwa [IntKind.wrap_u8] at h
theorem byte_one' {m:Nat} (h: ¬128≤m) : (m:Int) = (((UInt8.ofNat m).toNat:Nat) :Int):=by
 rw [UInt8.toNat_ofNat'];omega
theorem vary_one (w:World) (base:Nat) (v:Value) (l:List UInt8) (n:Nat) (ho:Own w base 5 encB8 v l) (hb:base≤w.heap.size) (hl:l.length≤67108864) (hn:n≤9223372036854775807) :
 Calls Tryz.prog 150 #[v,.int .i64 n] w fun e w'=>∃v',e=.returned v'∧Own w' base 5 encB8 v' (l ++ oneB n)∧Below base w w':=by
 have HO:=LH ho;have HL:=LH (oneB_le hn);clear ho
 go_enter Tryz.func150,Tryz.ntmps150
 go_wp2_with fail
 go_loopw [0,1] (fun u i wr=>∃(m:Nat) (pre:List UInt8),i=.int .i64 m∧m≤n∧Own wr base 5 encB8 u (l ++ pre)∧pre ++ oneB m=oneB n∧Below base w wr) (fun _ i _=>(intOf i).toNat)
 case atStart=>exact⟨n, [],rfl,Nat.le_refl _,by simpa using HO.out,rfl,Below.refl _ _⟩
 case round=>
  obtain⟨m,pre,rfl,hm,ho,he,hB⟩:=hrel
  have hpl:pre.length≤8:=by
   have h1:=HL.out;have h2:=oneB_pos m;rw [←he,List.length_append] at h1;omega
  have HB:=LH hB;have HE:=LH he;obtain⟨Ao,co,rfl,_⟩:=ho.form;have HOr:=LH ho;have sz:=hB.size;clear ho he hB;by_cases h:128≤m
  ·have h1: (128:Int)≤(m:Int):=by omega
   have HE2:Hid ((pre ++ [UInt8.ofNat (m % 128+128)]) ++ oneB (m / 128) =oneB n):=LH (by rw [←HE.out,oneB_ge h];simp);have hbo:=byte_or' m;obtain⟨L,hL⟩ : ∃L,L=l ++ pre:=⟨_,rfl⟩;have hLl:L.length≤67108872:=by rw [hL,List.length_append];omega
   rw [←hL] at HOr⊢;have HLe:=LH hL;clear hL;generalize UInt8.ofNat (m % 128+128) =b at hbo HE2;go_wp2_with ((at_builtin;go_loud (refine wpList_push tyU8 rfl _ _ rfl encB8 wr base (.slice Ao L.length co) L rfl HOr.out b (by go_simp) (by simp [encB8,hbo]) ?c1 ?c2 ?c3 ?c4)))
   case c1=>omega
   case c2=>unfold maxLen;omega
   case c3=>omega
   case c4=>
    intro v' w' ho' _ _ _ hb' _;have HO2:=LH ho';have HB2:=LH (HB.out.trans hb');have hsz:=hb'.size;clear ho' hb';go_wp2_with fail;go_roundw
    case rel=>exact⟨m / 128,pre ++ [b],by go_num,by omega,by have:=HO2.out;rw [HLe.out] at this;simpa using this,HE2.out,HB2.out⟩
    case measure=>simp [intOf];omega
  ·have h1: ¬(128:Int)≤(m:Int):=by omega
   have HE2:Hid (pre ++ [UInt8.ofNat m] =oneB n):=LH (by rw [←HE.out,oneB_lt h]);have hbo:=byte_one' h;obtain⟨L,hL⟩ : ∃L,L=l ++ pre:=⟨_,rfl⟩;have hLl:L.length≤67108872:=by rw [hL,List.length_append];omega
   rw [←hL] at HOr⊢;have HLe:=LH hL;clear hL;generalize UInt8.ofNat m=b at hbo HE2;go_wp2_with ((at_builtin;go_loud (refine wpList_push tyU8 rfl _ _ rfl encB8 wr base (.slice Ao L.length co) L rfl HOr.out b (by go_simp) (by simp [encB8,hbo]) ?d1 ?d2 ?d3 ?d4)))
   case d1=>omega
   case d2=>unfold maxLen;omega
   case d3=>omega
   case d4=>
    intro v' w' ho' _ _ _ hb' _;have HO2:=LH ho';have HB2:=LH (HB.out.trans hb');clear ho' hb';go_wp2_with fail;exact bR (v:=v') (by simp only [results,Tryz.results150];go_simp) rfl ⟨_,rfl,by rw [←HE2.out,←List.append_assoc,←HLe.out];exact HO2.out,HB2.out⟩
def putB (L:List Int) :List UInt8:=L.flatMap fun x=>oneB x.toNat
theorem putB_take {L:List Int} {q:Nat} (h:q<L.length) :putB (L.take (q+1)) =putB (L.take q) ++ oneB (L[q]).toNat:=by
 unfold putB;rw [List.take_succ_eq_append_getElem h,List.flatMap_append];simp
theorem putB_len: ∀{L:List Int},(∀x∈L,x≤9223372036854775807)→(putB L).length≤9*L.length:=by
 intro L
 induction L with
 |nil=>intro _;simp [putB]
 |cons x L ih=>
  intro h;have h1:=ih fun y hy=>h y (List.mem_cons_of_mem _ hy);have h2: (oneB x.toNat).length≤9:=oneB_le (by have:=h x (List.mem_cons_self ..);omega);have h3:putB (x :: L) =oneB x.toNat ++ putB L:=by simp [putB]
  rw [h3,List.length_append,List.length_cons];omega
theorem putB_pos {L:List Int} (h:0<L.length) :0< (putB L).length:=by
 match L,h with
 |x :: L,_=>
  have h3:putB (x :: L) =oneB x.toNat ++ putB L:=by simp [putB]
  have:=oneB_pos x.toNat;rw [h3,List.length_append];omega
theorem bytes_back {w:World} {b off cap:Nat} {l:List UInt8} {base:Nat} (ho:Own w base 5 encB8 (.slice (some ⟨b,off,none⟩) l.length cap) l) :
 ∀(j:Nat) (hj:j<l.length),w.cell? (Addr.add ⟨b,off,none⟩ j) =some (.int .u8 (l[j].toNat:Int)):=by
 intro j hj;obtain⟨b',off',he,_,hc⟩:=ho.sl.at_ hj
 injection he with he
 injection he with h1 h2
 subst h1 h2;have h3:=hc 0 (.int .u8 (l[j].toNat:Int)) rfl
 rw [show Addr.add ⟨b,off,none⟩ j= ⟨b,off+j,none⟩ by
  unfold Addr.add;split <;> simp_all]
 simpa using h3
theorem vary_Put (w:World) (base:Nat) (v:Value) (L:List Int) (ho:Own w base 3 encZ v L) (hi: ∀x∈L,i64 x) (hl:L.length≤65536) (h0:0<L.length) :
 Calls Tryz.prog 71 #[v] w fun e w'=>(∃t,e=.returned (.tuple #[.string t,.int .i64 (if L.all (fun x=>decide (0≤x)) =true then 0 else 2)])∧(L.all (fun x=>decide (0≤x)) =true→t= ⟨(putB L).toArray⟩))∧Below w.heap.size w w':=by
 obtain⟨A,c,rfl,_⟩:=ho.form;have HO:=LH (ho.base_le (Nat.zero_le _));have HI:=LH hi;have HP:=LH (putB_pos h0);clear ho hi
 go_enter Tryz.func71,Tryz.ntmps71
 go_wp2_with fail
 go_loopw [4,9] (fun u j wr=>∃q:Nat,q≤L.length∧j=.int .i64 q∧Own wr w.heap.size 5 encB8 u (putB (L.take q))∧(∀x∈L.take q,0≤x)∧Below w.heap.size w wr) (fun _ j _=>L.length - (intOf j).toNat)
 case atStart=>exact⟨0,Nat.zero_le _,rfl,Own.nil _ _ _ _,by simp,Below.refl _ _⟩
 case round=>
  obtain⟨q,hq,rfl,ho,hp,hB⟩:=hrel;have HB:=LH hB;have HR:=LH (HO.out.below hB);have HU:=LH ho;have HPq:=LH hp;have sz:=hB.size;clear ho hp hB;by_cases hlt:q<L.length
  ·have hqi: (q:Int) < (L.length:Int):=by omega
   obtain⟨b,off,rfl,hb,hc⟩:=HR.out.sl.at_ hlt;have d0:=hc 0 (.int .i64 L[q]) rfl;simp only [Nat.mul_one,Nat.add_zero] at d0;have hx1:=HI.out _ (List.getElem_mem hlt);by_cases hx:L[q] <0
   ·have hall:L.all (fun x=>decide (0≤x)) =false:=by
     rw [List.all_eq_false];exact⟨L[q],List.getElem_mem hlt,by simpa using hx⟩
    clear hc;generalize L[q] =x at*;go_wp2_with fail
    all_goals exact bR (v:=.tuple #[.string ⟨#[]⟩,.int .i64 2]) (by simp only [results,Tryz.results71];go_simp) rfl ⟨⟨_,rfl⟩,HB.out⟩
   ·have HTk:=LH (putB_take hlt)
    have HPn:Hid (∀x∈L.take (q+1),0≤x):=LH (by
     rw [List.take_succ_eq_append_getElem hlt];intro x hx';rcases List.mem_append.1 hx' with h|h
     ·exact HPq.out x h
     ·simp only [List.mem_singleton] at h;subst h;omega)
    obtain⟨n,hn⟩ : ∃n:Nat,L[q] = (n:Int):=⟨L[q].toNat,by omega⟩;have hn9:n≤9223372036854775807:=by have:=hx1.2;omega
    have hn0:decide ((n:Int) <0) =false:=by simp
    rw [hn] at d0 HTk
    have hlq: (putB (L.take q)).length≤67108864:=by
     have h1:=putB_len (L:=L.take q) fun y hy=>(HI.out y (List.mem_of_mem_take hy)).2;have h2: (L.take q).length≤65536:=by rw [List.length_take];omega
     omega
    clear hc hx hx1 hn;go_wp2_with fail;refine(vary_one wr w.heap.size _ (putB (L.take q)) n HU.out sz hlq hn9).mono ?_;rintro e w1 ⟨v1,rfl,ho1,hb1⟩;have HO1:=LH ho1;have HB1:=LH (HB.out.trans hb1);clear ho1 hb1;go_wp2_with fail;go_roundw
    case rel=>exact⟨q+1,by omega,by go_num,by rw [HTk.out];exact HO1.out,HPn.out,HB1.out⟩
    case measure=>simp [intOf];omega
  ·obtain rfl:q=L.length:=by omega
   rw [List.take_length] at HU HPq;have hqi:decide ((L.length:Int) < (L.length:Int)) =false:=by simp
   have hall:L.all (fun x=>decide (0≤x)) =true:=by
    rw [List.all_eq_true];intro x hx
    simpa using HPq.out x hx
   obtain⟨bb,oo,cc,rfl,_⟩:=own_at0 HU.out HP.out;have hcv:=run_convert_bytes_back (P:=Tryz.prog) wr 134 9 5 ⟨bb,oo,none⟩ cc (putB L) Tryz.underlying134 Tryz.underlying5 Tryz.underlying9 (bytes_back HU.out);generalize hG:putB L=G at HU hcv⊢;have HG:=LH hG;clear hG;go_wp2_with fail
   all_goals exact bR (v:=.tuple #[.string ⟨G.toArray⟩,.int .i64 0]) (by simp only [results,Tryz.results71];go_simp) rfl ⟨by rw [HG.out],HB.out⟩
def sum1 (s:Nat×Nat) (b:UInt8) :Nat×Nat:=((s.1+b.toNat) % 65521,(s.2+ (s.1+b.toNat)) % 65521)
def sumT (s:Nat×Nat) (l:List UInt8) :Nat×Nat:=l.foldl sum1 s
def sumV (s:Nat×Nat) :Value:=.agg #[.int .i64 s.1,.int .i64 s.2]
theorem sumT_app (s) (l m:List UInt8) :sumT s (l ++ m) =sumT (sumT s l) m:=by simp [sumT,List.foldl_append]
theorem sum1_lt (s) (b:UInt8) : (sum1 s b).1<65521∧(sum1 s b).2<65521:=⟨Nat.mod_lt _ (by decide),Nat.mod_lt _ (by decide)⟩
theorem sumT_lt {s:Nat×Nat} (h:s.1<65521∧s.2<65521) : ∀l:List UInt8,(sumT s l).1<65521∧(sumT s l).2<65521:=by
 intro l
 induction l generalizing s with
 |nil=>exact h
 |cons b l ih=>exact ih (sum1_lt s b)
theorem seal_Begin (w:World) :Calls Tryz.prog 194 #[] w fun e w'=>e=.returned (sumV (1,0))∧Below w.heap.size w w':=by
 go_enter Tryz.func194,Tryz.ntmps194
 go_wp2_with fail;exact bR (v:=.agg #[.int .i64 1,.int .i64 0]) (by simp only [results,Tryz.results194];go_simp) rfl ⟨rfl,bE⟩
theorem back4 (W:World) (a b c d:UInt8) (n:Nat) (hn:n=W.heap.size) :
 (convert 134 9 (.slice (some ⟨n,0,none⟩) 4 4)).run Tryz.prog (W.alloc (.cells #[.int .u8 (a.toNat:Int),.int .u8 (b.toNat:Int),.int .u8 (c.toNat:Int),.int .u8 (d.toNat:Int)] 5)) =.ok (.string ⟨[a,b,c,d].toArray⟩) (W.alloc (.cells #[.int .u8 (a.toNat:Int),.int .u8 (b.toNat:Int),.int .u8 (c.toNat:Int),.int .u8 (d.toNat:Int)] 5)):=by
 subst hn;refine run_convert_bytes_back (P:=Tryz.prog) _ 134 9 5 ⟨W.heap.size,0,none⟩ 4 [a,b,c,d] Tryz.underlying134 Tryz.underlying5 Tryz.underlying9 ?_;intro j hj;rw [show Addr.add ⟨W.heap.size,0,none⟩ j= ⟨W.heap.size,j,none⟩ by unfold Addr.add;split <;> simp_all];rw [World.cell?_alloc_mark];simp only [List.length_cons,List.length_nil] at hj
 match j,hj with
 |0,_=>rfl
 |1,_=>rfl
 |2,_=>rfl
 |3,_=>rfl
def bytesL (s:Nat×Nat) :List UInt8:= [UInt8.ofNat (s.2 / 256),UInt8.ofNat s.2,UInt8.ofNat (s.1 / 256),UInt8.ofNat s.1]
theorem seal_Bytes (w:World) (s:Nat×Nat) (h:s.1<65521∧s.2<65521) :Calls Tryz.prog 152 #[sumV s] w fun e w'=>e=.returned (.string ⟨(bytesL s).toArray⟩)∧Below w.heap.size w w':=by
 unfold sumV;have h1: (s.2:Int) / 256= ((UInt8.ofNat (s.2 / 256)).toNat:Int):=by rw [UInt8.toNat_ofNat'];omega
 have h2: (s.2:Int) % 256= ((UInt8.ofNat s.2).toNat:Int):=by rw [UInt8.toNat_ofNat'];omega
 have h3: (s.1:Int) / 256= ((UInt8.ofNat (s.1 / 256)).toNat:Int):=by rw [UInt8.toNat_ofNat'];omega
 have h4: (s.1:Int) % 256= ((UInt8.ofNat s.1).toNat:Int):=by rw [UInt8.toNat_ofNat'];omega
 unfold bytesL;generalize UInt8.ofNat (s.2 / 256) =a at h1⊢;generalize UInt8.ofNat s.2=b at h2⊢;generalize UInt8.ofNat (s.1 / 256) =c at h3⊢;generalize UInt8.ofNat s.1=d at h4⊢;have hcv:=back4 (w.alloc (.cells #[.int .i64 s.1,.int .i64 s.2] 206)) a b c d (w.heap.size+1) (by simp);have HB:Hid (Below w.heap.size w ((w.alloc (.cells #[.int .i64 s.1,.int .i64 s.2] 206)).alloc (.cells #[.int .u8 (a.toNat:Int),.int .u8 (b.toNat:Int),.int .u8 (c.toNat:Int),.int .u8 (d.toNat:Int)] 5))):=LH bE;have h5:=h.1;have h6:=h.2;clear h
 go_enter Tryz.func152,Tryz.ntmps152
 go_wp2_with fail;exact bR (v:=.string ⟨[a,b,c,d].toArray⟩) (by simp only [results,Tryz.results152];go_simp) rfl ⟨rfl,HB.out⟩
def SealAt (W:World) (b lo hi:Nat) :Prop:=W.heap[b]? =some (.cells #[.int .i64 lo,.int .i64 hi] 206 (0,0))
theorem SealAt.below {w w':World} {b lo hi:Nat} (h:SealAt w b lo hi) (hb:Below w.heap.size w w') :SealAt w' b lo hi:=bB h hb
theorem SealAt.set {w:World} {b lo hi q o:Nat} (h:SealAt w b lo hi) (hne:b≠q) (u:Value) :SealAt (w.setCell ⟨q,o,none⟩ u) b lo hi:=(Below.heap_setCell _ _ _ _ hne).trans h
theorem SealAt.put0 {w:World} {b lo hi:Nat} (h:SealAt w b lo hi) (x:Nat) :SealAt (w.setCell ⟨b,0,none⟩ (.int .i64 x)) b x hi:=zH (i:=0) h _
theorem SealAt.put1 {w:World} {b lo hi:Nat} (h:SealAt w b lo hi) (x:Nat) :SealAt (w.setCell ⟨b,1,none⟩ (.int .i64 x)) b lo x:=zH (i:=1) h _
theorem seal_step {A:Nat×Nat} {lo hi:Nat} (b:UInt8) (h1:lo % 65521=A.1) (h2:hi % 65521=A.2) : (lo+b.toNat) % 65521= (sum1 A b).1∧(hi+ (lo+b.toNat)) % 65521= (sum1 A b).2:=by
 unfold sum1;dsimp only;omega
theorem sumT_take {A:Nat×Nat} {l:List UInt8} {q:Nat} (h:q<l.length) :sumT A (l.take (q+1)) =sum1 (sumT A (l.take q)) l[q]:=by
 rw [List.take_succ_eq_append_getElem h,sumT_app]
 rfl
theorem text_at (W:World) (l:List UInt8) (q:Nat) (h:q<l.length) : (Instr.index 9 (.string ⟨l.toArray⟩) (.int .i64 q)).run Tryz.prog W=.ok (.int .u8 (l[q].toNat:Int)) W:=by
 have hq:0≤(q:Int)∧(q:Int) < ((ByteArray.mk l.toArray).size:Int):=⟨by omega,by show (q:Int) < (l.toArray.size:Int);simp;exact h⟩;rw [run_index_string W 9 ⟨l.toArray⟩ .i64 q Tryz.underlying9,dif_pos hq]
 rfl
def strSize:Value→Nat
 | .string b=>b.size
 |_=>0
theorem text_drop (l:List UInt8) (n:Nat) : (ByteArray.mk l.toArray).extract n l.length= ⟨(l.drop n).toArray⟩:=by
 apply ByteArray.ext
 simp [ByteArray.data_extract]
 exact List.take_of_length_le (by simp)
theorem SealAt.drew {w:World} {b lo hi:Nat} (h:SealAt w b lo hi) :SealAt w.drew b lo hi:=h
theorem SealAt.new (w:World) (lo hi:Nat) :SealAt (w.alloc (.cells #[.int .i64 lo,.int .i64 hi] 206)) w.heap.size lo hi:=heap_alloc_new w _
theorem SealAt.alloc {w:World} {b lo hi:Nat} (h:SealAt w b lo hi) (o:Obj) :SealAt (w.alloc o) b lo hi:=h.below ((Below.refl _ _).alloc (Nat.le_refl _) o)
theorem size_alloc1 (w:World) (o:Obj) : (w.alloc o).heap.size=w.heap.size+1:=by simp
theorem seal_More (w:World) (s:Nat×Nat) (l:List UInt8) (h:s.1<65521∧s.2<65521) (hl:l.length≤1000000000000) :
 Calls Tryz.prog 195 #[sumV s,.string ⟨l.toArray⟩] w fun e w'=>e=.returned (sumV (sumT s l))∧Below w.heap.size w w':=by
 unfold sumV;have HS:=LH h;clear h
 go_enter Tryz.func195,Tryz.ntmps195
 go_wp2_with fail
 go_loopw [1] (fun t wr=>∃(pre suf:List UInt8),t=.string ⟨suf.toArray⟩∧pre ++ suf=l∧SealAt wr w.heap.size (sumT s pre).1 (sumT s pre).2∧SealAt wr (w.heap.size+1) 0 0∧Below w.heap.size w wr) (fun t _=>strSize t)
 case atStart=>
  refine⟨[],l,rfl,rfl,(SealAt.new w s.1 s.2).alloc _,?_,bE⟩;have:=SealAt.new (w.alloc (.cells #[.int .i64 s.1,.int .i64 s.2] 206)) 0 0;rw [size_alloc1] at this;exact this
 case round=>
  obtain⟨pre,suf,rfl,he,hx,hy,hB⟩:=hrel;have HE:=LH he;have HX:=LH hx;have HY:=LH hy;have HB:=LH hB;have hsl:suf.length≤1000000000000:=by rw [←he,List.length_append] at hl;omega
  have HLt:=LH (sumT_lt HS.out pre);have sz:=hB.size;clear he hx hy hB;by_cases h0:0<suf.length
  ·have h1: (0:Int) < (suf.length:Int):=by omega
   obtain⟨n,hn⟩ : ∃n:Nat,n=min suf.length 5000:=⟨_,rfl⟩;have hmin:min (suf.length:Int) 5000= (n:Int):=by omega
   have hn1:1≤n∧n≤5000∧n≤suf.length:=by omega
   clear hn;go_wp2_with fail
   go_loopw [14] (fun j W=>∃q lo hi:Nat,j=.int .i64 q∧q≤n∧SealAt W w.heap.size lo hi∧lo≤65520+255*q∧hi≤65520+q*1400000∧lo % 65521= (sumT (sumT s pre) (suf.take q)).1∧hi % 65521= (sumT (sumT s pre) (suf.take q)).2∧SealAt W (w.heap.size+1) 0 0∧Below w.heap.size w W) (fun j _=>n - (intOf j).toNat)
   case atStart=>
    have hL:=HLt.out;exact⟨0,_,_,rfl,Nat.zero_le _,HX.out,by omega,by omega,Nat.mod_eq_of_lt hL.1,Nat.mod_eq_of_lt hL.2,HY.out,HB.out⟩
   case round=>
    obtain⟨q,lo,hi,rfl,hq,hx,hlo,hhi,hm1,hm2,hy,hB⟩:=hrel;have HM:=LH (And.intro hm1 hm2);have HY2:=LH hy;have HB2:=LH hB;have HX2:=LH hx;have cc:=bC hx;have cf:=bF hx;have zb:=lB hx;clear hm1 hm2 hy hB hx;by_cases hqn:q<n
    ·have hqi: (q:Int) < (n:Int):=by omega
     have hqs:q<suf.length:=by omega
     have hqsi: (q:Int) < (suf.length:Int):=by omega
     have HS1:=LH (sumT_take (A:=sumT s pre) hqs);have HS2:=LH (seal_step suf[q] HM.out.1 HM.out.2);have hbl: (suf[q]).toNat<256:=(suf[q]).toNat_lt;have hix:=fun W=>text_at W suf q hqs;generalize suf[q] =y at HS1 HS2 hbl hix;generalize y.toNat=b at HS2 hbl hix;obtain⟨lo2,hlo2⟩ : ∃lo2:Nat,lo2=lo+b:=⟨_,rfl⟩;rw [←hlo2] at HS2;have hw: (lo:Int) + (b:Int) = (lo2:Int):=by omega
     have HX3:=LH (HX2.out.put0 lo2).drew;have HY3:=LH (HY2.out.set (q:=w.heap.size) (o:=0) (by omega) (.int .i64 lo2)).drew;have HB3:=LH (Below.setCell (p:=⟨w.heap.size,0,none⟩) HB2.out (Nat.le_refl _) (.int .i64 lo2)).drew;have hlo3:lo2≤65520+255* (q+1):=by omega
     clear hlo2;go_wp2_with fail
     go_region
     generalize (wr.setCell ⟨w.heap.size,0,none⟩ (.int .i64 lo2)).drew=W3 at HX3 HY3 HB3⊢;have cc3:=bC HX3.out;have cf3:=bF HX3.out;have zb3:=lB HX3.out;clear cc cf zb hw;obtain⟨hi2,hhi2⟩ : ∃hi2:Nat,hi2=hi+lo2:=⟨_,rfl⟩;rw [←hhi2] at HS2;have HX4:=LH (HX3.out.put1 hi2);have HY4:=LH (HY3.out.set (q:=w.heap.size) (o:=1) (by omega) (.int .i64 hi2));have HB4:=LH (Below.setCell (p:=⟨w.heap.size,1,none⟩) HB3.out (Nat.le_refl _) (.int .i64 hi2));have hw2: (hi:Int) + (lo2:Int) = (hi2:Int):=by omega
     have hhi3:hi2≤65520+ (q+1) *1400000:=by omega
     clear hhi2;go_wp2_with fail;go_roundw
     case rel=>exact⟨q+1,lo2,hi2,by go_num,by omega,HX4.out,hlo3,hhi3,by rw [HS1.out];exact HS2.out.1,by rw [HS1.out];exact HS2.out.2,HY4.out,HB4.out⟩
     case measure=>simp [intOf];omega
    ·obtain rfl:q=n:=by omega
     have hqi:decide ((q:Int) < (q:Int)) =false:=by simp
     have HEX:Hid (pre ++ suf.take q ++ suf.drop q=l):=LH (by rw [List.append_assoc,List.take_append_drop];exact HE.out);have hm:sumT (sumT s pre) (suf.take q) =sumT s (pre ++ suf.take q):=(sumT_app _ _ _).symm;have HM2:=LH (And.intro (HM.out.1.trans (congrArg Prod.fst hm)) (HM.out.2.trans (congrArg Prod.snd hm)));generalize pre ++ suf.take q=pre2 at HEX HM2 hm;clear hm HM;have hloi: (lo:Int) % 65521= ((sumT s pre2).1:Int):=by have:=HM2.out.1;omega
     have hhii: (hi:Int) % 65521= ((sumT s pre2).2:Int):=by have:=HM2.out.2;omega
     generalize hA: (sumT s pre2).1=A1 at hloi;generalize hA2: (sumT s pre2).2=A2 at hhii;have HA:=LH (And.intro hA hA2);clear hA hA2;have HX3:=LH ((HX2.out.put0 A1).put1 A2);have HY3:=LH ((HY2.out.set (q:=w.heap.size) (o:=0) (by omega) (.int .i64 A1)).set (q:=w.heap.size) (o:=1) (by omega) (.int .i64 A2));have HB3:=LH (Below.setCell (p:=⟨w.heap.size,1,none⟩) (Below.setCell (p:=⟨w.heap.size,0,none⟩) HB2.out (Nat.le_refl _) (.int .i64 A1)) (Nat.le_refl _) (.int .i64 A2));have htd:=text_drop suf q;go_wp2_with fail;go_roundw
     case rel=>exact⟨pre2,suf.drop q,rfl,HEX.out,by rw [HA.out.1,HA.out.2];exact HX3.out,HY3.out,HB3.out⟩
     case measure=>
      show (List.drop q suf).toArray.size<suf.toArray.size
      simp
      omega
  ·obtain rfl:suf= []:=List.eq_nil_of_length_eq_zero (by omega)
   obtain rfl:pre=l:=by simpa using HE.out
   have cc:=bC HX.out;have cf:=bF HX.out;have zb:=lB HX.out;have cd:=bC HY.out;have cg:=bF HY.out;have zc:=lB HY.out;have HYe:=LH ((HY.out.put0 (sumT s pre).1).put1 (sumT s pre).2);have HBe:=LH (Below.setCell (p:=⟨w.heap.size+1,1,none⟩) (Below.setCell (p:=⟨w.heap.size+1,0,none⟩) HB.out (by simp) (.int .i64 (sumT s pre).1)) (by simp) (.int .i64 (sumT s pre).2));go_wp2_with fail;generalize ((wr.setCell ⟨w.heap.size+1,0,none⟩ (.int .i64 (sumT s pre).1)).setCell ⟨w.heap.size+1,1,none⟩ (.int .i64 (sumT s pre).2)) =W4 at HYe HBe⊢;have ce:=bC HYe.out;have cfe:=bF HYe.out;have ze:=lB HYe.out;exact bR (v:=.agg #[.int .i64 (sumT s pre).1,.int .i64 (sumT s pre).2]) (by simp only [results,Tryz.results195];go_simp) rfl ⟨rfl,HBe.out⟩
theorem sheet_digit (w:World) (b:Nat) (z:Bool) (hz:z= (decide (48≤b) && decide (b≤57))) :Calls Tryz.prog 244 #[.int .u8 b] w fun e w'=>e=.returned (.bool z)∧Below w.heap.size w w':=by
 by_cases h1:48≤b
 ·have h1i:decide ((48:Int)≤(b:Int)) =true:=by simp;omega
  have h2i:decide ((b:Int)≤57) =z:=by
   rw [hz,decide_eq_true h1,Bool.true_and];congr 1;apply propext;omega
  clear h1 hz
  go_enter Tryz.func244,Tryz.ntmps244
  go_wp2_with fail;exact bR (v:=.bool z) (by simp only [results,Tryz.results244];go_simp) rfl ⟨rfl,Below.refl _ _⟩
 ·have h1i:decide ((48:Int)≤(b:Int)) =false:=by simp;omega
  have h2:z=false:=by rw [hz,decide_eq_false h1,Bool.false_and]
  rw [h2];clear h1 hz h2
  go_enter Tryz.func244,Tryz.ntmps244
  go_wp2_with fail;exact bR (v:=.bool false) (by simp only [results,Tryz.results244];go_simp) rfl ⟨rfl,Below.refl _ _⟩
theorem sheet_Number (w:World) (n:Nat) (t:List UInt8) (hn:n≤9223372036854775807) (ht:noDig t=true) (hl: (digB n ++ t).length≤1000000000) :
 Calls Tryz.prog 214 #[.string ⟨(digB n ++ t).toArray⟩] w fun e w'=>e=.returned (.tuple #[.int .i64 n,.int .i64 (digB n).length,.bool true])∧Below w.heap.size w w':=by
 have HV:=LH (valB_digB n);have HP:=LH (digB_pos n);have HT:=LH (fun q h=>valB_take_le n q h);have HD:=LH (digB_digit n);obtain⟨D,hD⟩ : ∃D,D=digB n:=⟨_,rfl⟩;have HF:Hid (∀(h:1<D.length),(D[0]'(by omega)).toNat≠48):=LH (by subst hD;exact fun h=>digB_first h);rw [←hD] at HV HP HT HD hl⊢;clear hD;obtain⟨S,hS⟩ : ∃S,S=D ++ t:=⟨_,rfl⟩;have HS:=LH hS;have hSl:S.length=D.length+t.length:=by rw [hS,List.length_append]
 have HL:=LH hSl;rw [←hS] at hl⊢;clear hS hSl;have HI:=LH (fun W q h=>text_at W S q h)
 go_enter Tryz.func214,Tryz.ntmps214
 go_wp2_with fail
 go_loopw [2,3] (fun v i wr=>∃q:Nat,q≤D.length∧i=.int .i64 q∧v=.int .i64 (valB (D.take q))∧Below w.heap.size w wr) (fun _ i _=>D.length - (intOf i).toNat)
 case atStart=>exact⟨0,Nat.zero_le _,rfl,rfl,Below.refl _ _⟩
 case round=>
  obtain⟨q,hq,rfl,rfl,hB⟩:=hrel;have HB:=LH hB;have hls:=HL.out;clear hB;by_cases hlt:q<D.length
  ·have hqS:q<S.length:=by omega
   have hqi: (q:Int) < (S.length:Int):=by omega
   have hix:=fun W=>HI.out W q hqS;have e1:S[q] =D[q]:=by simp only [HS.out];rw [List.getElem_append_left hlt]
   rw [e1] at hix;have hd:=HD.out _ (List.getElem_mem hlt);have HVs:=LH (valB_take hlt);have hle:=HT.out (q+1) (by omega);rw [HVs.out] at hle;have HC:=LH (fun W=>sheet_digit W D[q].toNat true (by simp;omega));generalize D[q].toNat=b at hix hd HVs hle HC;generalize valB (D.take q) =v at HVs hle⊢;have hsub:IntKind.u8.wrap ((b:Int) - 48) = ((b - 48:Nat) :Int):=by rw [IntKind.wrap_u8];omega
   obtain⟨d,hdd⟩ : ∃d,d=b - 48:=⟨_,rfl⟩;rw [←hdd] at hsub HVs hle;have hd9:d≤9:=by omega
   have hgt:decide ((9223372036854775807 - (d:Int)) / 10< (v:Int)) =false:=by simp;omega
   have hmul:wrap64 (10* (v:Int)) =10* (v:Int):=by unfold wrap64;omega
   have hadd:wrap64 (10* (v:Int) + (d:Int)) = ((10*v+d:Nat) :Int):=by unfold wrap64;omega
   have hqs:wrap64 ((q:Int) +1) = ((q+1:Nat) :Int):=by unfold wrap64;omega
   clear hd hls hn hle hdd hl;go_wp2_with fail;refine(HC.out _).mono ?_;rintro e w1 ⟨rfl,hb1⟩;have B1:=LH (HB.out.trans (hb1.mono HB.out.size));go_wp2_with fail;go_roundw
   case rel=>
    exact⟨q+1,by omega,by rw [hqs],by rw [hadd,HVs.out],B1.out⟩
   case measure=>rw [hqs];simp [intOf];omega
  ·obtain rfl:q=D.length:=by omega
   have hp1:=HP.out;have hv:valB (D.take D.length) =n:=by rw [List.take_length];exact HV.out
   rw [hv];have h0: ((D.length:Int) == 0) =false:=beq_eq_false_iff_ne.2 (by omega);have hp:0<D.length:=by omega
   have hp2:0<S.length:=by omega
   have hfirst: ∀W,(Instr.index 9 (.string ⟨S.toArray⟩) (.int .i64 (0:Int))).run Tryz.prog W=.ok (.int .u8 ((S[0]'hp2).toNat:Int)) W:=fun W=>HI.out W 0 hp2;have e0: (S[0]'hp2) = (D[0]'hp):=by simp only [HS.out];rw [List.getElem_append_left hp]
   rw [e0] at hfirst;have HF2:1<D.length→(D[0]'hp).toNat≠48:=fun h=>HF.out h;generalize (D[0]'hp).toNat=c at hfirst HF2;have HF3:Hid (1<D.length→((c:Int) == 48) =false):=LH (fun h=>by have:=HF2 h;exact beq_eq_false_iff_ne.2 (by omega));clear HF2 HF HV hv hn hq hlt e0;rcases Nat.eq_zero_or_pos t.length with ht0|ht0
   ·have hnq: ¬(D.length:Int) < (S.length:Int):=by omega
    clear hls ht0;rcases Nat.lt_or_ge 1 D.length with h1|h1
    ·have h1i: (1:Int) < (D.length:Int):=by omega
     have h48:=HF3.out h1;clear h1 hp1;go_wp2_with fail;exact bR (v:=.tuple #[.int .i64 n,.int .i64 D.length,.bool true]) (by simp only [results,Tryz.results214];go_simp) rfl ⟨rfl,HB.out⟩
    ·have h1i:decide ((1:Int) < (D.length:Int)) =false:=by simp;omega
     clear h1 hp1 hfirst;go_wp2_with fail;exact bR (v:=.tuple #[.int .i64 n,.int .i64 D.length,.bool true]) (by simp only [results,Tryz.results214];go_simp) rfl ⟨rfl,HB.out⟩
   ·have hnq: (D.length:Int) < (S.length:Int):=by omega
    have hix:=fun W=>HI.out W D.length (by omega);have e1: (S[D.length]'(by omega)) = (t[0]'ht0):=by simp only [HS.out];rw [List.getElem_append_right (Nat.le_refl _)];simp
    rw [e1] at hix;have hnd:=noDig_at ht ht0;generalize (t[0]'ht0).toNat=b at hix hnd
    have HC:=LH (fun W=>sheet_digit W b false (by
     rcases Nat.lt_or_ge b 48 with h|h
     ·rw [decide_eq_false (by omega)];rfl
     ·rw [decide_eq_true h,decide_eq_false (by omega)];rfl))
    clear hls ht0 hnd e1;rcases Nat.lt_or_ge 1 D.length with h1|h1
    ·have h1i: (1:Int) < (D.length:Int):=by omega
     have h48:=HF3.out h1;clear h1 hp1;go_wp2_with fail;refine(HC.out _).mono ?_;rintro e w1 ⟨rfl,hb1⟩;have B1:=LH (HB.out.trans (hb1.mono HB.out.size));go_wp2_with fail;exact bR (v:=.tuple #[.int .i64 n,.int .i64 D.length,.bool true]) (by simp only [results,Tryz.results214];go_simp) rfl ⟨rfl,B1.out⟩
    ·have h1i:decide ((1:Int) < (D.length:Int)) =false:=by simp;omega
     clear h1 hp1 hfirst;go_wp2_with fail;refine(HC.out _).mono ?_;rintro e w1 ⟨rfl,hb1⟩;have B1:=LH (HB.out.trans (hb1.mono HB.out.size));go_wp2_with fail;exact bR (v:=.tuple #[.int .i64 n,.int .i64 D.length,.bool true]) (by simp only [results,Tryz.results214];go_simp) rfl ⟨rfl,B1.out⟩
def encT:Enc (List UInt8) 1:=⟨fun l=> [.string ⟨l.toArray⟩],fun _=>rfl,by intro x u hu;simp at hu;subst hu;rfl⟩
theorem flat_take {L:List (List UInt8)} {q:Nat} (h:q<L.length) : (L.take (q+1)).flatten= (L.take q).flatten ++ L[q]:=by
 rw [List.take_succ_eq_append_getElem h,List.flatten_append];simp
theorem seal_Of (w:World) (base:Nat) (v:Value) (L:List (List UInt8)) (ho:Own w base 9 encT v L) (hl: ∀l∈L,l.length≤1000000000000) (hn:L.length≤1000000) :
 Calls Tryz.prog 151 #[v] w fun e w'=>e=.returned (sumV (sumT (1,0) L.flatten))∧Below w.heap.size w w':=by
 obtain⟨A,c,rfl,_⟩:=ho.form;have HO:=LH (ho.base_le (Nat.zero_le _));have HLn:=LH hl;have HY0:=LH (SealAt.new w 0 0);have HB0:Hid (Below w.heap.size w (w.alloc (.cells #[.int .i64 (0:Nat),.int .i64 (0:Nat)] 206))):=LH bE;have HMo:=LH (fun W s l=>seal_More W s l);unfold sumV at HMo⊢;clear ho hl;generalize hG:sumT (1,0) L.flatten=G;have HG:=LH hG;clear hG
 go_enter Tryz.func151,Tryz.ntmps151
 go_wp2_with fail;refine(seal_Begin _).mono ?_;unfold sumV;rintro e w1 ⟨rfl,hb1⟩;have s1:=hb1.size;rw [size_alloc1] at s1;have HY1:=LH (HY0.out.below hb1);have HB1:=LH (HB0.out.trans (hb1.mono (by simp)));clear hb1;go_wp2_with fail
 go_loopw [9] (fun j wr=>∃q:Nat,j=.int .i64 q∧q≤L.length∧SealAt wr w1.heap.size (sumT (1,0) (L.take q).flatten).1 (sumT (1,0) (L.take q).flatten).2∧SealAt wr w.heap.size 0 0∧Below w.heap.size w wr) (fun j _=>L.length - (intOf j).toNat)
 case atStart=>
  refine⟨0,rfl,Nat.zero_le _,SealAt.new w1 1 0,HY1.out.alloc _,HB1.out.alloc (by omega) _⟩
 case round=>
  obtain⟨q,rfl,hq,hx,hy,hB⟩:=hrel;have HX:=LH hx;have HY:=LH hy;have HB:=LH hB;have HR:=LH (HO.out.below hB);have sz:=hB.size;have cc:=bC hx;have cf:=bF hx;have zb:=lB hx;clear hx hy hB;by_cases hlt:q<L.length
  ·have hqi: (q:Int) < (L.length:Int):=by omega
   obtain⟨b,off,rfl,hb,hc⟩:=HR.out.sl.at_ hlt;have d0:=hc 0 (.string ⟨(L[q]).toArray⟩) rfl;simp only [Nat.mul_one,Nat.add_zero] at d0;have HF:=LH (flat_take hlt);have HL:=LH (HLn.out _ (List.getElem_mem hlt));have HA:=LH (sumT_app (1,0) (L.take q).flatten L[q]);have HS:=LH (sumT_lt (s:=(1,0)) (by decide) (L.take q).flatten);generalize L[q] =l at d0 HF HL HA;rw [←HF.out] at HA;generalize sumT (1,0) (L.take q).flatten=S at HX HS HA cc;clear hc;go_wp2_with fail;refine(HMo.out _ S l HS.out HL.out).mono ?_;rintro e w2 ⟨rfl,hb2⟩;have HX2:=LH (HX.out.below hb2);have HY2:=LH (HY.out.below hb2);have HB2:=LH (HB.out.trans (hb2.mono sz));have cc2:=bC HX2.out;have cf2:=bF HX2.out;have zb2:=lB HX2.out;rw [←HA.out];clear hb2 cc cf zb HF;generalize hT:sumT (1,0) (L.take (q+1)).flatten=T;have HT:=LH hT;clear hT HA;have HX3:=LH ((HX2.out.put0 T.1).put1 T.2);have HY3:=LH ((HY2.out.set (q:=w1.heap.size) (o:=0) (by omega) (.int .i64 T.1)).set (q:=w1.heap.size) (o:=1) (by omega) (.int .i64 T.2));have HB3:=LH (Below.setCell (p:=⟨w1.heap.size,1,none⟩) (Below.setCell (p:=⟨w1.heap.size,0,none⟩) HB2.out (by simp;omega) (.int .i64 T.1)) (by simp;omega) (.int .i64 T.2));go_wp2_with fail;go_roundw
   case rel=>exact⟨q+1,by go_num,by omega,by rw [HT.out];exact HX3.out,HY3.out,HB3.out⟩
   case measure=>simp [intOf];omega
  ·obtain rfl:q=L.length:=by omega
   rw [List.take_length,HG.out] at HX cc;have hqi:decide ((L.length:Int) < (L.length:Int)) =false:=by simp
   have cd:=bC HY.out;have cg:=bF HY.out;have zc:=lB HY.out;have HYe:=LH ((HY.out.put0 G.1).put1 G.2);have HBe:=LH (Below.setCell (p:=⟨w.heap.size,1,none⟩) (Below.setCell (p:=⟨w.heap.size,0,none⟩) HB.out (by simp) (.int .i64 G.1)) (by simp) (.int .i64 G.2));go_wp2_with fail;generalize ((wr.setCell ⟨w.heap.size,0,none⟩ (.int .i64 G.1)).setCell ⟨w.heap.size,1,none⟩ (.int .i64 G.2)) =W4 at HYe HBe⊢;have ce:=bC HYe.out;have cfe:=bF HYe.out;have ze:=lB HYe.out;exact bR (v:=.agg #[.int .i64 G.1,.int .i64 G.2]) (by simp only [results,Tryz.results151];go_simp) rfl ⟨rfl,HBe.out⟩
def sealT (l:List UInt8) :List UInt8:=l ++ bytesL (sumT (1,0) l)
theorem sealT_len (l:List UInt8) : (sealT l).length=l.length+4:=by simp [sealT,bytesL]
theorem seal_Seal (w:World) (l:List UInt8) (hl:l.length≤8000000) :Calls Tryz.prog 73 #[.string ⟨l.toArray⟩] w fun e w'=>e=.returned (.string ⟨(sealT l).toArray⟩)∧Below w.heap.size w w':=by
 unfold sealT;have HO:Hid (Own (w.alloc (.cells #[.string ⟨l.toArray⟩] 9)) w.heap.size 9 encT (.slice (some ⟨w.heap.size,0,none⟩) 1 1) [l]):=LH (Own.lit w encT [l] 9 (Nat.le_refl _) (by simp [maxLen]));have HF:=LH (seal_Of _ _ _ _ HO.out (by simp;omega) (by simp));have HB0:Hid (Below w.heap.size w (w.alloc (.cells #[.string ⟨l.toArray⟩] 9))):=LH bE;have hfl: [l].flatten=l:=by simp
 rw [hfl] at HF;have HS:=LH (sumT_lt (s:=(1,0)) (by decide) l);generalize sumT (1,0) l=S at HF HS⊢;clear hfl HO
 go_enter Tryz.func73,Tryz.ntmps73
 go_wp2_with fail;refine HF.out.mono ?_;rintro e w1 ⟨rfl,hb1⟩;have HB1:=LH (HB0.out.trans (hb1.mono (by simp)));clear hb1;go_wp2_with fail;refine(seal_Bytes _ S HS.out).mono ?_;rintro e w2 ⟨rfl,hb2⟩;have HB2:=LH (HB1.out.trans (hb2.mono HB1.out.size));clear hb2;have hcat:=fun W=>run_string_add_lists (P:=Tryz.prog) W l (bytesL S) (by omega) (by simp [bytesL]);go_wp2_with fail;exact bR (v:=.string ⟨(l ++ bytesL S).toArray⟩) (by simp only [results,Tryz.results73];go_simp) rfl ⟨rfl,HB2.out⟩
theorem cut_prefix (w:World) (a t:List UInt8) :Calls Tryz.prog 112 #[.string ⟨(a ++ t).toArray⟩,.string ⟨a.toArray⟩] w fun e w'=>e=.returned (.tuple #[.string ⟨t.toArray⟩,.bool true])∧w'=w:=by
 have h:=Tryz.strings_CutPrefix ⟨(a ++ t).toArray⟩ ⟨a.toArray⟩ w;have h1:Lib.hasPrefix (a ++ t) a=true:=by unfold Lib.hasPrefix;rw [List.isPrefixOf_iff_prefix];exact List.prefix_append _ _
 have h2:Lib.trimPrefix (a ++ t) a=t:=by unfold Lib.trimPrefix;rw [if_pos h1,List.drop_left]
 simp only [h1,h2] at h;exact h
structure NextI (pl po:Nat) (t:List UInt8) (W:World) :Prop where
 l:W.heap[pl]? =some (.cells #[.string ⟨t.toArray⟩] 9 (0,0))
 o:W.heap[po]? =some (.cells #[.bool true] 4 (0,0))
theorem NextI.below {pl po:Nat} {t:List UInt8} {W W':World} (h:NextI pl po t W) (hb:Below W.heap.size W W') :NextI pl po t W':=⟨bB h.l hb,bB h.o hb⟩
def NextPost (pl po x:Nat) (t:List UInt8) (w:World) (e:Ending) (w':World) :Prop:=
 e=.returned (.int .i64 x)∧NextI pl po t w'∧w.heap.size≤w'.heap.size∧(∀b o,w.heap[b]? =some o→b≠pl→b≠po→w'.heap[b]? =some o)∧∀z,z≤pl→z≤po→z≤w.heap.size→Below z w w'
theorem sheet_next (w:World) (pl po:Nat) (a:List UInt8) (x:Nat) (t:List UInt8) (hx:x≤9223372036854775807) (ht:noDig t=true) (hl: (digB x ++ t).length≤1000000000) (hne:pl≠po)
 (h:NextI pl po (a ++ (digB x ++ t)) w) :Calls Tryz.prog 213 #[.string ⟨a.toArray⟩,.pointer (some ⟨pl,0,none⟩),.pointer (some ⟨po,0,none⟩)] w (NextPost pl po x t w):=by
 have cl:=bC h.l 0;have fl:=bF h.l;have co:=bC h.o 0;have fo:=bF h.o;have zl:=lB h.l;have zo:=lB h.o;have HH:=LH h;have HC:=LH (fun W=>cut_prefix W a (digB x ++ t));have HN:=LH (fun W=>sheet_Number W x t hx ht hl);have hdr: (ByteArray.mk (digB x ++ t).toArray).extract (digB x).length (digB x ++ t).length= ⟨t.toArray⟩:=by rw [text_drop,List.drop_left]
 have hdl: (digB x).length≤(digB x ++ t).length:=by simp
 obtain⟨A,hA⟩ : ∃A,A=a ++ (digB x ++ t):=⟨_,rfl⟩;obtain⟨D,hD⟩ : ∃D,D=digB x ++ t:=⟨_,rfl⟩;obtain⟨n,hn⟩ : ∃n,n= (digB x).length:=⟨_,rfl⟩;rw [←hA] at HH HC cl;rw [←hD] at HC HN hdr hdl hl;rw [←hn] at HN hdr hdl;clear hA hD hn h hx ht;unfold NextPost
 go_enter Tryz.func213,Tryz.ntmps213
 go_wp2_with fail;refine(HC.out _).mono ?_;rintro e w1 ⟨rfl,rfl⟩;go_wp2_with fail;refine(HN.out _).mono ?_;rintro e w2 ⟨rfl,hb2⟩;have K2:=LH (HH.out.below hb2);have kl:=K2.out.l;have ko:=K2.out.o;have cl2:=bC kl 0;have fl2:=bF kl;have co2:=bC ko 0;have fo2:=bF ko;have zl2:=lB kl;have zo2:=lB ko;have HB2:=LH hb2;clear cl fl co fo kl ko hb2;go_wp2_with fail;go_ret;refine⟨rfl,⟨?_,?_⟩,?_,?_,?_⟩
 ·exact zH (i:=0) ((Below.heap_setCell _ _ _ _ hne).trans K2.out.l) (.string ⟨t.toArray⟩)
 ·exact(Below.heap_setCell _ _ _ _ hne.symm).trans (zH (i:=0) K2.out.o (.bool true))
 ·simpa using HB2.out.size
 ·intro b o hb h1 h2
  have hlt:b<w1.heap.size:=(Array.getElem?_eq_some_iff.1 hb).1;exact(Below.heap_setCell _ _ _ _ h1).trans ((Below.heap_setCell _ _ _ _ h2).trans ((HB2.out.block _ hlt).trans hb))
 ·intro z h1 h2 h3
  exact((HB2.out.mono h3).setCell (p:=⟨po,0,none⟩) h2 _).setCell (p:=⟨pl,0,none⟩) h1 _
def nC (x0 x1 x2:Nat) :Nat→Array Value
 |0=> #[.int .i64 0,.int .i64 0,.int .i64 0]
 |1=> #[.int .i64 x0,.int .i64 0,.int .i64 0]
 |2=> #[.int .i64 x0,.int .i64 x1,.int .i64 0]
 |_=> #[.int .i64 x0,.int .i64 x1,.int .i64 x2]
def lineQ (a0 a1 a2:List UInt8) (x0 x1 x2:Nat) :Nat→List UInt8
 |0=>a0 ++ (digB x0 ++ (a1 ++ (digB x1 ++ (a2 ++ (digB x2 ++ [])))))
 |1=>a1 ++ (digB x1 ++ (a2 ++ (digB x2 ++ [])))
 |2=>a2 ++ (digB x2 ++ [])
 |_=> []
structure ThrI (w:World) (a0 a1 a2:List UInt8) (x0 x1 x2 q:Nat) (W:World) :Prop where
 n:W.heap[w.heap.size]? =some (.cells (nC x0 x1 x2 q) 228 (0,0))
 i:NextI (w.heap.size+1+1) (w.heap.size+1) (lineQ a0 a1 a2 x0 x1 x2 q) W
 b:Below w.heap.size w W
theorem sheet_three (w:World) (A:Option Addr) (cap:Nat) (a0 a1 a2:List UInt8) (x0 x1 x2:Nat) (hS:Sl w w.heap.size encT A [a0,a1,a2])
 (h0:x0≤9223372036854775807) (h1:x1≤9223372036854775807) (h2:x2≤9223372036854775807) (n1: ∀t,noDig (a1 ++ t) =true) (n2: ∀t,noDig (a2 ++ t) =true) (hl: (lineQ a0 a1 a2 x0 x1 x2 0).length≤1000000000) :
 Calls Tryz.prog 173 #[.string ⟨(lineQ a0 a1 a2 x0 x1 x2 0).toArray⟩,.slice A 3 cap] w fun e w'=>e=.returned (.tuple #[.agg #[.int .i64 x0,.int .i64 x1,.int .i64 x2],.bool true])∧Below w.heap.size w w':=by
 have HS:=LH hS;have hl0: (digB x0 ++ (a1 ++ (digB x1 ++ (a2 ++ (digB x2 ++ []))))).length≤1000000000:=by unfold lineQ at hl;simp only [List.length_append,List.length_nil] at hl⊢;omega
 have hl1: (digB x1 ++ (a2 ++ (digB x2 ++ []))).length≤1000000000:=by unfold lineQ at hl;simp only [List.length_append,List.length_nil] at hl⊢;omega
 have hl2: (digB x2 ++ []).length≤1000000000:=by unfold lineQ at hl;simp only [List.length_append,List.length_nil] at hl⊢;omega
 have HN0:=LH (fun W h=>sheet_next W (w.heap.size+1+1) (w.heap.size+1) a0 x0 (a1 ++ (digB x1 ++ (a2 ++ (digB x2 ++ [])))) h0 (n1 _) hl0 (by omega) h);have HN1:=LH (fun W h=>sheet_next W (w.heap.size+1+1) (w.heap.size+1) a1 x1 (a2 ++ (digB x2 ++ [])) h1 (n2 _) hl1 (by omega) h);have HN2:=LH (fun W h=>sheet_next W (w.heap.size+1+1) (w.heap.size+1) a2 x2 [] h2 rfl hl2 (by omega) h);clear hS h0 h1 h2 n1 n2 hl hl0 hl1 hl2;obtain⟨R,hR⟩ : ∃R,R=lineQ a0 a1 a2 x0 x1 x2 0:=⟨_,rfl⟩;have HR:=LH hR;rw [←hR];clear hR
 go_enter Tryz.func173,Tryz.ntmps173
 go_wp2_with fail
 go_loopw [14] (fun i wr=>∃q:Nat,q≤3∧i=.int .i64 q∧ThrI w a0 a1 a2 x0 x1 x2 q wr) (fun i _=>3 - (intOf i).toNat)
 case atStart=>
  refine⟨0,by omega,rfl,⟨?_,⟨?_,?_⟩,bE⟩⟩
  ·exact(Below.heap_alloc _ _ _ (by simp;omega)).trans ((Below.heap_alloc _ _ _ (by simp)).trans (heap_alloc_new w _))
  ·rw [←HR.out];exact heap_new_at ((w.alloc (.cells #[.int .i64 0,.int .i64 0,.int .i64 0] 228)).alloc (.cells #[.bool true] 4)) (.cells #[.string ⟨R.toArray⟩] 9) _ (by simp)
  ·exact(Below.heap_alloc _ _ _ (by simp)).trans (heap_new_at (w.alloc (.cells #[.int .i64 0,.int .i64 0,.int .i64 0] 228)) (.cells #[.bool true] 4) _ (by simp))
 case round=>
  obtain⟨q,hq,rfl,hT⟩:=hrel;obtain rfl|rfl|rfl|rfl:q=0∨q=1∨q=2∨q=3:=by omega
  ·obtain⟨b,off,rfl,hb,hc⟩:=(HS.out.below hT.b).at_ (k:=0) (by simp)
   have d0:=hc 0 (.string ⟨a0.toArray⟩) rfl;simp only [Nat.mul_one,Nat.add_zero,Nat.one_mul,Nat.zero_mul] at d0;have cn:=bC hT.n;have fn:=bF hT.n;have zn:=lB hT.n;have HT:=LH hT;clear hT hc;go_wp2_with fail;refine(HN0.out _ HT.out.i).mono ?_;rintro e w1 ⟨rfl,hi1,hs1,hk1,hb1⟩;have k1:=hk1 _ _ HT.out.n (by omega) (by omega);have c1:=bC k1;have f1:=bF k1;have z1:=lB k1;have KN:=LH (zH (i:=0) k1 (.int .i64 x0));have KI:Hid (NextI (w.heap.size+1+1) (w.heap.size+1) (lineQ a0 a1 a2 x0 x1 x2 1) (w1.setCell ⟨w.heap.size,0,none⟩ (.int .i64 x0))):=LH ⟨(Below.heap_setCell _ _ _ _ (show w.heap.size+1+1≠w.heap.size by omega)).trans hi1.l,(Below.heap_setCell _ _ _ _ (show w.heap.size+1≠w.heap.size by omega)).trans hi1.o⟩;have KB:=LH ((HT.out.b.trans (hb1 _ (by omega) (by omega) HT.out.b.size)).setCell (p:=⟨w.heap.size,0,none⟩) (Nat.le_refl _) (.int .i64 x0));clear hi1 hk1 hb1 k1 cn fn zn;go_wp2_with fail;go_roundw
   case rel=>exact⟨1,by omega,by go_num,⟨KN.out,KI.out,KB.out⟩⟩
   case measure=>simp [intOf]
  ·obtain⟨b,off,rfl,hb,hc⟩:=(HS.out.below hT.b).at_ (k:=1) (by simp)
   have d0:=hc 0 (.string ⟨a1.toArray⟩) rfl;simp only [Nat.mul_one,Nat.add_zero,Nat.one_mul,Nat.zero_mul] at d0;have cn:=bC hT.n;have fn:=bF hT.n;have zn:=lB hT.n;have HT:=LH hT;clear hT hc;go_wp2_with fail;refine(HN1.out _ HT.out.i).mono ?_;rintro e w1 ⟨rfl,hi1,hs1,hk1,hb1⟩;have k1:=hk1 _ _ HT.out.n (by omega) (by omega);have c1:=bC k1;have f1:=bF k1;have z1:=lB k1;have KN:=LH (zH (i:=1) k1 (.int .i64 x1));have KI:Hid (NextI (w.heap.size+1+1) (w.heap.size+1) (lineQ a0 a1 a2 x0 x1 x2 2) (w1.setCell ⟨w.heap.size,1,none⟩ (.int .i64 x1))):=LH ⟨(Below.heap_setCell _ _ _ _ (show w.heap.size+1+1≠w.heap.size by omega)).trans hi1.l,(Below.heap_setCell _ _ _ _ (show w.heap.size+1≠w.heap.size by omega)).trans hi1.o⟩;have KB:=LH ((HT.out.b.trans (hb1 _ (by omega) (by omega) HT.out.b.size)).setCell (p:=⟨w.heap.size,1,none⟩) (Nat.le_refl _) (.int .i64 x1));clear hi1 hk1 hb1 k1 cn fn zn;go_wp2_with fail;go_roundw
   case rel=>exact⟨2,by omega,by go_num,⟨KN.out,KI.out,KB.out⟩⟩
   case measure=>simp [intOf]
  ·obtain⟨b,off,rfl,hb,hc⟩:=(HS.out.below hT.b).at_ (k:=2) (by simp)
   have d0:=hc 0 (.string ⟨a2.toArray⟩) rfl;simp only [Nat.mul_one,Nat.add_zero,Nat.one_mul,Nat.zero_mul] at d0;have cn:=bC hT.n;have fn:=bF hT.n;have zn:=lB hT.n;have HT:=LH hT;clear hT hc;go_wp2_with fail;refine(HN2.out _ HT.out.i).mono ?_;rintro e w1 ⟨rfl,hi1,hs1,hk1,hb1⟩;have k1:=hk1 _ _ HT.out.n (by omega) (by omega);have c1:=bC k1;have f1:=bF k1;have z1:=lB k1;have KN:=LH (zH (i:=2) k1 (.int .i64 x2));have KI:Hid (NextI (w.heap.size+1+1) (w.heap.size+1) (lineQ a0 a1 a2 x0 x1 x2 3) (w1.setCell ⟨w.heap.size,2,none⟩ (.int .i64 x2))):=LH ⟨(Below.heap_setCell _ _ _ _ (show w.heap.size+1+1≠w.heap.size by omega)).trans hi1.l,(Below.heap_setCell _ _ _ _ (show w.heap.size+1≠w.heap.size by omega)).trans hi1.o⟩;have KB:=LH ((HT.out.b.trans (hb1 _ (by omega) (by omega) HT.out.b.size)).setCell (p:=⟨w.heap.size,2,none⟩) (Nat.le_refl _) (.int .i64 x2));clear hi1 hk1 hb1 k1 cn fn zn;go_wp2_with fail;go_roundw
   case rel=>exact⟨3,by omega,by go_num,⟨KN.out,KI.out,KB.out⟩⟩
   case measure=>simp [intOf]
  ·have kn:wr.heap[w.heap.size]? =some (.cells #[.int .i64 x0,.int .i64 x1,.int .i64 x2] 228 (0,0)):=hT.n
   have ko:=hT.i.o;have kl:=hT.i.l;have cn0:wr.cell? ⟨w.heap.size,0,none⟩ =some (.int .i64 x0):=bC kn 0;have cn1:wr.cell? ⟨w.heap.size,1,none⟩ =some (.int .i64 x1):=bC kn 1;have cn2:wr.cell? ⟨w.heap.size,2,none⟩ =some (.int .i64 x2):=bC kn 2;have co0:wr.cell? ⟨w.heap.size+1,0,none⟩ =some (.bool true):=bC ko 0;have cl0:wr.cell? ⟨w.heap.size+1+1,0,none⟩ =some (.string ⟨#[]⟩):=bC kl 0;have fn:=bF kn;have fo:=bF ko;have fl:=bF kl;have zn:=lB kn;have zo:=lB ko;have zl:=lB kl;have HB:=LH hT.b;clear hT kn ko kl;go_wp2_with fail
   go_region
   all_goals (
    go_wp2_with fail;have hB:=HB.out;exact bR (v:=.tuple #[.agg #[.int .i64 x0,.int .i64 x1,.int .i64 x2],.bool true]) (by simp only [results,Tryz.results173];go_simp) rfl ⟨rfl,bE⟩)
theorem log2_in {x b y:Nat} (hx:1≤x) (h1:x*2^b≤y) (h2:y<x*2^b+2^b) :y.log2=x.log2+b:=by
 have h3:=Nat.log2_self_le (show x≠0 by omega);have h4:x<2^ (x.log2+1):=Nat.lt_log2_self;have hp:0<2^b:=Nat.pow_pos (by decide);have h5:2^x.log2*2^b≤x*2^b:=Nat.mul_le_mul_right _ h3;have h6: (x+1) *2^b≤2^ (x.log2+1) *2^b:=Nat.mul_le_mul_right _ h4;rw [←Nat.pow_add] at h5 h6;rw [Nat.add_mul,Nat.one_mul] at h6;have h0:1*2^b≤x*2^b:=Nat.mul_le_mul_right _ hx;have hy:y≠0:=by omega
 rw [Nat.log2_eq_iff hy];rw [show x.log2+1+b=x.log2+b+1 by omega] at h6;omega
theorem half_a (x b:Nat) : ((x*2^ (b+1) :Nat) :Int) / 2= ((x*2^b:Nat) :Int):=by
 rw [Nat.pow_succ,←Nat.mul_assoc];omega
theorem half_b (x b:Nat) : ((x*2^ (b+1) +2^ (b+1) - 1:Nat) :Int) / 2= ((x*2^b+2^b - 1:Nat) :Int):=by
 have hp:0<2^b:=Nat.pow_pos (by decide);rw [Nat.pow_succ,←Nat.mul_assoc];omega
theorem twig_Meet (w:World) (x b:Nat) (hx:1≤x) (hb:x*2^b+2^b - 1≤562949953421312) :
 Calls Tryz.prog 215 #[.int .i64 (x*2^b:Nat),.int .i64 (x*2^b+2^b - 1:Nat)] w fun e w'=>e=.returned (.tuple #[.int .i64 x,.bool true])∧Below w.heap.size w w':=by
 have hp:0<2^b:=Nat.pow_pos (by decide);have h0:1*2^b≤x*2^b:=Nat.mul_le_mul_right _ hx;have l1:=log2_in (b:=b) hx (Nat.le_refl _) (by omega);have l2:=log2_in (b:=b) (y:=x*2^b+2^b - 1) hx (by omega) (by omega);have HX:=LH (fun W=>twig_Depth W (x*2^b:Nat) (by omega));have HY:=LH (fun W=>twig_Depth W (x*2^b+2^b - 1:Nat) (by omega));rw [if_pos (by omega),Int.toNat_natCast,l1] at HX;rw [if_pos (by omega),Int.toNat_natCast,l2] at HY;generalize x.log2+b=d at HX HY;clear l1 l2 h0 hp;have HA:=LH (half_a x);have HB:=LH (half_b x)
 have HM:Hid (∀c,c≤b→x*2^c+2^c - 1≤562949953421312):=LH (fun c hc=>by
  have h1:2^c≤2^b:=Nat.pow_le_pow_right (by decide) hc;have h2:x*2^c≤x*2^b:=Nat.mul_le_mul_left _ h1;omega)
 clear hb;obtain⟨P,hP⟩ : ∃P,P=x*2^b:=⟨_,rfl⟩;obtain⟨Q,hQ⟩ : ∃Q,Q=x*2^b+2^b - 1:=⟨_,rfl⟩;have HP:=LH hP;have HQ:=LH hQ;rw [←hQ] at HY⊢;rw [←hP] at HX⊢;clear hP hQ
 go_enter Tryz.func215,Tryz.ntmps215
 go_wp2_with fail;refine(HX.out _).mono ?_;rintro e w1 ⟨rfl,hb1⟩;have B1:Below w.heap.size w w1:=Below.then_ bE hb1;have s1:=B1.size;go_wp2_with fail;refine(HY.out _).mono ?_;rintro e w2 ⟨rfl,hb2⟩;have B2:Below w.heap.size w w2:=Below.then_ bE hb2;have s2:=B2.size;go_wp2_with fail
 go_loopw [0,1] (fun p q wr=>∃c:Nat,c≤b∧p=.int .i64 (x*2^c:Nat)∧q=.int .i64 (x*2^c+2^c - 1:Nat)∧Below w.heap.size w wr) (fun _ q _=>(intOf q).toNat)
 case atStart=>exact⟨b,Nat.le_refl _,by rw [HP.out],by rw [HQ.out],B2⟩
 case round=>
  obtain⟨c,hc,rfl,rfl,hB⟩:=hrel;have BW:=LH hB
  cases c with
  |zero=>
   have e1:x*2^0=x:=by omega
   have e2:x*2^0+2^0 - 1=x:=by omega
   rw [e2,e1];clear hB hb1 hb2 e1 e2;go_wp2_with fail;exact bR (v:=.tuple #[.int .i64 x,.bool true]) (by simp only [results,Tryz.results215];go_simp) rfl ⟨rfl,BW.out⟩
  |succ c=>
   have ha:=HA.out c;have hb:=HB.out c;have hm:=HM.out (c+1) hc;have hp:0<2^c:=Nat.pow_pos (by decide);have h2:2^ (c+1) =2*2^c:=by rw [Nat.pow_succ];omega
   have hlt:x*2^ (c+1)≠x*2^ (c+1) +2^ (c+1) - 1:=by omega
   have HR:=LH (show ∃k:Nat,k≤b∧Value.int .i64 ((x*2^c:Nat) :Int) =.int .i64 (x*2^k:Nat)∧Value.int .i64 ((x*2^c+2^c - 1:Nat) :Int) =.int .i64 (x*2^k+2^k - 1:Nat) from⟨c,by omega,rfl,rfl⟩);have hs:x*2^c+2^c - 1<x*2^ (c+1) +2^ (c+1) - 1:=by rw [Nat.pow_succ,←Nat.mul_assoc];omega
   generalize x*2^ (c+1) +2^ (c+1) - 1=Q1 at hb hm hlt hs⊢;generalize x*2^ (c+1) =P1 at ha hlt⊢;generalize x*2^c+2^c - 1=Q2 at hb HR hs;generalize x*2^c=P2 at ha HR;have hne: ((P1:Int) == (Q1:Int)) =false:=beq_eq_false_iff_ne.2 (by omega);have HS:=LH hs;clear hB hb1 hb2 hlt h2 hp hm hc hs;go_wp2_with fail;go_roundw
   case rel=>
    obtain⟨k,hk,e1,e2⟩:=HR.out;exact⟨k,hk,e1,e2,BW.out⟩
   case measure=>have:=HS.out;simp [intOf];omega
theorem node_leaves {l:Nat} {id:Int} (h:isNode l id=true) : ∃x b:Nat,id=x∧1≤x∧x*2^b+2^b - 1≤562949953421312∧1≤l∧l≤48∧isVal l (endsOf l id).1=true∧isVal l (endsOf l id).2.1=true∧
 (2:Int) ^l+ (endsOf l id).1= ((x*2^b:Nat) :Int)∧(2:Int) ^l+ (endsOf l id).2.1= ((x*2^b+2^b - 1:Nat) :Int):=by
 obtain⟨n,x,hn,rfl,hn1,hn2,hx1,hx2⟩:=isNode_nat h;obtain rfl:n=l:=by omega
 obtain⟨d,b,t,hd,hb,hdb,hxt,htd,hprod⟩:=node_facts hn2 hx1 hx2
 have e1:endsOf n x= ((t:Int) *2^b,(t:Int) *2^b+2^b - 1,true):=by
  simp only [endsOf,h,if_true,Int.toNat_natCast,hd,hb];have: (x:Int) - 2^d=t:=by rw [hxt];push_cast;omega
  rw [this]
 have p48:=pow_48 (n:=n) hn2;have hpb:0<2^b:=Nat.pow_pos (by decide);have hnb: (2:Int) ^n= ((2^n:Nat) :Int):=by push_cast;rfl
 have hbb: (2:Int) ^b= ((2^b:Nat) :Int):=by push_cast;rfl
 have hxb:x*2^b=2^n+t*2^b:=by rw [hxt,Nat.add_mul,←Nat.pow_add,hdb]
 have hmul: (t:Int) * ((2^b:Nat) :Int) = ((t*2^b:Nat) :Int):=by push_cast;rfl
 rw [Nat.add_mul,Nat.one_mul] at hprod;rw [e1];simp only;rw [hbb,hmul,hnb];rw [hnb] at p48;refine⟨x,b,rfl,by omega,by omega,by omega,by omega,?_,?_,by omega,by omega⟩
 all_goals (unfold isVal;rw [hnb];simp only [Bool.and_eq_true,decide_eq_true_eq];omega)
theorem sheet_Node (w:World) (l:Nat) (id:Int) (h:isNode l id=true) :
 Calls Tryz.prog 174 #[.int .i64 l,.int .i64 (endsOf l id).1,.int .i64 (endsOf l id).2.1] w fun e w'=>e=.returned (.tuple #[.int .i64 id,.bool true])∧Below w.heap.size w w':=by
 obtain⟨x,b,rfl,hx,hm,hl1,hl2,v1,v2,e1,e2⟩:=node_leaves h
 have hid: ((x:Nat) :Int)≤9223372036854775807:=by
  have hp:0<2^b:=Nat.pow_pos (by decide);have h0:x*1≤x*2^b:=Nat.mul_le_mul_left _ hp;omega
 have H1:=LH (fun W=>twig_Leaf W l (endsOf l x).1 hl1 hl2);have H2:=LH (fun W=>twig_Leaf W l (endsOf l x).2.1 hl1 hl2);rw [leafV_yes v1,e1] at H1;rw [leafV_yes v2,e2] at H2;have H3:=LH (fun W=>twig_Meet W x b hx hm);have H4:=LH (fun W=>twig_Ends W l x hid);have e3: (endsOf l x).2.2=true:=by unfold endsOf;rw [if_pos h]
 unfold endsV at H4;rw [e3] at H4;generalize x*2^b+2^b - 1=Q at H2 H3;generalize x*2^b=P at H1 H3;generalize (endsOf l x).1=lo at H1 H4⊢;generalize (endsOf l x).2.1=hi at H2 H4⊢;clear h hx hm v1 v2 e1 e2 e3 hid
 go_enter Tryz.func174,Tryz.ntmps174
 go_wp2_with fail;refine(H1.out _).mono ?_;rintro e w1 ⟨rfl,hb1⟩;have B1:Below w.heap.size w w1:=Below.then_ bE hb1;have s1:=B1.size;go_wp2_with fail;refine(H2.out _).mono ?_;rintro e w2 ⟨rfl,hb2⟩;have B2:Below w.heap.size w w2:=Below.then_ bE hb2;have s2:=B2.size;go_wp2_with fail;refine(H3.out _).mono ?_;rintro e w3 ⟨rfl,hb3⟩;have B3:Below w.heap.size w w3:=Below.then_ bE hb3;have s3:=B3.size;go_wp2_with fail;refine(H4.out _).mono ?_;rintro e w4 ⟨rfl,hb4⟩;have B4:Below w.heap.size w w4:=Below.then_ bE hb4;have s4:=B4.size;go_wp2_with fail;exact bR (v:=.tuple #[.int .i64 x,.bool true]) (by simp only [results,Tryz.results174];go_simp) rfl ⟨rfl,B4⟩
def roomL (a:Nat) (suf:List UInt8) :List Value:=List.replicate a (.int .u8 0) ++ suf.map fun b=>.int .u8 (b.toNat:Int)
def RoomAt (W:World) (b a:Nat) (suf:List UInt8) :Prop:=W.heap[b]? =some (.cells (roomL a suf).toArray 208 (0,0))
theorem roomL_put (a:Nat) (suf:List UInt8) (c:UInt8) : (roomL (a+1) suf).set a (.int .u8 (c.toNat:Int)) =roomL a (c :: suf):=by
 unfold roomL;rw [List.replicate_succ',List.append_assoc,List.set_append_right _ _ (by simp)];simp
theorem RoomAt.put {W:World} {b a:Nat} {suf:List UInt8} (h:RoomAt W b (a+1) suf) (c:UInt8) :RoomAt (W.setCell ⟨b,a,none⟩ (.int .u8 (c.toNat:Int))) b a (c :: suf):=by
 have h1:=zH (i:=a) h (.int .u8 (c.toNat:Int));unfold RoomAt;rw [←roomL_put]
 simpa using h1
theorem room_at {W:World} {b a:Nat} {suf:List UInt8} (h:RoomAt W b a suf) (j:Nat) (hj:j<suf.length) :W.cell? ⟨b,a+j,none⟩ =some (.int .u8 (suf[j].toNat:Int)):=by
 rw [bC h];unfold roomL;simp only [List.getElem?_toArray];rw [List.getElem?_append_right (by simp),List.length_replicate,Nat.add_sub_cancel_left,List.getElem?_map,List.getElem?_eq_getElem hj]
 rfl
theorem room_slice (b a:Nat) (ha:a<19) (W:World) : (Instr.sliceAt 208 (.pointer (some ⟨b,0,none⟩)) (some (.int .i64 (a:Int))) none none).run Tryz.prog W=.ok (.slice (some ⟨b,a,none⟩) (19 - a) (19 - a)) W:=by
 have e1: (Tryz.prog).arrayLen 208=19:=by kernel_rfl
 have e2: (Tryz.prog).elem 208=5:=by kernel_rfl
 rw [run_sliceAt_array_l W 208 ⟨b,0,none⟩ (by rw [e1,e2];exact Tryz.underlying208) .i64 a (by omega) (by rw [e1];omega),e1,e2];rw [show (Go.sizeOf 5).run Tryz.prog W=.ok 1 W from Tryz.sizeOf5 W];simp only [Result.andThen,Int.toNat_natCast];unfold slicedAt;rw [if_neg (by omega)];unfold Addr.add
 split <;> simp_all
theorem sheet_Digits (w:World) (n:Nat) (hn:n≤9223372036854775807) :
 Calls Tryz.prog 77 #[.int .i64 n] w fun e w'=>e=.returned (.string ⟨(digB n).toArray⟩)∧Below w.heap.size w w':=by
 have HL:=LH (digB_le hn);have n0:decide ((n:Int) <0) =false:=by simp
 go_enter Tryz.func77,Tryz.ntmps77
 go_wp2_with fail
 go_loopw [4,0] (fun i k wr=>∃(a m:Nat) (suf:List UInt8),i=.int .i64 (a+1:Nat)∧k=.int .i64 m∧m≤n∧suf.length+ (a+1) =19∧digB m ++ suf=digB n∧RoomAt wr w.heap.size (a+1) suf∧Below w.heap.size w wr) (fun i _ _=>(intOf i).toNat)
 case atStart=>exact⟨18,n, [],rfl,rfl,Nat.le_refl _,rfl,by simp,heap_alloc_new w _,bE⟩
 case round=>
  obtain⟨a,m,suf,rfl,rfl,hm,hs,hd,hR,hB⟩:=hrel;have HR:=LH hR;have HB:=LH hB;have HD:=LH hd;have hfz:=bF hR
  have hcell:wr.cell? ⟨w.heap.size,a,none⟩ =some (.int .u8 0):=by
   rw [bC hR];unfold roomL;simp only [List.getElem?_toArray];rw [List.getElem?_append_left (by simp),List.getElem?_replicate,if_pos (by omega)]
  have hzt:=lB hR;have hb1:IntKind.u8.wrap (48+ (m:Int) % 10) = ((dgt m).toNat:Int):=by rw [dgt_nat m,IntKind.wrap_u8];omega
  have hai: (a:Int) <19:=by omega
  have hq:wrap64 ((m:Int) / 10) = ((m / 10:Nat) :Int):=by unfold wrap64;omega
  have HP:=LH (hR.put (dgt m));have HB2:=LH (hB.setCell (p:=⟨w.heap.size,a,none⟩) (Nat.le_refl _) (.int .u8 ((dgt m).toNat:Int)));clear hR hB;by_cases h0:m / 10=0
  ·have h0': ((m / 10:Nat) :Int) =0:=by omega
   rw [h0'] at hq;have hL: (dgt m :: suf).length=19 - a:=by simp only [List.length_cons];omega
   have he:dgt m :: suf=digB n:=by rw [←hd,digB_lt (by omega)];rfl
   have hsl:=room_slice w.heap.size a (by omega);rw [←hL,he] at hsl
   have hcv:=run_convert_bytes_back (P:=Tryz.prog) (wr.setCell ⟨w.heap.size,a,none⟩ (.int .u8 ((dgt m).toNat:Int))) 134 9 5 ⟨w.heap.size,a,none⟩ (digB n).length (digB n) Tryz.underlying134 Tryz.underlying5 Tryz.underlying9 (by
    rw [←he];intro j hj;have:=room_at HP.out j hj;rw [show Addr.add ⟨w.heap.size,a,none⟩ j= ⟨w.heap.size,a+j,none⟩ by unfold Addr.add;split <;> simp_all];exact this)
   clear hd hs hm hn hL he h0 h0';go_wp2_with fail;exact bR (v:=.string ⟨(digB n).toArray⟩) (by simp only [results,Tryz.results77];go_simp) rfl ⟨rfl,HB2.out⟩
  ·have h0': (((m / 10:Nat) :Int) == 0) =false:=by simp;omega
   have he:digB (m / 10) ++ (dgt m :: suf) =digB n:=by rw [←hd,digB_ge (n:=m) (by omega)];simp
   have HE:=LH he;obtain⟨k,hk⟩ : ∃k,k=m / 10:=⟨_,rfl⟩;have hkn:k≤n:=by omega
   have hpos:=digB_pos (m / 10);have hlen: (digB n).length≤19:=HL.out;rw [←he] at hlen;simp only [List.length_append,List.length_cons] at hlen;obtain⟨a',rfl⟩ : ∃a',a=a'+1:=⟨a - 1,by omega⟩;have hlS: (dgt m :: suf).length+ (a'+1) =19:=by simp only [List.length_cons];omega
   have HS:=LH hlS;rw [←hk] at hq h0' HE;clear hd hs hm hn he h0 hk hpos hlen hlS;go_wp2_with fail;go_roundw
   case rel=>exact⟨a',k,_,rfl,by rw [hq],hkn,HS.out,HE.out,HP.out,HB2.out⟩
   case measure=>simp [intOf];omega
abbrev BldS (B b:Nat) (bs:List Value) (w:World) :Prop:=Lib.IsBuilderF 137 5 B b bs w
abbrev BldU (B b:Nat) (bs:List Value) (w:World) :Prop:=Lib.BuilderAtF 137 5 B b (.pointer (some ⟨b,0,none⟩)) bs w
theorem bld_info: ((Tryz.prog).info? 137).map (·.size) =some 2:=by kernel_rfl
theorem bld_lies:liesAt Tryz.prog (Tryz.prog).depth 137 (2 / (Tryz.prog).cellsOf 137) 0 137 1=true:=by kernel_rfl
theorem bld_used (b:Nat) (w:World) (h0:w.cell? ⟨b,0,none⟩ =some (.pointer (some ⟨b,0,none⟩))) :
 Calls Tryz.prog 153 #[.pointer (some ⟨b,0,none⟩)] w fun e w'=>e=.returned (.tuple #[])∧w'=w:=by
 obtain⟨j,hj,_⟩:=Option.map_eq_some_iff.1 bld_info;have HN:=LH (Lib.run_neq_ptr_same (P:=Tryz.prog) w ⟨b,0,none⟩ Tryz.underlying135 hj);clear hj
 go_enter Tryz.func153,Tryz.ntmps153
 go_wp2_with fail;rw [HN.out];go_wp2_with fail
 go_end0
 exact⟨rfl,rfl⟩
theorem bld_fresh (b:Nat) (w:World) (h0:w.cell? ⟨b,0,none⟩ =some (.pointer none)) (hsh:w.shape? b=some (137,2)) (hfz:w.frozen? ⟨b,0,none⟩ =false) :
 Calls Tryz.prog 153 #[.pointer (some ⟨b,0,none⟩)] w fun e w'=>e=.returned (.tuple #[])∧w'=w.setCell ⟨b,0,none⟩ (.pointer (some ⟨b,0,none⟩)):=by
 obtain⟨j,hj,hjs⟩:=Option.map_eq_some_iff.1 bld_info;have H1:=LH (Lib.run_to_unsafe (P:=Tryz.prog) w ⟨b,0,none⟩ Tryz.underlying135 Tryz.underlying238 hj (by rw [hjs];decide) hsh (Nat.zero_lt_succ 1))
 have H2:Hid ((callFunc 196 #[.pointer (some ⟨b,0,none⟩)]).run Tryz.prog w=.ok (.value (.pointer (some ⟨b,0,none⟩))) w):=LH (by
  rw [run_callFunc_extern Tryz.func196 (by kernel_rfl) (by kernel_rfl) (by kernel_rfl) (e:=Extern.AbiNoEscape.same) (by kernel_rfl),Lib.run_noEscape]
  rfl)
 have H3:=LH (Lib.run_from_unsafe (P:=Tryz.prog) w ⟨b,0,none⟩ Tryz.underlying238 Tryz.underlying135 hj hsh bld_lies);clear hj hjs;replace H1:=H1.out;replace H2:=H2.out;replace H3:=H3.out
 go_enter Tryz.func153,Tryz.ntmps153
 go_wp2_with fail
 go_end0
 exact⟨rfl,rfl⟩
theorem bld_check (B b:Nat) (bs:List Value) (w:World) (h:BldS B b bs w) :
 Calls Tryz.prog 153 #[.pointer (some ⟨b,0,none⟩)] w fun e w'=>e=.returned (.tuple #[])∧BldU B b bs w'∧Below B w w'∧Lib.OthersKept 5 (some b) w w':=by
 rcases h with h|h
 ·refine(bld_fresh b w h.cell0 h.shape h.frozen0).mono ?_
  rintro e w' ⟨rfl,rfl⟩;exact⟨rfl,h.used _,(Below.refl B w).setCell (p:=⟨b,0,none⟩) h.1 _,Lib.OthersKept.setCell (Lib.OthersKept.refl 5 (some b) w) ⟨b,0,none⟩ rfl _⟩
 ·refine(bld_used b w h.cell0).mono ?_
  rintro e w' ⟨rfl,rfl⟩;exact⟨rfl,h,Below.refl _ _,Lib.OthersKept.refl _ _ _⟩
theorem info_u8: ∃i,(Tryz.prog).info? 5=some i∧i.zero=some (.int .u8 0)∧i.size=1∧i.bytes=1:=by
 have h: ((Tryz.prog).info? 5).map (fun i=>(i.zero,i.size,i.bytes)) =some (some (.int .u8 0),1,1):=by kernel_rfl
 obtain⟨i0,hi,hz0,hz1,hz2⟩:=info_parts h;exact⟨i0,hi,hz0,hz1,hz2⟩
theorem ne_bld:137≠5:=by decide
theorem bld_WriteString (B b:Nat) (bs:List Value) (s:ByteArray) (w:World) (h:BldS B b bs w) (hlen:bs.length+s.size≤140737488355328) (hBw:B≤w.heap.size) :
 Calls Tryz.prog 75 #[.pointer (some ⟨b,0,none⟩),.string s] w fun e w'=>e=.returned (.tuple #[.int .i64 s.size,.nilIface])∧BldU B b (bs ++ Lib.strCells s) w'∧Below B w w'∧Lib.OthersKept 5 (some b) w w':=by
 obtain⟨i0,hi,hz0,hz1,hz2⟩:=info_u8
 go_enter Tryz.func75,Tryz.ntmps75
 go_wp2_with fail;refine(bld_check B b bs _ h).mono ?_;rintro e w1 ⟨rfl,⟨hB,v,hbk,hown,hne⟩,hb1,hk1⟩;have c0:=bC hbk;have f0:=bF hbk;go_wp2_with ((at_builtin;refine Lib.wpList_append_own_stringF _ rfl _ _ 134 9 rfl B 5 i0 Tryz.underlying134 Tryz.underlying9 hi hz0 hz1 hz2 _ _ _ rfl hown s rfl ?c3 ?c4 ?c5 ?_))
 case c3=>unfold maxLen;omega
 case c4=>omega
 case c5=>have:=hb1.size;omega
 intro v' w2 hown' hgrow _;have hlt:b<w1.heap.size:=lB hbk;have hb2:w2.heap[b]? =some (.cells #[.pointer (some ⟨b,0,none⟩),v] 137 (0,0)):=(hgrow.block b hlt (fun e=>hne e.symm)).trans hbk;have d0:=bC hb2;have f2:=bF hb2
 obtain⟨ao,n',cap,rfl⟩ : ∃ao n' cap,v'=.slice ao n' cap:=by
  rcases hown'.2 with ⟨hv,_⟩ | ⟨g,cap,cur,fz,hv,_⟩
  ·exact⟨_,_,_,hv⟩
  ·exact⟨_,_,_,hv⟩
 clear c0 f0;go_wp2_with fail
 go_ret2
 refine⟨rfl,?_,?_,(hk1.grown hgrow (Lib.ownsRowF_kind hown)).setCell ⟨b,1,none⟩ rfl _⟩
 ·exact Lib.BuilderAtF.put (T:=137) (e:=5) hB hb2 (bs':=bs ++ Lib.strCells s) (by simpa [Lib.strCells_length] using hown') ne_bld
 ·exact(hb1.grown hgrow (by have:=hb1.size;omega) (fun k hk=>(hown.lt k hk).1)).setCell (p:=⟨b,1,none⟩) hB _
theorem bld_WriteByte (B b:Nat) (bs:List Value) (c:Int) (w:World) (h:BldS B b bs w) (hlen:bs.length+1≤140737488355328) (hBw:B≤w.heap.size) :
 Calls Tryz.prog 76 #[.pointer (some ⟨b,0,none⟩),.int .u8 c] w fun e w'=>e=.returned .nilIface∧BldU B b (bs ++ [.int .u8 c]) w'∧Below B w w'∧Lib.OthersKept 5 (some b) w w':=by
 obtain⟨i0,hi,hz0,hz1,hz2⟩:=info_u8
 go_enter Tryz.func76,Tryz.ntmps76
 go_wp2_with fail;refine(bld_check B b bs _ h).mono ?_;rintro e w1 ⟨rfl,⟨hB,v,hbk,hown,hne⟩,hb1,hk1⟩;have c0:=bC hbk;have f0:=bF hbk;go_wp2_with ((at_builtin;refine wpList_append_ownF _ rfl _ _ 134 rfl B 5 i0 (.int .u8 0) 1 1 Tryz.underlying134 hi hz0 hz1 hz2 rfl (by decide) _ _ _ rfl (hown.alloc _) ⟨w1.heap.size,0,none⟩ 1 1 [.int .u8 c] rfl rfl ?c1 ?c2 ?c3 ?c4 ?c5 ?_))
 case c1=>
  intro j u hj
  match j,hj with
  |0,hj=>simp at hj;subst hj;simp [Addr.add]
 case c2=>intro u hu;simp at hu;subst hu;rfl
 case c3=>unfold maxLen;omega
 case c4=>omega
 case c5=>have:=hb1.size;simp;omega
 intro v' w2 hown' hgrow _;have hlt:b<w1.heap.size:=lB hbk
 have hb2:w2.heap[b]? =some (.cells #[.pointer (some ⟨b,0,none⟩),v] 137 (0,0)):=by
  rw [hgrow.block b (by simp;omega) (fun e=>hne e.symm),Lib.alloc_old w1 _ b hlt];exact hbk
 have d0:=bC hb2;have f2:=bF hb2
 obtain⟨g,cap,rfl⟩ : ∃g cap,v'=.slice (some ⟨g,0,none⟩) (bs.length+1) cap:=by
  rcases hown'.2 with ⟨_,h0⟩ | ⟨g,cap,cur,fz,hv,_⟩
  ·omega
  ·exact⟨g,cap,hv⟩
 clear c0 f0;go_wp2_with fail;go_ret;refine⟨rfl,?_,?_,((hk1.alloc _).grown hgrow (Lib.ownsRowF_kind (hown.alloc _))).setCell ⟨b,1,none⟩ rfl _⟩
 ·exact Lib.BuilderAtF.put (T:=137) (e:=5) hB hb2 (bs':=bs ++ [.int .u8 c]) (by simpa using hown') ne_bld
 ·exact((hb1.alloc (by have:=hb1.size;omega) _).grown hgrow (by have:=hb1.size;simp;omega) (fun k hk=>(hown.lt k hk).1)).setCell (p:=⟨b,1,none⟩) hB _
def headT (l:Nat) (k n:Int) :List (List UInt8):= [[100,105,103,101,115,116,32],digB l, [32],digB k.toNat, [32],digB n.toNat]
def nodeT (l:Nat) (x:Nd) :List (List UInt8):= [digB (endsOf l x.1).1.toNat, [46,46],digB (endsOf l x.1).2.1.toNat, [32],digB x.2.toNat]
def textL (l:Nat) (k:Int) (r:List Nd) :List UInt8:=(headT l k (sumR r)).flatten ++ [10] ++ r.flatMap fun x=>(nodeT l x).flatten ++ [10]
theorem blk_others {w w':World} {b k t:Nat} {cs:Array Value} (h:w.heap[k]? =some (.cells cs t (0,0))) (hk:Lib.OthersKept 5 (some b) w w') (ht:t≠5) (hb:k≠b) :w'.heap[k]? =some (.cells cs t (0,0)):=
 hk k _ h (fun e=>hb (by injection e)) (fun c fz e=>by injection e with _ h2 _;exact ht h2)
theorem Own.others {α:Type} {size:Nat} {w w':World} {base b e:Nat} {E:Enc α size} {v:Value} {l:List α} (h:Own w base e E v l) (hk:Lib.OthersKept 5 (some b) w w') (he:e≠5) (hb:v.ownBlock≠some b) :Own w' base e E v l:=by
 rcases h with h| ⟨g,off,cap,cur,rfl,h1,h2,h3⟩
 ·exact .inl h
 ·exact .inr ⟨g,off,cap,cur,rfl,h1,blk_others h2 hk he (fun e=>hb (by rw [←e];rfl)),h3⟩
theorem bc_app (a b:List UInt8) :Lib.byteCells (a ++ b) =Lib.byteCells a ++ Lib.byteCells b:=by unfold Lib.byteCells;rw [List.map_append]
theorem flat_take_le (ws:List (List UInt8)) (q:Nat) : ((ws.take q).flatten).length≤ws.flatten.length:=by
 have h:=congrArg (fun l=>l.flatten.length) (List.take_append_drop q ws);simp only [List.flatten_append,List.length_append] at h;omega
theorem sheet_tell (w:World) (B b g:Nat) (acc:List UInt8) (ws:List (List UInt8)) (cap:Nat) (hb:BldS B b (Lib.byteCells acc) w) (hg:w.heap[g]? =some (.cells (ws.map fun s=>Value.string ⟨s.toArray⟩).toArray 9 (0,0)))
 (hne:g≠b) (hB:B≤w.heap.size) (hw:ws.length≤1000) (hl:acc.length+ws.flatten.length+1≤140737488355328) :
 Calls Tryz.prog 74 #[.slice (some ⟨g,0,none⟩) ws.length cap,.pointer (some ⟨b,0,none⟩)] w fun e w'=>e=.returned (.tuple #[])∧BldS B b (Lib.byteCells (acc ++ ws.flatten ++ [10])) w'∧Below B w w'∧Lib.OthersKept 5 (some b) w w':=by
 have HB:=LH hb;have HG:=LH hg;clear hb hg
 go_enter Tryz.func74,Tryz.ntmps74
 go_wp2_with fail
 go_loopw [7] (fun i wr=>∃q:Nat,q≤ws.length∧i=.int .i64 q∧BldS B b (Lib.byteCells (acc ++ (ws.take q).flatten)) wr∧Below B w wr∧Lib.OthersKept 5 (some b) w wr) (fun i _=>ws.length - (intOf i).toNat)
 case atStart=>exact⟨0,Nat.zero_le _,rfl,by simpa using HB.out,Below.refl _ _,Lib.OthersKept.refl _ _ _⟩
 case round=>
  obtain⟨q,hq,rfl,hI,hBW,hK⟩:=hrel;have KI:=LH hI;have KB:=LH hBW;have KK:=LH hK;have hsz:=hBW.size;by_cases hlt:q<ws.length
  ·have k0:=blk_others HG.out hK (by decide) hne
   have c0:wr.cell? ⟨g,q,none⟩ =some (.string ⟨(ws[q]).toArray⟩):=by
    rw [bC k0];simp [hlt]
   have hfl: (ws.take (q+1)).flatten= (ws.take q).flatten ++ ws[q]:=by
    rw [List.take_succ_eq_append_getElem hlt,List.flatten_append,List.flatten_cons,List.flatten_nil,List.append_nil]
   have hlen: (acc ++ (ws.take q).flatten).length+ws[q].length≤acc.length+ws.flatten.length:=by
    have h1: ((ws.take (q+1)).flatten).length≤ws.flatten.length:=flat_take_le ws (q+1);rw [hfl] at h1;simp only [List.length_append] at h1⊢;omega
   have hqi: (q:Int) < (ws.length:Int):=by omega
   have HS:=LH (bld_WriteString B b _ ⟨(ws[q]).toArray⟩ wr hI (by rw [Lib.byteCells_length];show _+ (ws[q]).toArray.size≤_;simp only [List.size_toArray];omega) (by omega));rw [show Lib.strCells ⟨(ws[q]).toArray⟩ =Lib.byteCells ws[q] from rfl,←bc_app,List.append_assoc,←hfl] at HS;generalize ws[q] =s at c0 HS;clear hI hBW hK k0 hfl hlen;go_wp2_with fail;refine HS.out.mono ?_;rintro e w1 ⟨rfl,h1,hb1,hk1⟩;have K1:=LH h1;have B1:=LH (KB.out.trans hb1);have O1:=LH (KK.out.trans hk1);clear h1 hb1 hk1;go_wp2_with fail;go_roundw
   case rel=>exact⟨q+1,by omega,by go_num,.inr K1.out,B1.out,O1.out⟩
   case measure=>simp [intOf];omega
  ·obtain rfl:q=ws.length:=by omega
   rw [List.take_length] at hI;have HW:=LH (bld_WriteByte B b _ 10 wr hI (by rw [Lib.byteCells_length];simp only [List.length_append];omega) (by omega));have e10: [Value.int .u8 10] =Lib.byteCells [10]:=rfl;rw [e10,←bc_app] at HW;clear hI hBW hK e10;go_wp2_with fail;refine HW.out.mono ?_;rintro e w1 ⟨rfl,h1,hb1,hk1⟩;have K1:=LH h1;have B1:=LH (KB.out.trans hb1);have O1:=LH (KK.out.trans hk1);clear h1 hb1 hk1;go_wp2_with fail
   go_end0
   exact⟨rfl,.inr K1.out,B1.out,O1.out⟩
theorem nodeT_len {l:Nat} {x:Nd} (h1: (endsOf l x.1).1.toNat≤9223372036854775807) (h2: (endsOf l x.1).2.1.toNat≤9223372036854775807) (h3:x.2.toNat≤9223372036854775807) : (nodeT l x).flatten.length≤60:=by
 have d1:=digB_le h1;have d2:=digB_le h2;have d3:=digB_le h3;unfold nodeT;simp only [List.flatten_cons,List.flatten_nil,List.length_append,List.length_cons,List.length_nil];omega
theorem headT_len {l:Nat} {k n:Int} (h1:l≤9223372036854775807) (h2:k.toNat≤9223372036854775807) (h3:n.toNat≤9223372036854775807) : (headT l k n).flatten.length≤66:=by
 have d1:=digB_le h1;have d2:=digB_le h2;have d3:=digB_le h3;unfold headT;simp only [List.flatten_cons,List.flatten_nil,List.length_append,List.length_cons,List.length_nil];omega
theorem lines_len {f:Nd→List UInt8} {r:List Nd} (h: ∀x∈r,(f x).length≤61) : (r.flatMap f).length≤61*r.length:=by
 induction r with
 |nil=>simp
 |cons x r ih=>
  have h1:=h x (by simp);have h2:=ih (fun y hy=>h y (by simp [hy]));simp only [List.flatMap_cons,List.length_append,List.length_cons];omega
theorem el_le_sum {r:List Nd} (hr:Roll r) {x:Nd} (hx:x∈r) :x.2≤sumR r:=by
 have h:=hr.2;clear hr
 have hnn: ∀r:List Nd,(∀y∈r,0≤y.1∧1≤y.2∨1≤y.2)→0≤sumR r:=by
  intro r
  induction r with
  |nil=>intro _;exact Int.le_refl _
  |cons y r ih=>
   intro h;have h1:=h y (by simp);have h2:=ih fun z hz=>h z (by simp [hz]);simp only [sumR] at h2⊢;omega
 induction r with
 |nil=>cases hx
 |cons y r ih=>
  have h1:=h y (by simp);have h2:=hnn r fun z hz=>.inr (h z (by simp [hz])).2;rcases List.mem_cons.1 hx with rfl|hx
  ·simp only [sumR] at h2⊢;omega
  ·have h3:=ih hx fun z hz=>h z (by simp [hz])
   simp only [sumR] at h2 h3⊢;omega
theorem node_le {l:Nat} {id:Int} (hl:l≤48) (h:isNode l id=true) :id≤9223372036854775807:=by
 have h1:=pow_48 (n:=l) hl;simp only [isNode,decide_eq_true_eq,Int.toNat_natCast] at h;omega
theorem take_lines (l:Nat) (r:List Nd) {q:Nat} (h:q<r.length) : ((r.take (q+1)).flatMap fun x=>(nodeT l x).flatten ++ [10]) = ((r.take q).flatMap fun x=>(nodeT l x).flatten ++ [10]) ++ ((nodeT l r[q]).flatten ++ [10]):=by
 rw [List.take_succ_eq_append_getElem h,List.flatMap_append,List.flatMap_cons,List.flatMap_nil,List.append_nil]
theorem lines_bound {l:Nat} {r:List Nd} {q:Nat} (hl:1≤l∧l≤48) (hf:Fits l r) (hn:r.length≤1000000) : ((r.take q).flatMap fun x=>(nodeT l x).flatten ++ [10]).length≤61000000:=by
 have h:=lines_len (f:=fun x=>(nodeT l x).flatten ++ [10]) (r:=r.take q) (fun x hx=>by
  have hm:=List.mem_of_mem_take hx;have h1:=ends_48 hl.2 (hf.nodes hl x hm);have h2:=el_le_sum hf.roll hm;have h3:=hf.sum;have h4:=nodeT_len (l:=l) (x:=x) (by omega) (by omega) (by omega);simp only [List.length_append,List.length_singleton];omega)
 have h2: (r.take q).length≤r.length:=by rw [List.length_take];omega
 omega
theorem own_neB {α:Type} {size:Nat} {w:World} {base b e:Nat} {E:Enc α size} {v:Value} {l:List α} (h:Own w base e E v l) (hb:b<base) :v.ownBlock≠some b:=fun he=>by
 have:=(h.lt b he).1;omega
theorem owF_below {w w':World} {base e size:Nat} {v:Value} {n:Nat} {xs:List Value} (h:w.ownsRowF base e size v n xs) (hb:Below w.heap.size w w') :w'.ownsRowF base e size v n xs:=by
 refine⟨h.1,?_⟩;rcases h.2 with hn| ⟨g,cap,cur,fz,hv,hbb,hg,rest⟩
 ·exact .inl hn
 ·exact .inr ⟨g,cap,cur,fz,hv,hbb,(hb.block g (Array.getElem?_eq_some_iff.1 hg).1).trans hg,rest⟩
theorem bldF_below {w w':World} {B b:Nat} {p:Value} {bs:List Value} (h:Lib.BuilderAtF 137 5 B b p bs w) (hb:Below w.heap.size w w') :Lib.BuilderAtF 137 5 B b p bs w':=by
 obtain⟨h1,v,h2,h3,h4⟩:=h;exact⟨h1,v,bB h2 hb,owF_below h3 hb,h4⟩
theorem bld_below {w w':World} {B b:Nat} {bs:List Value} (h:BldS B b bs w) (hb:Below w.heap.size w w') :BldS B b bs w':=h.elim (fun x=>.inl (bldF_below x hb)) (fun x=>.inr (bldF_below x hb))
theorem bld_new (w:World) :BldS w.heap.size w.heap.size (Lib.byteCells []) (w.alloc (.cells #[.pointer none,.slice none 0 0] 137)):=
 .inl ⟨Nat.le_refl _,.slice none 0 0,heap_alloc_new w _,World.ownsRowF_nil _ _ _ _,by simp [Value.ownBlock]⟩
theorem sheet_Text (w:World) (g K_ l:Nat) (k:Int) (r:List Nd) (F:Nat→Prop) (h:DigAt w g K_ l k r F) (hn:r.length≤1000000) :
 Calls Tryz.prog 24 #[.pointer (some ⟨g,0,none⟩)] w fun e w'=>e=.returned (.tuple #[.string ⟨(textL l k r).toArray⟩,.int .i64 0])∧Below w.heap.size w w':=by
 have hf:=h.fits;have hll:=h.l_le;have hk1:=h.1;have hk2:=h.2.1;have hs0:=sumR_nonneg hf.roll;have hs1:=hf.sum;have HD:=LH h;have hnd:=hf.nodes hll;have HDg:=LH (fun W n (hn:n≤9223372036854775807)=>sheet_Digits W n hn);have HH:=LH (headT_len (l:=l) (k:=k) (n:=sumR r) (by omega) (by omega) (by omega));unfold textL;obtain⟨kn,rfl⟩:=Int.eq_ofNat_of_zero_le (show 0≤k by omega);obtain⟨sn,hsn⟩:=Int.eq_ofNat_of_zero_le hs0;have HT:Hid (headT l kn (sumR r) = [[100,105,103,101,115,116,32],digB l, [32],digB kn, [32],digB sn]):=LH (by unfold headT;rw [hsn];rfl);have HN:=LH (digest_N · g K_ l kn r F ·);rw [hsn] at HN;have l1:l≤9223372036854775807:=by omega
 have k1:kn≤9223372036854775807:=by omega
 have sn1:sn≤9223372036854775807:=by omega
 clear h
 go_enter Tryz.func24,Tryz.ntmps24
 go_wp2_with fail;have Bn0:=bld_new w;refine(digest_Conf _ g K_ l kn r F (HD.out.below bE)).mono ?_;rintro e w1 ⟨rfl,hb1⟩;have B1:Below w.heap.size w w1:=Below.then_ bE hb1;have s1:=B1.size;have z1_0:w.heap.size<w1.heap.size:=by have:=hb1.size;(try simp at this);omega
 have y1_0:w.heap.size≤w1.heap.size:=Nat.le_of_lt z1_0;have c1_0:=czB hb1 (w.heap.size);have f1_0:=fzB hb1 (w.heap.size);have Bn1:=LH (bld_below (bld_below Bn0 hb1) ((Below.refl w1.heap.size w1).alloc (Nat.le_refl _) (.cells #[.int .i64 l,.int .i64 kn,.int .i64 K_] 23)));have KC:=LH (heap_alloc_new w1 (.cells #[.int .i64 l,.int .i64 kn,.int .i64 K_] 23));have B1a:=B1.alloc (by omega) (.cells #[.int .i64 l,.int .i64 kn,.int .i64 K_] 23);have HB1:=LH B1a;have HD1:=LH (HD.out.below B1a);clear Bn0 hb1 B1 B1a c1_0 f1_0;have zz:w.heap.size<w1.heap.size:=z1_0;have hne1:w1.heap.size≠w.heap.size:=by omega
 go_upto_region 6 with fail;obtain⟨W0,hW0⟩ : ∃W0,w1.alloc (.cells #[.int .i64 l,.int .i64 kn,.int .i64 K_] 23) =W0:=⟨_,rfl⟩;obtain⟨pc,hpc⟩ : ∃pc,pc=w1.heap.size:=⟨_,rfl⟩;rw [←hpc] at KC hne1⊢;rw [hW0] at Bn1 KC HB1 HD1⊢;have hpw:w.heap.size<pc:=by omega
 clear hW0 hpc;refine wp_region_noPanic ?_;refine wp_region_N (fun W=>W.heap[pc]? =some (.cells #[.int .i64 l,.int .i64 kn,.int .i64 K_] 23 (0,0))) [] (by kernel_rfl) (KC.out) (fun hHeld=> ?_);refine nP 0 (.func (.func 74) #[] #[.pointer (some ⟨w.heap.size,0,none⟩)]) (h:= ?_)
 (try simp only [zA,zB,zC,Act.put,zD,zE,zF])
 refine nP 1 (.pointer (some ⟨pc,0,none⟩)) (h:= ?_)
 (try simp only [zA,zB,zC,Act.put,zD,zE,zF])
 refine nT 2 (.int .i64 l) (y:=Or.inl ⟨by rfl,fun W hW=>by have q1:=bC hW;go_simp⟩) (s:=KC.out) (h:= ?_)
 (try simp only [zA,zB,zC,Act.put,zD,zE,zF])
 refine nP 4 (.pointer (some ⟨pc,1,none⟩)) (h:= ?_)
 (try simp only [zA,zB,zC,Act.put,zD,zE,zF])
 refine nT 5 (.int .i64 kn) (y:=Or.inl ⟨by rfl,fun W hW=>by have q1:=bC hW;go_simp⟩) (s:=KC.out) (h:= ?_)
 (try simp only [zA,zB,zC,Act.put,zD,zE,zF])
 refine nP 7 (.pointer (some ⟨g,0,none⟩)) (h:= ?_)
 (try simp only [zA,zB,zC,Act.put,zD,zE,zF])
 refine nO (i:=3) (by kernel_rfl) rfl (fun K hK=> ?_);go_simp;refine(HDg.out _ l l1).mono ?_;rintro e w3 ⟨rfl,hb3⟩;have K3:=LH (bB (w:=World.drew _) KC.out hb3);have B3:=LH (bld_below (w:=World.drew _) Bn1.out hb3);have H3:=LH (Below.drew HB1.out |>.trans (hb3.mono (Below.drew HB1.out).size));have D3:=LH (DigAt.below (w:=World.drew _) HD1.out hb3);clear hb3;refine hK.out _ _ (fun _ _=>K3.out) ?_;clear hK K
 (try simp only [zA,zB,zC,Act.put,zD,zE,zF])
 refine nO (i:=6) (by kernel_rfl) rfl (fun K hK=> ?_);go_simp;refine(HDg.out _ kn k1).mono ?_;rintro e w4 ⟨rfl,hb4⟩;have K4:=LH (bB K3.out hb4);have B4:=LH (bld_below B3.out hb4);have H4:=LH (H3.out |>.trans (hb4.mono (H3.out).size));have D4:=LH (DigAt.below D3.out hb4);clear hb4;refine hK.out _ _ (fun _ _=>K4.out) ?_;clear hK K
 (try simp only [zA,zB,zC,Act.put,zD,zE,zF])
 refine nO (i:=8) (by kernel_rfl) rfl (fun K hK=> ?_);go_simp;refine(HN.out _ D4.out).mono ?_;rintro e w5 ⟨rfl,hb5⟩;have K5:=LH (bB K4.out hb5);have B5:=LH (bld_below B4.out hb5);have H5:=LH (H4.out |>.trans (hb5.mono (H4.out).size));have D5:=LH (DigAt.below D4.out hb5);clear hb5;refine hK.out _ _ (fun _ _=>K5.out) ?_;clear hK K
 (try simp only [zA,zB,zC,Act.put,zD,zE,zF])
 refine nO (i:=9) (by kernel_rfl) rfl (fun K hK=> ?_);go_simp;refine(HDg.out _ sn sn1).mono ?_;rintro e w6 ⟨rfl,hb6⟩;have K6:=LH (bB K5.out hb6);have B6:=LH (bld_below B5.out hb6);have H6:=LH (H5.out |>.trans (hb6.mono (H5.out).size));have D6:=LH (DigAt.below D5.out hb6);clear hb6;refine hK.out _ _ (fun _ _=>K6.out) ?_;clear hK K
 (try simp only [zA,zB,zC,Act.put,zD,zE,zF])
 refine nO (i:=10) (by kernel_rfl) rfl (fun K hK=> ?_);go_simp;have A7:Below w6.heap.size w6 (w6.alloc (.cells #[Value.string ⟨#[100,105,103,101,115,116,32]⟩,Value.string ⟨(digB l).toArray⟩,Value.string ⟨#[32]⟩,Value.string ⟨(digB kn).toArray⟩,Value.string ⟨#[32]⟩,Value.string ⟨(digB sn).toArray⟩] 9)):=(Below.refl _ _).alloc (Nat.le_refl _) _;have K7:=LH (bB K6.out A7);have B7:=LH (bld_below B6.out A7);have H7:=LH (H6.out.trans (A7.mono H6.out.size));have G7:=LH (heap_alloc_new w6 (.cells #[Value.string ⟨#[100,105,103,101,115,116,32]⟩,Value.string ⟨(digB l).toArray⟩,Value.string ⟨#[32]⟩,Value.string ⟨(digB kn).toArray⟩,Value.string ⟨#[32]⟩,Value.string ⟨(digB sn).toArray⟩] 9));have z7g:w6.heap.size< (w6.alloc (.cells #[Value.string ⟨#[100,105,103,101,115,116,32]⟩,Value.string ⟨(digB l).toArray⟩,Value.string ⟨#[32]⟩,Value.string ⟨(digB kn).toArray⟩,Value.string ⟨#[32]⟩,Value.string ⟨(digB sn).toArray⟩] 9)).heap.size:=by simp
 have l7:=H6.out.size;clear A7;refine hK.out _ _ (fun _ _=>K7.out) ?_;clear hK K
 (try simp only [zA,zB,zC,Act.put,zD,zE,zF])
 refine nO (i:=11) (by kernel_rfl) rfl (fun K hK=> ?_);go_simp;have hlt6:w.heap.size<w6.heap.size:=Nat.lt_trans hpw (lB K6.out)
 have HL1: ([] :List UInt8).length+ ([[100,105,103,101,115,116,32],digB l, [32],digB kn, [32],digB sn] :List (List UInt8)).flatten.length+1≤140737488355328:=by
  have h1:=HH.out;rw [HT.out] at h1;simp only [List.length_nil];omega
 refine(sheet_tell _ w.heap.size w.heap.size w6.heap.size [] [[100,105,103,101,115,116,32],digB l, [32],digB kn, [32],digB sn] 6 B7.out G7.out (by omega) H7.out.size (by simp) HL1).mono ?_;rintro e w8 ⟨rfl,b8,hb8,ok8⟩;have K8:=LH (blk_others K7.out ok8 (by decide) hne1);have B8:=LH b8;have H8:=LH (H7.out.trans hb8);clear b8 hb8 ok8 HL1 K7 B7 H7 G7 z7g l7 K6 B6 H6 D6 K5 B5 H5 D5 K4 B4 H4 D4 K3 B3 H3 D3 Bn1 KC HB1 HD1;refine hK.out _ _ (fun _ _=>K8.out) ?_;clear hK K
 (try simp only [zA,zB,zC,Act.put,zD,zE,zF])
 refine nD (by kernel_rfl) ?_ _;refine NoPanic.normal ?_;rw [←HT.out,List.nil_append] at B8;have D8:=LH (HD.out.below H8.out);have hn8:w.heap.size<w8.heap.size:=Nat.lt_trans hpw (lB K8.out);go_wp2_with fail;refine(digest_Nodes _ g K_ l kn r F D8.out (by omega)).mono ?_;rintro e w9 ⟨v9,rfl,o9,hb9⟩;obtain⟨A,cap,rfl,_⟩:=o9.form;have K9:=LH (bB K8.out hb9);have B9:=LH (bld_below B8.out hb9);have H9:=LH (H8.out.trans (hb9.mono H8.out.size));have O9:=LH o9;clear hb9 o9 K8 B8 H8 D8;go_wp2_with fail
 go_loopw [32] (fun i wr=>∃q:Nat,q≤r.length∧i=.int .i64 q∧BldS w.heap.size w.heap.size (Lib.byteCells ((headT l kn (sumR r)).flatten ++ [10] ++ (r.take q).flatMap fun x=>(nodeT l x).flatten ++ [10])) wr∧wr.heap[pc]? =some (.cells #[.int .i64 l,.int .i64 kn,.int .i64 K_] 23 (0,0))∧Own wr w8.heap.size 77 encN (.slice A r.length cap) r∧Below w.heap.size w wr) (fun i _=>r.length - (intOf i).toNat)
 case atStart=>exact⟨0,Nat.zero_le _,rfl,by rw [List.take_zero,List.flatMap_nil,List.append_nil];exact B9.out,K9.out,O9.out,H9.out⟩
 case round=>
  obtain⟨q,hq,rfl,hb,hc,ho,hB⟩:=hrel;have KB:=LH hb;have KC:=LH hc;have KO:=LH ho;have KH:=LH hB;clear hb hc ho hB K9 B9 H9 O9;by_cases hlt:q<r.length
  ·obtain⟨bb,off,rfl,hcb,hcl⟩:=KO.out.sl.at_ hlt
   have d0:=hcl 0 (.int .i64 r[q].1) rfl;have d1:=hcl 1 (.int .i64 r[q].2) rfl;simp only [Nat.add_zero] at d0;have hxm:=List.getElem_mem hlt;have hnx:=hnd _ hxm;have he48:=ends_48 hll.2 hnx;have hc1:=(hf.roll.2 _ hxm).2;have hc2:=el_le_sum hf.roll hxm;have hid:=node_le hll.2 hnx;have HTq:=LH (take_lines l r hlt);have HLq:=LH (lines_bound (l:=l) (q:=q) hll hf hn);have HE:=LH (twig_Ends · l r[q].1 hid);have e3: (endsOf l r[q].1).2.2=true:=by unfold endsOf;rw [if_pos hnx]
   unfold endsV at HE;rw [e3] at HE;have HNt:Hid (nodeT l r[q] = [digB (endsOf l r[q].1).1.toNat, [46,46],digB (endsOf l r[q].1).2.1.toNat, [32],digB r[q].2.toNat]):=LH rfl;have HNl:=LH (nodeT_len (l:=l) (x:=r[q]) (by omega) (by omega) (by omega));generalize nodeT l r[q] =NT at HTq HNt HNl;generalize (endsOf l r[q].1).1=lo at he48 HE HNt;generalize (endsOf l r[q].1).2.1=hi at he48 HE HNt;generalize r[q].1=id at d0 HE;generalize r[q].2=cn at d1 hc1 hc2 HNt;obtain⟨lo,rfl⟩:=Int.eq_ofNat_of_zero_le (show 0≤lo by omega);obtain⟨hi,rfl⟩:=Int.eq_ofNat_of_zero_le (show 0≤hi by omega);obtain⟨cn,rfl⟩:=Int.eq_ofNat_of_zero_le (show 0≤cn by omega);simp only [Int.toNat_natCast] at HNt;have m1:lo≤9223372036854775807:=by omega
   have m2:hi≤9223372036854775807:=by omega
   have m3:cn≤9223372036854775807:=by omega
   have cc:=bC KC.out;have zc:=lB KC.out;have hsz:=KH.out.size;clear he48 hc1 hc2 hxm hnx e3 hid hcl;go_wp2_with fail;refine(HE.out _).mono ?_;rintro e w10 ⟨rfl,hb10⟩;have AX:Below wr.heap.size wr (wr.alloc (.cells #[.int .i64 id,.int .i64 cn] 77)):=(Below.refl _ _).alloc (Nat.le_refl _) _;have KX:=LH (bB (heap_alloc_new wr (.cells #[.int .i64 id,.int .i64 cn] 77)) hb10);have AW:Below wr.heap.size wr w10:=AX.trans (hb10.mono (by simp));have KC1:=LH (bB KC.out AW);have KB1:=LH (bld_below KB.out AW);have KO1:=LH (KO.out.below AW);have KH1:=LH (KH.out.trans (AW.mono hsz));have zx:wr.heap.size<w10.heap.size:=lB KX.out;obtain⟨px,hpx⟩ : ∃px,px=wr.heap.size:=⟨_,rfl⟩;have hpw2:w.heap.size<px:=by omega
   rw [←hpx] at KX zx⊢;clear AX AW hb10 KC KB KO KH cc zc hsz hpx d0 d1 HE;go_upto_region 11 with fail;refine wp_region_noPanic ?_;refine wp_region_N (fun W=>W.heap[px]? =some (.cells #[.int .i64 id,.int .i64 cn] 77 (0,0))) [] (by kernel_rfl) (KX.out) (fun hHeld=> ?_);refine nP 0 (.func (.func 74) #[] #[.pointer (some ⟨w.heap.size,0,none⟩)]) (h:= ?_)
   (try simp only [zA,zB,zC,Act.put,zD,zE,zF])
   refine nP 1 (.int .i64 lo) (h:= ?_)
   (try simp only [zA,zB,zC,Act.put,zD,zE,zF])
   refine nP 3 (.int .i64 hi) (h:= ?_)
   (try simp only [zA,zB,zC,Act.put,zD,zE,zF])
   refine nP 5 (.pointer (some ⟨px,1,none⟩)) (h:= ?_)
   (try simp only [zA,zB,zC,Act.put,zD,zE,zF])
   refine nT 6 (.int .i64 cn) (y:=Or.inl ⟨by rfl,fun W hW=>by have q1:=bC hW;go_simp⟩) (s:=KX.out) (h:= ?_)
   (try simp only [zA,zB,zC,Act.put,zD,zE,zF])
   refine nO (i:=2) (by kernel_rfl) rfl (fun K hK=> ?_);go_simp;refine(HDg.out _ lo m1).mono ?_;rintro e w3 ⟨rfl,hb3⟩;have X3:=LH (bB (w:=World.drew _) KX.out hb3);have K3:=LH (bB (w:=World.drew _) KC1.out hb3);have B3:=LH (bld_below (w:=World.drew _) KB1.out hb3);have O3:=LH (Own.below (w:=World.drew _) KO1.out hb3);have H3:=LH ((Below.drew KH1.out).trans (hb3.mono (Below.drew KH1.out).size));clear hb3;refine hK.out _ _ (fun _ _=>X3.out) ?_;clear hK K
   (try simp only [zA,zB,zC,Act.put,zD,zE,zF])
   refine nO (i:=4) (by kernel_rfl) rfl (fun K hK=> ?_);go_simp;refine(HDg.out _ hi m2).mono ?_;rintro e w4 ⟨rfl,hb4⟩;have X4:=LH (bB X3.out hb4);have K4:=LH (bB K3.out hb4);have B4:=LH (bld_below B3.out hb4);have O4:=LH (Own.below O3.out hb4);have H4:=LH (H3.out.trans (hb4.mono H3.out.size));clear hb4;refine hK.out _ _ (fun _ _=>X4.out) ?_;clear hK K
   (try simp only [zA,zB,zC,Act.put,zD,zE,zF])
   refine nO (i:=7) (by kernel_rfl) rfl (fun K hK=> ?_);go_simp;refine(HDg.out _ cn m3).mono ?_;rintro e w5 ⟨rfl,hb5⟩;have X5:=LH (bB X4.out hb5);have K5:=LH (bB K4.out hb5);have B5:=LH (bld_below B4.out hb5);have O5:=LH (Own.below O4.out hb5);have H5:=LH (H4.out.trans (hb5.mono H4.out.size));clear hb5;refine hK.out _ _ (fun _ _=>X5.out) ?_;clear hK K
   (try simp only [zA,zB,zC,Act.put,zD,zE,zF])
   refine nO (i:=8) (by kernel_rfl) rfl (fun K hK=> ?_);go_simp;have A6:Below w5.heap.size w5 (w5.alloc (.cells #[Value.string ⟨(digB lo).toArray⟩,Value.string ⟨#[46,46]⟩,Value.string ⟨(digB hi).toArray⟩,Value.string ⟨#[32]⟩,Value.string ⟨(digB cn).toArray⟩] 9)):=(Below.refl _ _).alloc (Nat.le_refl _) _;have X6:=LH (bB X5.out A6);have K6:=LH (bB K5.out A6);have B6:=LH (bld_below B5.out A6);have O6:=LH (O5.out.below A6);have H6:=LH (H5.out.trans (A6.mono H5.out.size));have G6:=LH (heap_alloc_new w5 (.cells #[Value.string ⟨(digB lo).toArray⟩,Value.string ⟨#[46,46]⟩,Value.string ⟨(digB hi).toArray⟩,Value.string ⟨#[32]⟩,Value.string ⟨(digB cn).toArray⟩] 9));have hlt5:w.heap.size<w5.heap.size:=Nat.lt_trans hpw2 (lB X5.out);clear A6;refine hK.out _ _ (fun _ _=>X6.out) ?_;clear hK K
   (try simp only [zA,zB,zC,Act.put,zD,zE,zF])
   refine nO (i:=9) (by kernel_rfl) rfl (fun K hK=> ?_);go_simp
   have HL: ((headT l kn (sumR r)).flatten ++ [10] ++ (r.take q).flatMap fun x=>(nodeT l x).flatten ++ [10]).length+ ([digB lo, [46,46],digB hi, [32],digB cn] :List (List UInt8)).flatten.length+1≤140737488355328:=by
    have h1:=HH.out;have h2:=HNl.out;have h3:=HLq.out;rw [HNt.out] at h2;simp only [List.length_append,List.length_singleton] at h1⊢;omega
   refine(sheet_tell _ w.heap.size w.heap.size w5.heap.size _ [digB lo, [46,46],digB hi, [32],digB cn] 5 B6.out G6.out (by omega) H6.out.size (by simp) HL).mono ?_;rintro e w8 ⟨rfl,b8,hb8,ok8⟩;rw [←HNt.out,List.append_assoc _ _ [10]] at b8;have X8:=LH (blk_others X6.out ok8 (by decide) (show px≠w.heap.size by omega));have K8:=LH (blk_others K6.out ok8 (by decide) hne1);have B8:=LH b8;have O8:=LH (O6.out.others ok8 (by decide) (own_neB O6.out hn8));have H8:=LH (H6.out.trans hb8);refine hK.out _ _ (fun _ _=>X8.out) ?_;clear hK K b8 hb8 ok8 HL X6 K6 B6 O6 H6 G6 X5 K5 B5 O5 H5 X4 K4 B4 O4 H4 X3 K3 B3 O3 H3 KX KC1 KB1 KO1 KH1
   (try simp only [zA,zB,zC,Act.put,zD,zE,zF])
   refine nD (by kernel_rfl) ?_ _;refine NoPanic.normal ?_;go_wp2_with fail;go_roundw
   case rel=>exact⟨q+1,by omega,by go_num,by rw [HTq.out,←List.append_assoc];exact B8.out,K8.out,O8.out,H8.out⟩
   case measure=>simp [intOf];omega
  ·obtain rfl:q=r.length:=by omega
   rw [List.take_length] at KB;have HS:=LH (Tryz.Builder_String_any_k w.heap.size w.heap.size _ wr KB.out KH.out.size);have hqi: ¬(r.length:Int) < (r.length:Int):=by omega
   clear hq hlt;go_wp2_with fail;refine HS.out.mono ?_;rintro e w7 ⟨rfl,_,hb7,_⟩;have B7:=KH.out.trans hb7;go_wp2_with fail;exact bR (v:=.tuple #[.string ⟨((headT l kn (sumR r)).flatten ++ [10] ++ r.flatMap fun x=>(nodeT l x).flatten ++ [10]).toArray⟩,.int .i64 0]) (by simp only [results,Tryz.results24];go_simp) rfl ⟨rfl,B7⟩
def RdgAt (W:World) (pr:Nat) (l k K n:Int) (v:Value) :Prop:=W.heap[pr]? =some (.cells #[.int .i64 l,.int .i64 k,.int .i64 K,.int .i64 n,v] 174 (0,0))
structure But (pr:Nat) (w w':World) :Prop where
 s:w.heap.size≤w'.heap.size
 k: ∀b o,w.heap[b]? =some o→b≠pr→w'.heap[b]? =some o
 b: ∀z,z≤pr→Below z w w'
theorem But.trans {pr:Nat} {a b c:World} (h:But pr a b) (k:But pr b c) :But pr a c:=⟨Nat.le_trans h.s k.s,fun q o h1 h2=>k.k q o (h.k q o h1 h2) h2,fun z hz=>(h.b z hz).trans (k.b z hz)⟩
theorem But.of {pr:Nat} {w w':World} (hb:Below w.heap.size w w') (hp:pr<w.heap.size) :But pr w w':=⟨hb.size,fun q o h _=>(hb.block q (Array.getElem?_eq_some_iff.1 h).1).trans h,fun z hz=>hb.mono (by omega)⟩
theorem But.set {pr i:Nat} {w w':World} (h:But pr w w') (v:Value) :But pr w (w'.setCell ⟨pr,i,none⟩ v):=
 ⟨by simpa using h.s,fun q o h1 h2=>(Below.heap_setCell _ _ _ _ h2).trans (h.k q o h1 h2),fun z hz=>(h.b z hz).setCell (p:=⟨pr,i,none⟩) hz v⟩
theorem But.drew {pr:Nat} {w w':World} (h:But pr w w') :But pr w w'.drew:=⟨h.s,h.k,fun z hz=>(h.b z hz).drew⟩
theorem sheet_head (w:World) (pr l kn sn:Nat) (z0 z1 K_ z3:Int) (v:Value) (hl:1≤l∧l≤48) (hk:1≤kn∧kn≤1048576) (hs:sn≤72057594037927935) (h:RdgAt w pr z0 z1 K_ z3 v) :
 Calls Tryz.prog 104 #[.pointer (some ⟨pr,0,none⟩),.string ⟨((headT l kn sn).flatten).toArray⟩] w fun e w'=>e=.returned (.bool true)∧RdgAt w' pr l kn K_ sn v∧But pr w w':=by
 have hL: (headT l kn sn).flatten=lineQ [100,105,103,101,115,116,32] [32] [32] l kn sn 0:=by
  unfold headT lineQ;simp only [List.flatten_cons,List.flatten_nil,Int.toNat_natCast,List.append_assoc]
 have hlen: (lineQ [100,105,103,101,115,116,32] [32] [32] l kn sn 0).length≤1000000000:=by
  rw [←hL];have:=headT_len (l:=l) (k:=kn) (n:=sn) (by omega) (by omega) (by omega);omega
 have HT:=LH (fun (W:World) (b:Nat) (hb:W.heap.size=b)=>sheet_three (W.alloc (.cells #[.string ⟨#[100,105,103,101,115,116,32]⟩,.string ⟨#[32]⟩,.string ⟨#[32]⟩] 9)) (some ⟨b,0,none⟩) 3 [100,105,103,101,115,116,32] [32] [32] l kn sn
  (by have h1:=sl_lit W encT [[100,105,103,101,115,116,32], [32], [32]] 9 b hb;rw [show (W.alloc (.cells #[.string ⟨#[100,105,103,101,115,116,32]⟩,.string ⟨#[32]⟩,.string ⟨#[32]⟩] 9)).heap.size=b+1 by simp [hb]];exact h1) (by omega) (by omega) (by omega) (fun t=>rfl) (fun t=>rfl) hlen)
 rw [hL];generalize lineQ [100,105,103,101,115,116,32] [32] [32] l kn sn 0=R at HT⊢;have HI:=LH h;have zp:=lB h;have hR:=fun W:World=>twig_Right W (l:Int) 1
 have hN1:isNode (l:Int) 1=true:=by
  simp only [isNode,decide_eq_true_eq];have:=pow_pos' l;rw [Int.toNat_natCast];omega
 rw [hN1] at hR;have HR:=LH hR;have k1: (1:Int)≤(kn:Int):=by omega
 have k2: (kn:Int)≤1048576:=by omega
 have k3: (sn:Int)≤72057594037927935:=by omega
 clear h hR hL hlen hN1 hl hk hs
 go_enter Tryz.func104,Tryz.ntmps104
 go_wp2_with fail;refine(HT.out _ _ rfl).mono ?_;rintro e w1 ⟨rfl,hb1⟩;have AW:Below w.heap.size w w1:=((Below.refl w.heap.size w).alloc (Nat.le_refl _) _).trans (hb1.mono (by simp));have KI:=LH (show RdgAt (w1.alloc (.cells #[.int .i64 l,.int .i64 kn,.int .i64 sn] 228)) pr z0 z1 K_ z3 v from(Below.heap_alloc _ _ _ (by have:=AW.size;omega)).trans (bB HI.out AW));have KN:=LH (heap_alloc_new w1 (.cells #[.int .i64 l,.int .i64 kn,.int .i64 sn] 228));have KB:=LH ((But.of AW zp).trans (But.of ((Below.refl _ w1).alloc (Nat.le_refl _) (.cells #[.int .i64 l,.int .i64 kn,.int .i64 sn] 228)) (by have:=AW.size;omega)));have hne:w1.heap.size≠pr:=by have:=AW.size;omega
 clear hb1 AW;go_upto_region 2 with fail;obtain⟨W0,hW0⟩ : ∃W0,w1.alloc (.cells #[.int .i64 l,.int .i64 kn,.int .i64 sn] 228) =W0:=⟨_,rfl⟩;obtain⟨pn,hpn⟩ : ∃pn,pn=w1.heap.size:=⟨_,rfl⟩;rw [←hpn] at KN hne⊢;rw [hW0] at KI KN KB⊢;clear hW0 hpn;refine wp_region_noPanic ?_;refine wp_region_N (fun W=>W.heap[pn]? =some (.cells #[.int .i64 l,.int .i64 kn,.int .i64 sn] 228 (0,0))) [] (by kernel_rfl) (KN.out) (fun hHeld=> ?_);refine nP 0 (.pointer (some ⟨pr,0,none⟩)) (h:= ?_)
 (try simp only [zA,zB,zC,Act.put,zD,zE,zF])
 refine nP 1 (.pointer (some ⟨pr,0,none⟩)) (h:= ?_)
 (try simp only [zA,zB,zC,Act.put,zD,zE,zF])
 refine nP 2 (.pointer (some ⟨pr,0,none⟩)) (h:= ?_)
 (try simp only [zA,zB,zC,Act.put,zD,zE,zF])
 refine nP 3 (.pointer (some ⟨pn,0,none⟩)) (h:= ?_)
 (try simp only [zA,zB,zC,Act.put,zD,zE,zF])
 refine nT 4 (.int .i64 l) (y:=Or.inl ⟨by rfl,fun W hW=>by have q1:=bC hW;go_simp⟩) (s:=KN.out) (h:= ?_)
 (try simp only [zA,zB,zC,Act.put,zD,zE,zF])
 refine nP 5 (.pointer (some ⟨pn,1,none⟩)) (h:= ?_)
 (try simp only [zA,zB,zC,Act.put,zD,zE,zF])
 refine nT 6 (.int .i64 kn) (y:=Or.inl ⟨by rfl,fun W hW=>by have q1:=bC hW;go_simp⟩) (s:=KN.out) (h:= ?_)
 (try simp only [zA,zB,zC,Act.put,zD,zE,zF])
 refine nP 7 (.pointer (some ⟨pn,2,none⟩)) (h:= ?_)
 (try simp only [zA,zB,zC,Act.put,zD,zE,zF])
 refine nT 8 (.int .i64 sn) (y:=Or.inl ⟨by rfl,fun W hW=>by have q1:=bC hW;go_simp⟩) (s:=KN.out) (h:= ?_)
 (try simp only [zA,zB,zC,Act.put,zD,zE,zF])
 refine nP 9 (.pointer (some ⟨pr,0,none⟩)) (h:= ?_)
 (try simp only [zA,zB,zC,Act.put,zD,zE,zF])
 refine nP 10 (.pointer (some ⟨pr,0,none⟩)) (h:= ?_)
 (try simp only [zA,zB,zC,Act.put,zD,zE,zF])
 refine nP 11 (.pointer (some ⟨pr,0,none⟩)) (h:= ?_)
 (try simp only [zA,zB,zC,Act.put,zD,zE,zF])
 have KI0:=KI.out;unfold RdgAt at KI0;have c0:=bC KI0;have f0:=bF KI0;have zb0:=lB KI0;refine nO (i:=12) (by kernel_rfl) rfl (fun K hK=> ?_);go_simp;have KI1: (W0.setCell ⟨pr,0,none⟩ (.int .i64 l)).heap[pr]? =some (.cells #[.int .i64 l,.int .i64 z1,.int .i64 K_,.int .i64 z3,v] 174 (0,0)):=zH (i:=0) KI0 _;have KN1: (W0.setCell ⟨pr,0,none⟩ (.int .i64 l)).heap[pn]? =some (.cells #[.int .i64 l,.int .i64 kn,.int .i64 sn] 228 (0,0)):=(Below.heap_setCell _ _ _ _ hne).trans KN.out;refine hK.out _ _ (fun _ _=>KN1) ?_;clear hK K c0 f0 zb0
 (try simp only [zA,zB,zC,Act.put,zD,zE,zF])
 refine nP 13 (.pointer (some ⟨pr,0,none⟩)) (h:= ?_)
 (try simp only [zA,zB,zC,Act.put,zD,zE,zF])
 refine nP 14 (.pointer (some ⟨pr,0,none⟩)) (h:= ?_)
 (try simp only [zA,zB,zC,Act.put,zD,zE,zF])
 refine nP 15 (.pointer (some ⟨pr,1,none⟩)) (h:= ?_)
 (try simp only [zA,zB,zC,Act.put,zD,zE,zF])
 have c1:=bC KI1;have f1:=bF KI1;have zb1:=lB KI1;refine nO (i:=16) (by kernel_rfl) rfl (fun K hK=> ?_);go_simp;have KI2: ((W0.setCell ⟨pr,0,none⟩ (.int .i64 l)).setCell ⟨pr,1,none⟩ (.int .i64 kn)).heap[pr]? =some (.cells #[.int .i64 l,.int .i64 kn,.int .i64 K_,.int .i64 z3,v] 174 (0,0)):=zH (i:=1) KI1 _;have KN2: ((W0.setCell ⟨pr,0,none⟩ (.int .i64 l)).setCell ⟨pr,1,none⟩ (.int .i64 kn)).heap[pn]? =some (.cells #[.int .i64 l,.int .i64 kn,.int .i64 sn] 228 (0,0)):=(Below.heap_setCell _ _ _ _ hne).trans KN1;refine hK.out _ _ (fun _ _=>KN2) ?_;clear hK K c1 f1 zb1
 (try simp only [zA,zB,zC,Act.put,zD,zE,zF])
 refine nP 17 (.pointer (some ⟨pr,0,none⟩)) (h:= ?_)
 (try simp only [zA,zB,zC,Act.put,zD,zE,zF])
 refine nP 18 (.pointer (some ⟨pr,3,none⟩)) (h:= ?_)
 (try simp only [zA,zB,zC,Act.put,zD,zE,zF])
 have c2:=bC KI2;have f2:=bF KI2;have zb2:=lB KI2;refine nO (i:=19) (by kernel_rfl) rfl (fun K hK=> ?_);go_simp;have KI3: (((W0.setCell ⟨pr,0,none⟩ (.int .i64 l)).setCell ⟨pr,1,none⟩ (.int .i64 kn)).setCell ⟨pr,3,none⟩ (.int .i64 sn)).heap[pr]? =some (.cells #[.int .i64 l,.int .i64 kn,.int .i64 K_,.int .i64 sn,v] 174 (0,0)):=zH (i:=3) KI2 _;have KN3: (((W0.setCell ⟨pr,0,none⟩ (.int .i64 l)).setCell ⟨pr,1,none⟩ (.int .i64 kn)).setCell ⟨pr,3,none⟩ (.int .i64 sn)).heap[pn]? =some (.cells #[.int .i64 l,.int .i64 kn,.int .i64 sn] 228 (0,0)):=(Below.heap_setCell _ _ _ _ hne).trans KN2;refine hK.out _ _ (fun _ _=>KN3) ?_;clear hK K c2 f2 zb2
 (try simp only [zA,zB,zC,Act.put,zD,zE,zF])
 refine nD (by kernel_rfl) ?_ _;refine NoPanic.normal ?_;have KB3:=LH ((((KB.out.set (i:=0) (.int .i64 l)).set (i:=1) (.int .i64 kn)).set (i:=3) (.int .i64 sn)).drew);have KI4:RdgAt (World.drew (((W0.setCell ⟨pr,0,none⟩ (.int .i64 l)).setCell ⟨pr,1,none⟩ (.int .i64 kn)).setCell ⟨pr,3,none⟩ (.int .i64 sn))) pr l kn K_ sn v:=KI3;have KI5:=LH KI4;obtain⟨W4,hW4⟩ : ∃W4,World.drew (((W0.setCell ⟨pr,0,none⟩ (.int .i64 l)).setCell ⟨pr,1,none⟩ (.int .i64 kn)).setCell ⟨pr,3,none⟩ (.int .i64 sn)) =W4:=⟨_,rfl⟩;have c4:=bC KI4;have z4:=lB KI4;rw [hW4] at KB3 KI5 c4 z4⊢;clear KI4 KI3 KI2 KI1 KI0 KN3 KN2 KN1 KN KI KB hW4;go_wp2_with fail;refine(HR.out _).mono ?_;rintro e w5 ⟨rfl,hb5⟩;have K5:=LH (show RdgAt w5 pr l kn K_ sn v from bB KI5.out hb5);have c5:=bC K5.out;have z5:=lB K5.out;have B5:=LH (KB3.out.trans (But.of hb5 z4));clear c4 z4;go_wp2_with fail;go_ret;exact⟨ret_bool (by first|rfl|simp),K5.out,B5.out⟩
def NodePost (pr base l kn:Nat) (K_ left:Int) (v:Value) (r0:List Nd) (w:World) (e:Ending) (w':World) :Prop:=
 e=.returned (.bool true)∧∃v',RdgAt w' pr l kn K_ left v'∧Own w' base 77 encN v' r0∧w.heap.size≤w'.heap.size∧(∀b o,w.heap[b]? =some o→b≠pr→v.ownBlock≠some b→w'.heap[b]? =some o)∧∀z,z≤pr→z≤base→z≤w.heap.size→Below z w w'
theorem tyNd:SliceTy Tryz.prog 24 77 2 16 (.agg #[.int .i64 0,.int .i64 0]):=⟨Tryz.underlying24,by kernel_rfl,rfl,by decide⟩
theorem sheet_node (w:World) (pr base l kn:Nat) (K_ left:Int) (v:Value) (r0:List Nd) (x:Nd) (hl:1≤l∧l≤48) (hx:isNode l x.1=true) (hc:1≤x.2) (hc2:x.2≤left) (hleft:left≤72057594037927935) (hlast: ∀y∈r0,y.1<x.1) (hn:r0.length≤1000000)
 (h:RdgAt w pr l kn K_ left v) (ho:Own w base 77 encN v r0) (hb:base≤w.heap.size) :
 Calls Tryz.prog 105 #[.pointer (some ⟨pr,0,none⟩),.string ⟨((nodeT l x).flatten).toArray⟩] w (NodePost pr base l kn K_ (left - x.2) v (r0 ++ [x]) w):=by
 have he48:=ends_48 hl.2 hx;have HNd:=LH (fun W=>sheet_Node W l x.1 hx)
 have hL: (nodeT l x).flatten=lineQ [] [46,46] [32] (endsOf l x.1).1.toNat (endsOf l x.1).2.1.toNat x.2.toNat 0:=by
  unfold nodeT lineQ;simp only [List.flatten_cons,List.flatten_nil,List.nil_append]
 have hlen: (lineQ [] [46,46] [32] (endsOf l x.1).1.toNat (endsOf l x.1).2.1.toNat x.2.toNat 0).length≤1000000000:=by
  rw [←hL];have:=nodeT_len (l:=l) (x:=x) (by omega) (by omega) (by omega);omega
 rw [hL];clear hL hx;generalize (endsOf l x.1).1=lo at he48 HNd hlen⊢;generalize (endsOf l x.1).2.1=hi at he48 HNd hlen⊢;obtain⟨id,cn⟩:=x;simp only at he48 HNd hlen hc hc2 hlast⊢;obtain⟨lo,rfl⟩:=Int.eq_ofNat_of_zero_le (show 0≤lo by omega);obtain⟨hi,rfl⟩:=Int.eq_ofNat_of_zero_le (show 0≤hi by omega);obtain⟨cn,rfl⟩:=Int.eq_ofNat_of_zero_le (show 0≤cn by omega);simp only [Int.toNat_natCast] at hlen⊢
 have HT:=LH (fun (W:World) (b:Nat) (hb:W.heap.size=b)=>sheet_three (W.alloc (.cells #[.string ⟨#[]⟩,.string ⟨#[46,46]⟩,.string ⟨#[32]⟩] 9)) (some ⟨b,0,none⟩) 3 [] [46,46] [32] lo hi cn
  (by have h1:=sl_lit W encT [[], [46,46], [32]] 9 b hb;rw [show (W.alloc (.cells #[.string ⟨#[]⟩,.string ⟨#[46,46]⟩,.string ⟨#[32]⟩] 9)).heap.size=b+1 by simp [hb]];exact h1) (by omega) (by omega) (by omega) (fun t=>rfl) (fun t=>rfl) hlen)
 generalize lineQ [] [46,46] [32] lo hi cn 0=R at HT⊢;have HI:=LH h;have HO:=LH ho;have zp:=lB h;have hvp:=ho.ne_block h (by decide);obtain⟨A,cap,rfl,_⟩:=ho.form;obtain⟨n0,hn0⟩ : ∃n0,n0=r0.length:=⟨_,rfl⟩;rw [←hn0] at HI HO hn hvp⊢;have HN0:=LH hn0;clear hn0;have cA: ((cn:Nat) :Int)≥1:=hc;have g1:decide ((cn:Int) <1) =false:=by simp;omega
 have g2:decide (left< (cn:Int)) =false:=by simp;omega
 have g3:wrap64 (left - (cn:Int)) =left - (cn:Int):=by unfold wrap64;omega
 have HL:=LH hlast;clear h ho hlen he48 hlast hc hc2 hleft cA;unfold NodePost
 go_enter Tryz.func105,Tryz.ntmps105
 go_wp2_with fail;refine(HT.out _ _ rfl).mono ?_;rintro e w1 ⟨rfl,hb1⟩;have AW:Below w.heap.size w (w1.alloc (.cells #[.int .i64 lo,.int .i64 hi,.int .i64 cn] 228)):=(((Below.refl w.heap.size w).alloc (Nat.le_refl _) _).trans (hb1.mono (by simp))).alloc (by have:=hb1.size;simp at this;omega) _;have KI:=LH (show RdgAt (w1.alloc (.cells #[.int .i64 lo,.int .i64 hi,.int .i64 cn] 228)) pr l kn K_ left (.slice A n0 cap) from bB HI.out AW);have KO:=LH (HO.out.below AW);have KN:=LH (heap_alloc_new w1 (.cells #[.int .i64 lo,.int .i64 hi,.int .i64 cn] 228));have KB:=LH AW;have hne:w1.heap.size≠pr:=by have:=hb1.size;simp at this;omega
 clear hb1 AW;go_upto_region 2 with fail;obtain⟨W0,hW0⟩ : ∃W0,w1.alloc (.cells #[.int .i64 lo,.int .i64 hi,.int .i64 cn] 228) =W0:=⟨_,rfl⟩;obtain⟨pn,hpn⟩ : ∃pn,pn=w1.heap.size:=⟨_,rfl⟩;rw [←hpn] at KN hne⊢;rw [hW0] at KI KN KB KO⊢;clear hW0 hpn;have KI0:=KI.out;unfold RdgAt at KI0;have ci:=bC KI0;have zi:=lB KI0;have cn_:=bC KN.out;have zn:=lB KN.out;refine rX (by kernel_rfl) (by kernel_rfl) ?_
 repeat (go_big_quiet_step ((go_at_call 174;exact quiet_ext (HNd.out _))))
 refine wpQuiet_nil ?_;intro w2 hb2;replace hb2:=bX hb2;have K2:=LH (show RdgAt w2 pr l kn K_ left (.slice A n0 cap) from bB KI0 hb2);have O2:=LH (KO.out.below hb2);have N2:=LH (bB KN.out hb2);have B2:=LH (KB.out.trans (hb2.mono KB.out.size));clear KI KO KN KB KI0 ci cn_ zi zn hb2;have K20:=K2.out;unfold RdgAt at K20;have ci:=bC K20;have zi:=lB K20;have cn_:=bC N2.out;have zn:=lB N2.out
 have hm:Hid ((n0=0)∨∃(m b off:Nat) (y:Int),A=some ⟨b,off,none⟩∧n0=m+1∧b<w2.heap.size∧w2.cell? ⟨b,off+m*2,none⟩ =some (.int .i64 y)∧decide (id≤y) =false):=LH (by
  rcases Nat.eq_zero_or_pos n0 with h0|h0
  ·exact .inl h0
  ·obtain⟨m,hm⟩ : ∃m,n0=m+1:=⟨n0 - 1,by omega⟩
   obtain⟨b,off,hA,hbz,hcl⟩:=O2.out.sl.at_ (k:=m) (by have:=HN0.out;omega);have d0:=hcl 0 (.int .i64 (r0[m]'(by have:=HN0.out;omega)).1) rfl;have:=HL.out _ (List.getElem_mem (show m<r0.length by have:=HN0.out;omega));exact .inr ⟨m,b,off,_,hA,hm,hbz,by simpa using d0,by simp only [decide_eq_false_iff_not];omega⟩)
 go_wp2_with fail
 go_cut [70] (fun z W=>z=.bool false∧RdgAt W pr l kn K_ left (.slice A n0 cap)∧Own W base 77 encN (.slice A n0 cap) r0∧W.heap[pn]? =some (.cells #[.int .i64 lo,.int .i64 hi,.int .i64 cn] 228 (0,0))∧Below w.heap.size w W)
 case first=>
  rcases hm.out with k0| ⟨m,b,off,y,rfl,rfl,hbz,d0,hle⟩
  ·obtain rfl:n0=0:=k0
   refine rX (by kernel_rfl) (by kernel_rfl) ?_
   repeat (go_big_quiet_step (fail))
   refine wpQuiet_nil ?_;intro w3 hb3;replace hb3:=bX hb3;have q1:RdgAt w3 pr l kn K_ left (.slice A 0 cap):=bB K20 hb3;have q2:=O2.out.below hb3;have q3:=bB N2.out hb3;have q4:=B2.out.trans (hb3.mono B2.out.size);go_wp2_with fail
   go_meet
   exact⟨rfl,q1,q2,q3,q4⟩
  ·have hmi: (m:Int) < (m+1:Int):=by omega
   refine rX (by kernel_rfl) (by kernel_rfl) ?_
   repeat (go_big_quiet_step (fail))
   refine wpQuiet_nil ?_;intro w3 hb3;replace hb3:=bX hb3;have q1:RdgAt w3 pr l kn K_ left (.slice (some ⟨b,off,none⟩) (m+1) cap):=bB K20 hb3;have q2:=O2.out.below hb3;have q3:=bB N2.out hb3;have q4:=B2.out.trans (hb3.mono B2.out.size);go_wp2_with fail
   go_meet
   exact⟨rfl,q1,q2,q3,q4⟩
 case rest=>
  obtain⟨rfl,hI,hO,hN,hB⟩:=hcut;clear K2 O2 N2 B2 K20 ci zi cn_ zn hm;have KO:=LH hO;have KB:=LH hB;have KI0:=hI;unfold RdgAt at KI0;have ci0:wc.cell? ⟨pr,3,none⟩ =some (.int .i64 left):=bC KI0 3;have fi:=bF KI0;have zi:=lB KI0;have cn2:wc.cell? ⟨pn,2,none⟩ =some (.int .i64 cn):=bC hN 2;have zn:=lB hN;have KI1:=LH (zH (i:=3) KI0 (.int .i64 (left - cn)));have KN1:=LH ((Below.heap_setCell wc ⟨pr,3,none⟩ (.int .i64 (left - cn)) pn hne).trans hN);have KO1:=LH (KO.out.setCell (p:=⟨pr,3,none⟩) hvp (.int .i64 (left - cn)));clear hI hO hN hB KI0;go_wp2_with fail
  go_region
  obtain⟨W5,hW5⟩ : ∃W5,(wc.setCell ⟨pr,3,none⟩ (.int .i64 (left - cn))).drew=W5:=⟨_,rfl⟩;have KI5:Hid (W5.heap[pr]? =some (.cells #[.int .i64 l,.int .i64 kn,.int .i64 K_,.int .i64 (left - cn),.slice A n0 cap] 174 (0,0))):=LH (by rw [←hW5];exact KI1.out);have KN5:Hid (W5.heap[pn]? =some (.cells #[.int .i64 lo,.int .i64 hi,.int .i64 cn] 228 (0,0))):=LH (by rw [←hW5];exact KN1.out);have KO5:Hid (Own W5 base 77 encN (.slice A n0 cap) r0):=LH (by rw [←hW5];exact KO1.out);have KB5:Hid (But pr w W5):=LH (by rw [←hW5];exact((But.of KB.out zp).set (i:=3) (.int .i64 (left - cn))).drew);rw [hW5];clear hW5 KI1 KN1 KO1 KO KB ci0 fi zi cn2 zn;go_upto_region 7 with fail;refine wp_region_noPanic ?_;refine wp_region_N (fun W=>W.heap[pr]? =some (.cells #[.int .i64 l,.int .i64 kn,.int .i64 K_,.int .i64 (left - cn),.slice A n0 cap] 174 (0,0))∧W.heap[pn]? =some (.cells #[.int .i64 lo,.int .i64 hi,.int .i64 cn] 228 (0,0))) [13] (by kernel_rfl) (⟨KI5.out,KN5.out⟩) (fun hHeld=> ?_);refine nP 0 (.pointer (some ⟨pr,0,none⟩)) (h:= ?_)
  (try simp only [zA,zB,zC,Act.put,zD,zE,zF])
  refine nP 1 (.pointer (some ⟨pr,0,none⟩)) (h:= ?_)
  (try simp only [zA,zB,zC,Act.put,zD,zE,zF])
  refine nP 2 (.pointer (some ⟨pr,0,none⟩)) (h:= ?_)
  (try simp only [zA,zB,zC,Act.put,zD,zE,zF])
  refine nP 3 (.pointer (some ⟨pr,4,none⟩)) (h:= ?_)
  (try simp only [zA,zB,zC,Act.put,zD,zE,zF])
  refine wpAnyN_take (i:=4) (v:=.slice A n0 cap) rfl (by kernel_rfl) (by kernel_rfl) (by kernel_rfl) (by kernel_rfl) (fun _ _ _ h=>h) (Or.inl ⟨by rfl,fun W hW=>by have q1:=bC hW.1;go_simp⟩) ⟨KI5.out,KN5.out⟩ ?_
  (try simp only [zA,zB,zC,Act.put,zD,zE,zF])
  refine nP 5 (.int .i64 id) (h:= ?_)
  (try simp only [zA,zB,zC,Act.put,zD,zE,zF])
  refine nP 6 (.pointer (some ⟨pn,2,none⟩)) (h:= ?_)
  (try simp only [zA,zB,zC,Act.put,zD,zE,zF])
  refine wpAnyN_take (i:=7) (v:=.int .i64 cn) rfl (by kernel_rfl) (by kernel_rfl) (by kernel_rfl) (by kernel_rfl) (fun _ _ _ h=>h) (Or.inl ⟨by rfl,fun W hW=>by have q1:=bC hW.2;go_simp⟩) ⟨KI5.out,KN5.out⟩ ?_
  (try simp only [zA,zB,zC,Act.put,zD,zE,zF])
  refine nP 8 (.agg #[.int .i64 id,.int .i64 cn]) (h:= ?_)
  (try simp only [zA,zB,zC,Act.put,zD,zE,zF])
  refine nO (i:=9) (by kernel_rfl) rfl (fun K hK=> ?_);go_simp;have A6:Below W5.heap.size W5 (W5.alloc (.cells #[.int .i64 id,.int .i64 cn] 77)).drew:=((Below.refl W5.heap.size W5).alloc (Nat.le_refl _) _).drew;have KI6:=LH (bB KI5.out A6);have KN6:=LH (bB KN5.out A6);have KO6:=LH (KO5.out.below A6);have hsz5:w.heap.size≤W5.heap.size:=KB5.out.s;have KB6:=LH (KB5.out.trans (But.of A6 (Nat.lt_of_lt_of_le zp hsz5)));have KS6:Hid (Sl (W5.alloc (.cells #[.int .i64 id,.int .i64 cn] 77)).drew (W5.heap.size+1) encN (some ⟨W5.heap.size,0,none⟩) [(id,(cn:Int))]):=LH (by have h:=sl_lit W5 encN [(id,(cn:Int))] 77 W5.heap.size rfl;simp only [List.flatMap_cons,List.flatMap_nil,List.append_nil] at h;exact h);have hs6:W5.heap.size< (W5.alloc (.cells #[.int .i64 id,.int .i64 cn] 77)).drew.heap.size:=by simp
  refine hK.out _ _ (fun _ _=>⟨KI6.out,KN6.out⟩) ?_;clear hK K A6
  (try simp only [zA,zB,zC,Act.put,zD,zE,zF])
  generalize (W5.alloc (.cells #[.int .i64 id,.int .i64 cn] 77)).drew=W6 at KI6 KN6 KO6 KB6 KS6 hs6⊢;refine nO (i:=10) (by kernel_rfl) rfl (fun K hK=> ?_);refine step_app (o:=⟨some 90,_,_,_,_,_⟩) tyNd (by rfl) _ _ (by rfl) encN base (.slice A n0 cap) r0 (by rfl) KO6.out (some ⟨W5.heap.size,0,none⟩) 1 [(id,(cn:Int))] _ (by rfl) KS6.out (by have:=HN0.out;simp only [List.length_singleton];omega) (by have:=HN0.out;simp only [maxLen,List.length_singleton];omega) (by omega) ?_;intro v7 W7 ho7 hg7 hl7 hb7 hn7;have hvp6:=KO6.out.ne_block KI6.out (by decide);have hvn6:=KO6.out.ne_block KN6.out (by decide);have zp6:=lB KI6.out;have KI7:=LH ((hg7.block pr zp6 (fun e=>hvp6 e.symm)).trans KI6.out);have KN7:=LH ((hg7.block pn (lB KN6.out) (fun e=>hvn6 e.symm)).trans KN6.out);have KO7:=LH ho7;have KG7:=LH hg7;have KH7:=LH hb7;obtain⟨A7,cap7,rfl,_⟩:=ho7.form;obtain⟨n7,hn7e⟩ : ∃n7,n7= (r0 ++ [(id,(cn:Int))]).length:=⟨_,rfl⟩;rw [←hn7e] at KO7⊢;clear hn7e;have hvp7:=KO7.out.ne_block KI7.out (by decide);clear ho7 hg7 hl7 hb7 hn7;refine hK.out _ _ (fun _ _=>⟨KI7.out,KN7.out⟩) ?_;clear hK K
  (try simp only [zA,zB,zC,Act.put,zD,zE,zF])
  refine nP 11 (.pointer (some ⟨pr,0,none⟩)) (h:= ?_)
  (try simp only [zA,zB,zC,Act.put,zD,zE,zF])
  refine nP 12 (.pointer (some ⟨pr,4,none⟩)) (h:= ?_)
  (try simp only [zA,zB,zC,Act.put,zD,zE,zF])
  have c7:=bC KI7.out;have f7:=bF KI7.out;have z7:=lB KI7.out;refine nO (i:=13) (by kernel_rfl) rfl (fun K hK=> ?_);go_simp;have KI8:RdgAt (W7.setCell ⟨pr,4,none⟩ (.slice A7 n7 cap7)) pr l kn K_ (left - cn) (.slice A7 n7 cap7):=zH (i:=4) KI7.out _;have KO8:=KO7.out.setCell (p:=⟨pr,4,none⟩) hvp7 (.slice A7 n7 cap7)
  have HF:NodePost pr base l kn K_ (left - cn) (.slice A n0 cap) (r0 ++ [(id,(cn:Int))]) w (.returned (.bool true)) (W7.setCell ⟨pr,4,none⟩ (.slice A7 n7 cap7)):=by
   refine⟨rfl,_,KI8,KO8,by have:=KB6.out.s;have:=KG7.out.size;simp;omega,fun b o hb h1 h2=> ?_,fun z h1 h2 h3=> ?_⟩
   ·have hk:=KB6.out.k b o hb h1
    exact(Below.heap_setCell _ _ _ _ h1).trans ((KG7.out.block b (Array.getElem?_eq_some_iff.1 hk).1 (fun e=>h2 e.symm)).trans hk)
   ·exact((KB6.out.b z h1).trans (KH7.out.mono h2)).setCell (p:=⟨pr,4,none⟩) h1 _
  have HF2:=LH HF;clear HF KI8 KO8 KI7 KN7 KO7 KG7 KH7 KI6 KN6 KO6 KB6 KS6 KI5 KN5 KO5 KB5 c7 f7 z7;refine hK.out _ _ (fun h _=>absurd (List.mem_singleton.2 rfl) h) ?_;clear hK K
  (try simp only [zA,zB,zC,Act.put,zD,zE,zF])
  refine nD (by kernel_rfl) ?_ _;refine NoPanic.normal ?_;generalize W7.setCell ⟨pr,4,none⟩ (.slice A7 n7 cap7) =W8 at HF2⊢;go_wp2_with fail;exact bR (v:=.bool true) (by simp only [results,Tryz.results105];go_simp) rfl HF2.out
theorem sheet_end (w:World) (pr l kn base:Nat) (K_:Int) (A:Option Addr) (cap:Nat) (r:List Nd) (hl:1≤l∧l≤48) (hk:1≤kn∧kn≤1048576) (hr:rightOf l r=true) (h8: ¬8* (kn:Int) <r.length) (hli:lightOf l r kn=true) (hI:ints r) (hn:r.length≤1000000)
 (h:RdgAt w pr l kn K_ 0 (.slice A r.length cap)) (ho:Own w base 77 encN (.slice A r.length cap) r) :
 Calls Tryz.prog 106 #[.pointer (some ⟨pr,0,none⟩)] w fun e w'=>e=.returned (.int .i64 0)∧Below w.heap.size w w':=by
 have HR:=LH (fun W (h:Own W base 77 encN (.slice A r.length cap) r)=>roll_Right W l A cap r h.sl hI (by unfold maxLen;omega));rw [hr] at HR;have HP:=LH (fun W (h:Own W base 77 encN (.slice A r.length cap) r)=>pool_Load W 2 l A cap r (by unfold isPool;simp;omega) hr h.sl hI (by omega));have HLi:=LH (fun W g F (h:PoolAt W g 2 l r F)=>press_Light W g 2 l r F kn h (by omega) (by omega) (by omega));rw [hli] at HLi;have HI:=LH h;have HO:=LH ho;obtain⟨n0,hn0⟩ : ∃n0,n0=r.length:=⟨_,rfl⟩;rw [←hn0] at HI HO HR HP hn h8;have k8:decide (8* (kn:Int) < (n0:Int)) =false:=by simpa using h8
 have h0:=HI.out;unfold RdgAt at h0;clear hr hli hI h ho hn0 h8
 go_enter Tryz.func106,Tryz.ntmps106
 go_wp2_with fail;have c0:=bC h0;have z0:=lB h0;refine rX (by kernel_rfl) (by kernel_rfl) ?_
 repeat (go_big_quiet_step ((go_at_call 56;exact quiet_ext (HR.out _ (HO.out.below (ext_below _ _))))))
 refine wpQuiet_nil ?_;intro w1 hb1;replace hb1:=bX hb1;have k1:=bB h0 hb1;have O1:=LH (HO.out.below hb1);have B1:=LH hb1;clear c0 z0 h0 hb1;have c0:=bC k1;have z0:=lB k1;go_wp2_with fail;refine rX (by kernel_rfl) (by kernel_rfl) ?_
 repeat (go_big_quiet_step (fail))
 refine wpQuiet_nil ?_;intro w2 hb2;replace hb2:=bX hb2;have k2:=bB k1 hb2;have O2:=LH (O1.out.below hb2);have B2:=LH (B1.out.trans (hb2.mono B1.out.size));clear c0 z0 k1 hb2;have K2:=LH k2;go_upto_region 5 with fail;refine wp_region_noPanic ?_;refine wp_region_N (fun W=>W.heap[pr]? =some (.cells #[.int .i64 l,.int .i64 kn,.int .i64 K_,.int .i64 0,.slice A n0 cap] 174 (0,0))) [] (by kernel_rfl) (k2) (fun hHeld=> ?_);refine nP 0 (.pointer (some ⟨pr,0,none⟩)) (h:= ?_)
 (try simp only [zA,zB,zC,Act.put,zD,zE,zF])
 refine nP 1 (.pointer (some ⟨pr,0,none⟩)) (h:= ?_)
 (try simp only [zA,zB,zC,Act.put,zD,zE,zF])
 refine nP 2 (.pointer (some ⟨pr,0,none⟩)) (h:= ?_)
 (try simp only [zA,zB,zC,Act.put,zD,zE,zF])
 refine nP 3 (.pointer (some ⟨pr,0,none⟩)) (h:= ?_)
 (try simp only [zA,zB,zC,Act.put,zD,zE,zF])
 refine nT 4 (.int .i64 l) (y:=Or.inl ⟨by rfl,fun W hW=>by have q1:=bC hW;go_simp⟩) (s:=k2) (h:= ?_)
 (try simp only [zA,zB,zC,Act.put,zD,zE,zF])
 refine nP 5 (.pointer (some ⟨pr,0,none⟩)) (h:= ?_)
 (try simp only [zA,zB,zC,Act.put,zD,zE,zF])
 refine nP 6 (.pointer (some ⟨pr,0,none⟩)) (h:= ?_)
 (try simp only [zA,zB,zC,Act.put,zD,zE,zF])
 refine nP 7 (.pointer (some ⟨pr,4,none⟩)) (h:= ?_)
 (try simp only [zA,zB,zC,Act.put,zD,zE,zF])
 refine nT 8 (.slice A n0 cap) (y:=Or.inl ⟨by rfl,fun W hW=>by have q1:=bC hW;go_simp⟩) (s:=k2) (h:= ?_)
 (try simp only [zA,zB,zC,Act.put,zD,zE,zF])
 refine nO (i:=9) (by kernel_rfl) rfl (fun K hK=> ?_);go_simp;refine(HP.out _ (O2.out.drew)).mono ?_;rintro e w3 ⟨g3,F3,rfl,hP3,_,hb3⟩;have k3:=bB (w:=w2.drew) K2.out hb3;have P3:=LH hP3;have B3:=LH ((Below.drew B2.out).trans (hb3.mono (Below.drew B2.out).size));clear hP3 hb3;refine hK.out _ _ (fun _ _=>k3) ?_;clear hK K
 (try simp only [zA,zB,zC,Act.put,zD,zE,zF])
 refine nP 10 (.tuple #[.pointer (some ⟨g3,0,none⟩),.int .i64 0]) (h:= ?_)
 (try simp only [zA,zB,zC,Act.put,zD,zE,zF])
 refine nP 11 (.pointer (some ⟨g3,0,none⟩)) (h:= ?_)
 (try simp only [zA,zB,zC,Act.put,zD,zE,zF])
 refine nP 12 (.int .i64 0) (h:= ?_)
 (try simp only [zA,zB,zC,Act.put,zD,zE,zF])
 refine nP 13 (.pointer (some ⟨g3,0,none⟩)) (h:= ?_)
 (try simp only [zA,zB,zC,Act.put,zD,zE,zF])
 refine nO (i:=14) (by kernel_rfl) rfl (fun K hK=> ?_);go_simp;refine hK.out _ _ (fun _ _=>k3) ?_;clear hK K
 (try simp only [zA,zB,zC,Act.put,zD,zE,zF])
 refine nD (by kernel_rfl) ?_ _;refine NoPanic.normal ?_;have c3:=bC k3;have z3:=lB k3;have HL3:=LH (fun W h=>HLi.out W g3 F3 h);clear HLi k2 K2 O2 B2 HR HP HO O1 B1;go_wp2_with fail;refine(HL3.out _ P3.out).mono ?_;rintro e w4 ⟨rfl,hb4⟩;have B4:=B3.out.trans (hb4.mono B3.out.size);go_wp2_with fail;exact bR (v:=.int .i64 0) (by simp only [results,Tryz.results106];go_simp) rfl ⟨rfl,B4⟩
section
variable {F:Fence} {n:Nat} {P:Program}
def SeqSt (F:Fence) (n:Nat) (P:Program) (g:Nat) (lb:Array Value) (encs:Nat→Array Value) (N bs:Nat) (st:Nat→Obj) (w:World) :Prop:=
 ∀(l:Nat) (J:Nat→World→Prop) (W:World),Below w.heap.size w W→AbidesFrom W.heap.size J→(∀s A v,J s A→J s (A.setCell ⟨bs,0,none⟩ v))→
  (∀k W1,k<N→J k W1→W1.heap[bs]? =some (st k)→YieldAt F (n - 1) P l (encs k) W1 fun e W'=>e=.returned (.bool true)∧J (k+1) W'∧W'.heap[bs]? =some (st k))→
  J 0 W→W.heap[bs]? =some (st 0)→CallsIn F n P g (#[.func (.yield l) #[] #[]] ++ lb) W fun e W'=>(∃v,e=.returned v)∧J N W'
def stPost (B bs:Nat) (st:Nat→Obj) (I:Nat→World→Prop) (k:Nat) (W:World) :Exit→Act→World→Prop
 | .normal,_,W'=>KeepsFrom B W W'∧I (k+1) W'∧W'.heap[bs]? =some (st k)
 |_,_,_=>False
theorem wpIn_rangeFunc_st {g:Operand} {ps:Array Tmp} {assign body:Code} {Q:Exit→Act→World→Prop} {a:Act} {w:World}
 (hro:F.round=none) (h1:1≤n) {gf:Nat} {lb:Array Value} (hg:a.eval g=.func (.func gf) #[] lb) (hFg:F.fn gf) (eg: ∀args w,(callFunc gf args).run P w=.ok (.enter gf args) w)
 {encs:Nat→Array Value} {N bs:Nat} {st:Nat→Obj} {w0:World} (hseq:SeqSt F (n - 1) P gf lb encs N bs st w0) (hb0:Below w0.heap.size w0 w) (hbs:w.heap[bs]? =some (st 0)) (hps: ∀k,(encs k).size=ps.size)
 (I:Nat→World→Prop) (hI:OwnFrom w.heap.size I) (hIs: ∀s A v,I s A→I s (A.setCell ⟨bs,0,none⟩ v)) (h0:I 0 w) (a₁:Nat→Act)
 (hassign: ∀(l k:Nat) (W:World) (K:Act→World→Prop),K (a₁ k) W→
   assign.wpIn (F.inRound l) (n - 1 - 1) P (Exit.then K (fun _ _ _=>False)) {tmps:=(ps.zip (encs k)).foldl (fun t (p,v)=>t.setIfInBounds p v) a.tmps,defers:= []} W)
 (hbody: ∀(l k:Nat) (W:World),k<N→I k W→W.heap[bs]? =some (st k)→body.wpIn (F.inRound l) (n - 1 - 1) P (stPost w.heap.size bs st I k W) (a₁ k) W)
 (hdone: ∀(D:Nat) (W:World),w.heap.size≤D→I N W→W.heap[D]? =some (.deferred (some []))→Q .normal {a with defers:={target:=.collected D,args:= #[]} :: a.defers} W) :
 (Code.rangeFunc g ps assign body).wpIn F n P Q a w:=by
 have hbl:bs<w.heap.size:=(Array.getElem?_eq_some_iff.1 hbs).1;refine wpIn_rangeFunc ?_;intro fn hfn;rw [hro];obtain⟨rec,hrec⟩ : ∃rec:LoopState→Option Code→Loop,rec=fun s pe=>{state:=s,pending:=pe,fn,tmps:=a.tmps,params:=ps,assign,body,defers:=w.heap.size}:=⟨_,rfl⟩;obtain⟨W1,hW1⟩ : ∃W1,(w.alloc (.deferred (some []))).alloc (.loop (rec .ready none)) =W1:=⟨_,rfl⟩;have q0: (w.alloc (.deferred (some []))).heap.size=w.heap.size+1:=by simp
 have hL:W1.heap[w.heap.size+1]? =some (.loop (rec .ready none)):=by
  rw [←hW1,←q0];exact World.alloc_heap_new _ _
 have hD:W1.heap[w.heap.size]? =some (.deferred (some [])):=by
  rw [←hW1];exact(Below.heap_alloc _ _ _ (by omega)).trans (World.alloc_heap_new w _)
 have hA:Below w.heap.size w W1:=by
  rw [←hW1];exact((Below.refl _ w).alloc (Nat.le_refl _) _).alloc (by omega) _
 have hI0:I 0 W1:=by rw [←hW1];exact hI.alloc _ (hI.alloc _ h0)
 have hsz:w.heap.size≤W1.heap.size:=hA.size
 refine⟨w.heap.size+1, [{target:=.collected w.heap.size,args:= #[]}],W1,{target:=.fn (.func gf) lb,args:= #[.func (.yield (w.heap.size+1)) #[] #[]]},W1,gf,
  #[.func (.yield (w.heap.size+1)) #[] #[]] ++ lb,W1,?_,?_,?_,?_,fun _=>h1,?_⟩
 ·rw [←hW1,hrec];exact run_enterLoop_outer _ _ _ _ _
 ·simp only [resolve,hg]
  simp [go_sem]
 ·intro f' hf';simp [Target.leads] at hf';subst hf';exact hFg
 ·simp [invoke,go_sem,eg]
 ·have ne1:w.heap.size+1≠bs:=by omega
  have ne2:w.heap.size≠bs:=by omega
  refine(hseq (w.heap.size+1) (fun k W=>I k W∧W.heap[w.heap.size+1]? =some (.loop (rec .ready none))∧W.heap[w.heap.size]? =some (.deferred (some []))) W1 (hb0.trans (hA.mono hb0.size))
   (fun s A B row hs hgr hr=>⟨hI s A B row hs.1 hgr (fun r e=>by obtain⟨u,o,ho,hw⟩:=hr r e;exact⟨Nat.le_trans hsz u,o,ho,Obj.not_cells_of_walk hw⟩),
     (grownBy_keeps hgr (fun r e=>(hr r e).2) hs.2.1 rfl).trans hs.2.1,(grownBy_keeps hgr (fun r e=>(hr r e).2) hs.2.2 rfl).trans hs.2.2⟩)
   (fun s A v hs=>⟨hIs s A v hs.1,(Below.heap_setCell _ _ _ _ ne1).trans hs.2.1,(Below.heap_setCell _ _ _ _ ne2).trans hs.2.2⟩)
   ?_ ⟨hI0,hL,hD⟩ ((hA.block bs hbl).trans hbs)).mono ?_
  ·rintro k W hk ⟨hi,hl,hd⟩ hb
   have hlt:w.heap.size+1<W.heap.size:=(Array.getElem?_eq_some_iff.1 hl).1;have hy:=run_yield (P:=P) (args:=encs k) hl (by rw [hrec];exact hps k);rw [hrec] at hy;refine⟨fn,_,assign,body,hy,roundIn_of_wpIn hfn (hassign _ k W _ ?_)⟩;refine⟨_,run_beginRound hl (by rw [hrec]),?_⟩;have hl2: (W.putObj (w.heap.size+1) (.loop {rec .ready none with state:=.busy})).heap[w.heap.size+1]? =some (.loop {rec .ready none with state:=.busy}):=World.putObj_heap_same hlt;have hd2: (W.putObj (w.heap.size+1) (.loop {rec .ready none with state:=.busy})).heap[w.heap.size]? =some (.deferred (some [])):=(World.putObj_heap_other (by omega)).trans hd;have hb2: (W.putObj (w.heap.size+1) (.loop {rec .ready none with state:=.busy})).heap[bs]? =some (st k):=(World.putObj_heap_other (Ne.symm ne1)).trans hb;refine wpIn_mono (hbody _ k _ hk (hI.putObj _ hi (by omega) hl rfl) hb2) ?_;rintro e a3 W3 hp
   cases e with
   |normal=>
    obtain⟨hk3,hi3,hb3⟩:=hp;have hl3:=hk3.same _ _ (by omega) hl2 rfl;have hr:=run_endRound (P:=P) none hl3;rw [hrec] at hr;refine⟨_,_,hr,rfl,⟨hI.putObj _ hi3 (by omega) hl3 rfl,?_,?_⟩,?_⟩
    ·rw [World.putObj_heap_same (Array.getElem?_eq_some_iff.1 hl3).1,hrec];rfl
    ·exact(World.putObj_heap_other (by omega)).trans (hk3.same _ _ (Nat.le_refl _) hd2 rfl)
    ·exact(World.putObj_heap_other (Ne.symm ne1)).trans hb3
   |ret=>exact hp.elim
   |exit id=>exact hp.elim
   |goto t=>exact hp.elim
   |panic ch=>exact hp.elim
   |outgrown=>exact hp.elim
  ·rintro e W2 ⟨⟨v,rfl⟩,hi,hl,hd⟩
   exact⟨none,_,by have:=run_endLoop (P:=P) hl (by rw [hrec];simp);rw [hrec] at this;exact this,hdone _ _ (Nat.le_refl _) (hI.putObj _ hi (by omega) hl rfl) ((World.putObj_heap_other (by omega)).trans hd)⟩
end
def stepD (L:List Int) :List Int:=List.zipWith (fun x p=>x - p) L (0 :: L)
theorem stepD_len (L:List Int) : (stepD L).length=L.length:=by simp [stepD]
theorem stepD_at (L:List Int) {q:Nat} (h:q<L.length) {p:Int} (hp: (0 :: L)[q]? =some p) : (stepD L)[q]? =some (L[q] - p):=by
 unfold stepD;rw [List.getElem?_zipWith,hp,List.getElem?_eq_getElem h]
def risesB (L:List Int) :List UInt8:=oneB L.length ++ putB (stepD L)
def risesOk (L:List Int) :Bool:=(stepD L).all fun d=>decide (0<d)
theorem putB_step {D:List Int} {q:Nat} {d:Int} (h:D[q]? =some d) :putB (D.take (q+1)) =putB (D.take q) ++ oneB d.toNat:=by
 obtain⟨hq,rfl⟩:=List.getElem?_eq_some_iff.1 h;exact putB_take hq
theorem vary_Rises (w:World) (base:Nat) (v:Value) (L:List Int) (ho:Own w base 3 encZ v L) (hi: ∀x∈L,i64 x) (hl:L.length≤1000000) (hr:risesOk L=true) :
 Calls Tryz.prog 72 #[v] w fun e w'=>e=.returned (.tuple #[.string ⟨(risesB L).toArray⟩,.int .i64 0])∧Below w.heap.size w w':=by
 obtain⟨A,c,rfl,_⟩:=ho.form;have HO:=LH (ho.base_le (Nat.zero_le _));have HI:=LH hi
 have HD:=LH (fun q (hq:q<L.length) (d:Int) (hd: (stepD L)[q]? =some d)=>by
  have:=List.all_eq_true.1 hr d (List.mem_of_getElem? hd)
  simpa using this)
 clear ho hi hr
 go_enter Tryz.func72,Tryz.ntmps72
 go_wp2_with fail;refine(vary_one w w.heap.size _ [] L.length (Own.nil _ _ _ _) (Nat.le_refl _) (by simp) (by omega)).mono ?_;rintro e w1 ⟨v1,rfl,ho1,hb1⟩;have HU1:=LH ho1;have HB1:=LH hb1;clear ho1 hb1;go_wp2_with fail
 go_loopw [4,5,13] (fun u pv j wr=>∃(q:Nat) (p:Int),j=.int .i64 q∧pv=.int .i64 p∧q≤L.length∧(0 :: L)[q]? =some p∧0≤p∧(∀d∈(stepD L).take q,d≤9223372036854775807)∧Own wr w.heap.size 5 encB8 u (oneB L.length ++ putB ((stepD L).take q))∧Below w.heap.size w wr) (fun _ _ j _=>L.length - (intOf j).toNat)
 case atStart=>exact⟨0,0,rfl,rfl,Nat.zero_le _,rfl,Int.le_refl _,by simp,by simpa [putB] using HU1.out,HB1.out⟩
 case round=>
  obtain⟨q,p,rfl,rfl,hq,hp,hp0,hd,ho,hB⟩:=hrel;have HB:=LH hB;have HR:=LH (HO.out.below hB);have HU:=LH ho;have HP:=LH hp;have HDl:=LH hd;have sz:=hB.size;clear hp hd ho hB;by_cases hlt:q<L.length
  ·have hqi: (q:Int) < (L.length:Int):=by omega
   have HS:=LH (stepD_at L hlt HP.out);have hpos:=HD.out q hlt _ HS.out;have hx1:=(HI.out _ (List.getElem_mem hlt)).2;have HN:Hid ((0 :: L)[q+1]? =some L[q]):=LH (by simp [List.getElem?_eq_getElem hlt]);obtain⟨b,off,rfl,hb,hc⟩:=HR.out.sl.at_ hlt;have d0:=hc 0 (.int .i64 L[q]) rfl;simp only [Nat.mul_one,Nat.add_zero] at d0;generalize L[q] =x at HS hpos hx1 HN d0;obtain⟨n,hn⟩ : ∃n:Nat,x - p= (n:Int):=⟨(x - p).toNat,by omega⟩;have hle: ¬x≤p:=by omega
   have hn9:n≤9223372036854775807:=by omega
   have HT:=LH (putB_step HS.out);rw [hn] at HT
   have hlq: (oneB L.length ++ putB ((stepD L).take q)).length≤67108864:=by
    have h1:=putB_len HDl.out;have h2: ((stepD L).take q).length≤1000000:=by rw [List.length_take];omega
    have h3:=oneB_le (n:=L.length) (by omega);rw [List.length_append];omega
   have HD2:Hid (∀d∈(stepD L).take (q+1),d≤9223372036854775807):=LH (by
    obtain⟨h1,h2⟩:=List.getElem?_eq_some_iff.1 HS.out;rw [List.take_succ_eq_append_getElem h1];intro d hd;rcases List.mem_append.1 hd with h|h
    ·exact HDl.out d h
    ·simp only [List.mem_singleton] at h;rw [h,h2];omega)
   have hx0:0≤x:=by omega
   clear hc hpos HS;go_wp2_with fail;refine(vary_one wr w.heap.size _ _ n HU.out sz hlq hn9).mono ?_;rintro e w2 ⟨v2,rfl,ho2,hb2⟩;have HU2:=LH ho2;have HB2:=LH (HB.out.trans hb2);clear ho2 hb2;go_wp2_with fail;go_roundw
   case rel=>exact⟨q+1,x,by go_num,rfl,by omega,HN.out,hx0,HD2.out,by rw [HT.out,←List.append_assoc];exact HU2.out,HB2.out⟩
   case measure=>simp [intOf];omega
  ·obtain rfl:q=L.length:=by omega
   rw [show (stepD L).take L.length=stepD L by rw [←stepD_len L,List.take_length]] at HU;have hqi:decide ((L.length:Int) < (L.length:Int)) =false:=by simp
   have hGp:0< (oneB L.length ++ putB (stepD L)).length:=by
    have:=oneB_pos L.length;rw [List.length_append];omega
   obtain⟨bb,oo,cc,rfl,_⟩:=own_at0 HU.out hGp;have hcv:=run_convert_bytes_back (P:=Tryz.prog) wr 134 9 5 ⟨bb,oo,none⟩ cc (oneB L.length ++ putB (stepD L)) Tryz.underlying134 Tryz.underlying5 Tryz.underlying9 (bytes_back HU.out);generalize hG:oneB L.length ++ putB (stepD L) =G at HU hcv hGp⊢;have HG:=LH hG;clear hG;go_wp2_with fail
   all_goals exact bR (v:=.tuple #[.string ⟨G.toArray⟩,.int .i64 0]) (by simp only [results,Tryz.results72];go_simp) rfl ⟨by unfold risesB;rw [HG.out],HB.out⟩
def getF (a acc:Nat) :List UInt8→Nat×Nat×Int
 | []=>if a=9 then (0,0,10) else (0,0,9)
 |b :: t=>if a=9 then (0,0,10) else if b.toNat<128 then (if 0<a∧b.toNat=0 then (0,0,10) else (acc+b.toNat*128^a,a+1,0)) else getF (a+1) (acc+ (b.toNat - 128) *128^a) t
def getB (s:List UInt8) :Nat×Nat×Int:=getF 0 0 s
def fallF (s:List UInt8) :Nat→Nat→Nat→List Int→List Int×Nat×Int
 |0,_,a,out=>(out,a,0)
 |m+1,last,a,out=>
  let g:=getB (s.drop a)
  if g.2.2≠0 then ([],0,g.2.2) else if g.1=0∨9223372036854775807 - last<g.1 then ([],0,10) else fallF s m (last+g.1) (a+g.2.1) (out ++ [((last+g.1:Nat) :Int)])
def fallB (s:List UInt8) (most:Int) :List Int×Nat×Int:=
 let g:=getB s
 if g.2.2≠0 then ([],0,g.2.2) else if most< (g.1:Int) then ([],0,13) else fallF s g.1 0 g.2.1 []
def isCrew (i:Int) :Bool:=decide (0≤i∧i<48)
def hasN (s i:Nat) :Bool:=decide (s / 2^i % 2=1)
def hasC (s:Nat) (i:Int) :Bool:=isCrew i && hasN s i.toNat
def withC (s:Nat) (i:Int) :Nat:=if isCrew i=true then (if hasN s i.toNat=true then s else s+2^i.toNat) else s
def rightC (s:Nat) :Bool:=decide (s≤281474976710655)
structure Ltr where
 e:Int
 f:Int
 c:Nat
 b:List UInt8
def ltrV (x:Ltr) :Value:=.agg #[.int .i64 x.e,.int .i64 x.f,.int .u64 x.c,.string ⟨x.b.toArray⟩]
def rightL (x:Ltr) :Bool:=decide (0≤x.e) && hasC x.c x.f && rightC x.c && decide (x.b.length≤1048576)
def LtrAt (W:World) (g:Nat) (x:Ltr) :Prop:=W.heap[g]? =some (.cells #[.int .i64 x.e,.int .i64 x.f,.int .u64 x.c,.string ⟨x.b.toArray⟩] 106 (0,0))
def ltrL (x:Ltr) :List Int:= [x.e,x.f,(x.c:Int),(x.b.length:Int)]
def ltrT (x:Ltr) :List UInt8:=sealT ([68,87,76,1] ++ putB (ltrL x) ++ x.b)
end Go.Proofs.YtapgmnnchbepiaaGreat
