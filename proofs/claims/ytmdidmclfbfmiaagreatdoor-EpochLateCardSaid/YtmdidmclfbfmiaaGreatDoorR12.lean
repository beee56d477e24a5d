/-
  Texts of this proof, one behind the other: EpNil, OpenStep, EpDoL, EpochNobodyW.
-/
import Derived.Test.YtmdidmclfbfmiaaGreatDoorR3
import Derived.Test.YtmdidmclfbfmiaaGreatDoorR11
set_option linter.unusedVariables false
set_option linter.unusedSimpArgs false
set_option maxRecDepth 100000
set_option maxHeartbeats 16000000
namespace Go.Proofs.YtmdidmclfbfmiaaGreatDoor
open Go.ChangeShapes Go.WideShapes Go.ChangeAt Go.RowKit
theorem epN_Letter (w:World) (i:Int) :Calls Tryz.prog 28 #[.pointer none,.int .i64 i] w fun e w'=>e=.returned (.tuple #[.int .i64 0,.string ⟨#[]⟩,.bool false])∧Below w.heap.size w w':=by
 go_enter Tryz.func28,Tryz.ntmps28
 go_wp2_with fail;exact bR (v:=.tuple #[.int .i64 0,.string ⟨#[]⟩,.bool false]) (by simp only [results,Tryz.results28];go_simp) rfl ⟨rfl,bE⟩
theorem epN_sensor (w:World) (i:Int) :Calls Tryz.prog 44 #[.pointer none,.int .i64 i] w fun e w'=>e=.returned (.tuple #[.pointer none,.int .i64 1])∧Below w.heap.size w w':=by
 go_enter Tryz.func44,Tryz.ntmps44
 go_wp2_with fail;exact bR (v:=.tuple #[.pointer none,.int .i64 1]) (by simp only [results,Tryz.results44];go_simp) rfl ⟨rfl,bE⟩
theorem epN_Result (w:World) :Calls Tryz.prog 19 #[.pointer none] w fun e w'=>e=.returned (.tuple #[.pointer none,.int .u64 0,.int .i64 1])∧Below w.heap.size w w':=by
 go_enter Tryz.func19,Tryz.ntmps19
 go_wp2_with fail;exact bR (v:=.tuple #[.pointer none,.int .u64 0,.int .i64 1]) (by simp only [results,Tryz.results19];go_simp) rfl ⟨rfl,bE⟩
theorem epN_Start (w:World) :Calls Tryz.prog 15 #[.pointer none] w fun e w'=>e=.returned (.int .i64 1)∧Below w.heap.size w w':=by
 go_enter Tryz.func15,Tryz.ntmps15
 go_wp2_with fail;exact bR (v:=.int .i64 1) (by simp only [results,Tryz.results15];go_simp) rfl ⟨rfl,bE⟩
theorem epN_early (w:World) :Calls Tryz.prog 51 #[.pointer none] w fun e w'=>e=.returned (.int .i64 1)∧Below w.heap.size w w':=by
 go_enter Tryz.func51,Tryz.ntmps51
 go_wp2_with fail;exact bR (v:=.int .i64 1) (by simp only [results,Tryz.results51];go_simp) rfl ⟨rfl,bE⟩
theorem epN_Next (w:World) :Calls Tryz.prog 26 #[.pointer none] w fun e w'=>e=.returned (.int .i64 1)∧Below w.heap.size w w':=by
 go_enter Tryz.func26,Tryz.ntmps26
 go_wp2_with fail;exact bR (v:=.int .i64 1) (by simp only [results,Tryz.results26];go_simp) rfl ⟨rfl,bE⟩
theorem epN_Parents (w:World) :Calls Tryz.prog 43 #[.pointer none] w fun e w'=>e=.returned (.slice none 0 0)∧Below w.heap.size w w':=by
 go_enter Tryz.func43,Tryz.ntmps43
 go_wp2_with fail;exact bR (v:=.slice none 0 0) (by simp only [results,Tryz.results43];go_simp) rfl ⟨rfl,bE⟩
theorem epN_Number (w:World) :Calls Tryz.prog 25 #[.pointer none] w fun e w'=>e=.returned (.int .i64 0)∧Below w.heap.size w w':=by
 go_enter Tryz.func25,Tryz.ntmps25
 go_wp2_with fail;exact bR (v:=.int .i64 0) (by simp only [results,Tryz.results25];go_simp) rfl ⟨rfl,bE⟩
theorem epN_Started (w:World) :Calls Tryz.prog 27 #[.pointer none] w fun e w'=>e=.returned (.bool false)∧Below w.heap.size w w':=by
 go_enter Tryz.func27,Tryz.ntmps27
 go_wp2_with fail;exact bR (v:=.bool false) (by simp only [results,Tryz.results27];go_simp) rfl ⟨rfl,bE⟩
theorem epN_Ended (w:World) :Calls Tryz.prog 20 #[.pointer none] w fun e w'=>e=.returned (.bool false)∧Below w.heap.size w w':=by
 go_enter Tryz.func20,Tryz.ntmps20
 go_wp2_with fail;exact bR (v:=.bool false) (by simp only [results,Tryz.results20];go_simp) rfl ⟨rfl,bE⟩
theorem epN_Flight (w:World) :Calls Tryz.prog 16 #[.pointer none] w fun e w'=>e=.returned (.int .i64 0)∧Below w.heap.size w w':=by
 go_enter Tryz.func16,Tryz.ntmps16
 go_wp2_with fail;exact bR (v:=.int .i64 0) (by simp only [results,Tryz.results16];go_simp) rfl ⟨rfl,bE⟩
theorem epN_Cover (w:World) (i:Int) :Calls Tryz.prog 29 #[.pointer none,.int .i64 i] w fun e w'=>e=.returned (.tuple #[.int .u64 0,.int .i64 1])∧Below w.heap.size w w':=by
 go_enter Tryz.func29,Tryz.ntmps29
 go_wp2_with fail;refine(epN_sensor _ i).mono ?_;rintro e w1 ⟨rfl,hb1⟩;have B1:Below w.heap.size w w1:=Below.then_ bE hb1;have s1:=B1.size;go_wp2_with fail;refine(sensor_CoverN _).mono ?_;rintro e w2 ⟨rfl,hb2⟩;have B2:=Below.then_ B1 hb2;go_wp2_with fail;exact bR (v:=.tuple #[.int .u64 0,.int .i64 1]) (by simp only [results,Tryz.results29];go_simp) rfl ⟨rfl,B2⟩
theorem epN_Digest (w:World) (i:Int) :Calls Tryz.prog 30 #[.pointer none,.int .i64 i] w fun e w'=>e=.returned (.tuple #[.pointer none,.int .i64 1])∧Below w.heap.size w w':=by
 go_enter Tryz.func30,Tryz.ntmps30
 go_wp2_with fail;refine(epN_sensor _ i).mono ?_;rintro e w1 ⟨rfl,hb1⟩;have B1:Below w.heap.size w w1:=Below.then_ bE hb1;have s1:=B1.size;go_wp2_with fail;refine(sensor_DigestN _).mono ?_;rintro e w2 ⟨rfl,hb2⟩;have B2:=Below.then_ B1 hb2;go_wp2_with fail;exact bR (v:=.tuple #[.pointer none,.int .i64 1]) (by simp only [results,Tryz.results30];go_simp) rfl ⟨rfl,B2⟩
theorem epN_Put (w:World) (i x c:Int) :Calls Tryz.prog 13 #[.pointer none,.int .i64 i,.int .i64 x,.int .i64 c] w fun e w'=>e=.returned (.int .i64 1)∧Below w.heap.size w w':=by
 go_enter Tryz.func13,Tryz.ntmps13
 go_wp2_with fail;refine(epN_sensor _ i).mono ?_;rintro e w1 ⟨rfl,hb1⟩;have B1:Below w.heap.size w w1:=Below.then_ bE hb1;have s1:=B1.size;go_wp2_with fail;exact bR (v:=.int .i64 1) (by simp only [results,Tryz.results13];go_simp) rfl ⟨rfl,B1⟩
theorem epN_Take (w:World) (i:Int) (v:Value) :Calls Tryz.prog 42 #[.pointer none,.int .i64 i,v] w fun e w'=>e=.returned (.int .i64 1)∧Below w.heap.size w w':=by
 go_enter Tryz.func42,Tryz.ntmps42
 go_wp2_with fail;refine(epN_sensor _ i).mono ?_;rintro e w1 ⟨rfl,hb1⟩;have B1:Below w.heap.size w w1:=Below.then_ bE hb1;have s1:=B1.size;go_wp2_with fail;exact bR (v:=.int .i64 1) (by simp only [results,Tryz.results42];go_simp) rfl ⟨rfl,B1⟩
theorem epN_Deliver (w:World) (i:Int) :Calls Tryz.prog 18 #[.pointer none,.int .i64 i] w fun e w'=>e=.returned (.int .i64 1)∧Below w.heap.size w w':=by
 go_enter Tryz.func18,Tryz.ntmps18
 go_wp2_with fail;refine(epN_early _).mono ?_;rintro e w1 ⟨rfl,hb1⟩;have B1:Below w.heap.size w w1:=Below.then_ bE hb1;have s1:=B1.size;go_wp2_with fail;exact bR (v:=.int .i64 1) (by simp only [results,Tryz.results18];go_simp) rfl ⟨rfl,B1⟩
theorem epN_Lose (w:World) (i:Int) :Calls Tryz.prog 75 #[.pointer none,.int .i64 i] w fun e w'=>e=.returned (.int .i64 1)∧Below w.heap.size w w':=by
 go_enter Tryz.func75,Tryz.ntmps75
 go_wp2_with fail;refine(epN_early _).mono ?_;rintro e w1 ⟨rfl,hb1⟩;have B1:Below w.heap.size w w1:=Below.then_ bE hb1;have s1:=B1.size;go_wp2_with fail;exact bR (v:=.int .i64 1) (by simp only [results,Tryz.results75];go_simp) rfl ⟨rfl,B1⟩
theorem epN_Copy (w:World) (i:Int) :Calls Tryz.prog 17 #[.pointer none,.int .i64 i] w fun e w'=>e=.returned (.int .i64 1)∧Below w.heap.size w w':=by
 go_enter Tryz.func17,Tryz.ntmps17
 go_wp2_with fail;refine(epN_early _).mono ?_;rintro e w1 ⟨rfl,hb1⟩;have B1:Below w.heap.size w w1:=Below.then_ bE hb1;have s1:=B1.size;go_wp2_with fail;exact bR (v:=.int .i64 1) (by simp only [results,Tryz.results17];go_simp) rfl ⟨rfl,B1⟩
theorem epN_Spoil (w:World) (i a b:Int) :Calls Tryz.prog 76 #[.pointer none,.int .i64 i,.int .i64 a,.int .u8 b] w fun e w'=>e=.returned (.int .i64 1)∧Below w.heap.size w w':=by
 go_enter Tryz.func76,Tryz.ntmps76
 go_wp2_with fail;refine(epN_early _).mono ?_;rintro e w1 ⟨rfl,hb1⟩;have B1:Below w.heap.size w w1:=Below.then_ bE hb1;have s1:=B1.size;go_wp2_with fail;exact bR (v:=.int .i64 1) (by simp only [results,Tryz.results76];go_simp) rfl ⟨rfl,B1⟩
theorem epN_Tick (w:World) :Calls Tryz.prog 24 #[.pointer none] w fun e w'=>e=.returned (.int .i64 1)∧Below w.heap.size w w':=by
 go_enter Tryz.func24,Tryz.ntmps24
 go_wp2_with fail;refine(epN_early _).mono ?_;rintro e w1 ⟨rfl,hb1⟩;have B1:Below w.heap.size w w1:=Below.then_ bE hb1;have s1:=B1.size;go_wp2_with fail;exact bR (v:=.int .i64 1) (by simp only [results,Tryz.results24];go_simp) rfl ⟨rfl,B1⟩
theorem u8_of_wf {n:Int} (h: (Lit.int .u8 n).wf=true) :0≤n∧n<256:=by
 simp only [Lit.wf,Bool.and_eq_true,decide_eq_true_eq] at h;have hmn:IntKind.u8.min=0:=by decide
 have hmx:IntKind.u8.max=255:=by decide
 rw [hmn,hmx] at h;omega
section
variable {H:Type} {enc:TypeId×Value→H} {w:World} {base:Nat} {spare:Nat→Bool} {held:Bool} {fuel:Nat} {cs:List Value} {x:DataW H×List MemPlace}
theorem step_of_trod (h:DataW.trod enc Tryz.prog w base spare held fuel 37 cs=some x) :
 ∃(a b c d e f:Int),cs= [.int .i64 a,.int .i64 b,.int .i64 c,.int .i64 d,.int .i64 e,.int .u8 f]∧i64 a∧i64 b∧i64 c∧i64 d∧i64 e∧0≤f∧f<256:=by
 obtain⟨xs,n,_,_,hlen,hxl,hf⟩:=DataW.trod_struct Tryz.underlying37 h;have hC: (Tryz.prog).cellsOf 37=6:=by kernel_rfl
 have hCi: (Tryz.prog).cellsOf 3=1:=by kernel_rfl
 have hCu: (Tryz.prog).cellsOf 5=1:=by kernel_rfl
 rw [hC] at hlen
 match cs,hlen with
 | [c0,c1,c2,c3,c4,c5],_=>
  match xs,hxl with
  | [y0,y1,y2,y3,y4,y5],_=>
   have g0:DataW.trod enc Tryz.prog w base spare held n 3 (([c0,c1,c2,c3,c4,c5].drop 0).take ((Tryz.prog).cellsOf 3)) =some y0:=hf 0 _ rfl;have g1:DataW.trod enc Tryz.prog w base spare held n 3 (([c0,c1,c2,c3,c4,c5].drop 1).take ((Tryz.prog).cellsOf 3)) =some y1:=hf 1 _ rfl;have g2:DataW.trod enc Tryz.prog w base spare held n 3 (([c0,c1,c2,c3,c4,c5].drop 2).take ((Tryz.prog).cellsOf 3)) =some y2:=hf 2 _ rfl;have g3:DataW.trod enc Tryz.prog w base spare held n 3 (([c0,c1,c2,c3,c4,c5].drop 3).take ((Tryz.prog).cellsOf 3)) =some y3:=hf 3 _ rfl;have g4:DataW.trod enc Tryz.prog w base spare held n 3 (([c0,c1,c2,c3,c4,c5].drop 4).take ((Tryz.prog).cellsOf 3)) =some y4:=hf 4 _ rfl;have g5:DataW.trod enc Tryz.prog w base spare held n 5 (([c0,c1,c2,c3,c4,c5].drop 5).take ((Tryz.prog).cellsOf 5)) =some y5:=hf 5 _ rfl;rw [hCi] at g0 g1 g2 g3 g4;rw [hCu] at g5;obtain⟨a,e0,_,k0⟩:=DataW.trod_int Tryz.underlying3 g0;obtain⟨b,e1,_,k1⟩:=DataW.trod_int Tryz.underlying3 g1;obtain⟨c,e2,_,k2⟩:=DataW.trod_int Tryz.underlying3 g2;obtain⟨d,e3,_,k3⟩:=DataW.trod_int Tryz.underlying3 g3;obtain⟨e,e4,_,k4⟩:=DataW.trod_int Tryz.underlying3 g4;obtain⟨f,e5,_,k5⟩:=DataW.trod_int Tryz.underlying5 g5;simp at e0 e1 e2 e3 e4 e5
   subst e0 e1 e2 e3 e4 e5;exact⟨a,b,c,d,e,f,rfl,i64_of_wf k0,i64_of_wf k1,i64_of_wf k2,i64_of_wf k3,i64_of_wf k4,u8_of_wf k5⟩
end
def stepV (a b c d e f:Int) :Value:=.agg #[.int .i64 a,.int .i64 b,.int .i64 c,.int .i64 d,.int .i64 e,.int .u8 f]
theorem open_Step {H:Type} {enc:TypeId×Value→H} {w:World} {base:Nat} {spare:Nat→Bool} {held:Bool} {r:Reach} {b0:Nat} {v:Value} {d:DataW H} {p:List MemPlace}
 (hv:Value.okWide Tryz.prog w r b0 37 v) (h:DataW.Trod enc Tryz.prog w base spare held 37 v d p) :
 ∃(a b c d e f:Int),v=stepV a b c d e f∧i64 a∧i64 b∧i64 c∧i64 d∧i64 e∧0≤f∧f<256:=by
 obtain⟨cs,rfl,hsz⟩:=okWide_struct Tryz.underlying37 hv;obtain⟨fuel,hf⟩:=h;obtain⟨a,b,c,d,e,f,hc,rest⟩:=step_of_trod hf;refine⟨a,b,c,d,e,f,?_,rest⟩;obtain⟨l⟩:=cs;have:l= [.int .i64 a,.int .i64 b,.int .i64 c,.int .i64 d,.int .i64 e,.int .u8 f]:=by simpa [Value.cells] using hc
 subst this
 rfl
def Stp.v (o:Stp) :Value:=stepV o.kd o.i o.x o.w o.at_ o.by_
def stpC (o:Stp) :Array Value:= #[.int .i64 o.kd,.int .i64 o.i,.int .i64 o.x,.int .i64 o.w,.int .i64 o.at_,.int .u8 o.by_]
theorem law32_DoP (w:World) (p:Option Addr) (o:Stp) (PP:Ending→World→Prop)
 (h: ∀W,Below w.heap.size w W→∃PQ:Ending→World→Prop,(∀e W',PQ e W'→∃er,e=.returned (.int .i64 er)∧PP e W')∧
   (o.kd=0→Calls Tryz.prog 13 #[.pointer p,.int .i64 o.i,.int .i64 o.x,.int .i64 o.w] W PQ)∧
   (o.kd=1→Calls Tryz.prog 18 #[.pointer p,.int .i64 o.i] W PQ)∧
   (o.kd=2→Calls Tryz.prog 75 #[.pointer p,.int .i64 o.i] W PQ)∧
   (o.kd=3→Calls Tryz.prog 17 #[.pointer p,.int .i64 o.i] W PQ)∧
   (o.kd=4→Calls Tryz.prog 76 #[.pointer p,.int .i64 o.i,.int .i64 o.at_,.int .u8 o.by_] W PQ)∧
   (o.kd=6→Calls Tryz.prog 15 #[.pointer p] W PQ)∧
   (o.kd=7→Calls Tryz.prog 26 #[.pointer p] W PQ)∧
   ((o.kd≠0∧o.kd≠1∧o.kd≠2∧o.kd≠3∧o.kd≠4∧o.kd≠6∧o.kd≠7)→Calls Tryz.prog 24 #[.pointer p] W PQ)) :
 Calls Tryz.prog 34 #[.pointer p,o.v] w PP:=by
 obtain⟨kd,i,x,c,a,b⟩:=o;unfold Stp.v stepV;dsimp only at*;have b0:Below w.heap.size w (w.alloc (.cells #[.int .i64 kd,.int .i64 i,.int .i64 x,.int .i64 c,.int .i64 a,.int .u8 b] 37)):=bE;obtain⟨PQ,hq,h0,h1,h2,h3,h4,h6,h7,h8⟩:=h _ b0;have HQ:=LH hq;clear h b0 hq;by_cases e0:kd=0
 ·subst e0
  have HC:=LH (h0 rfl);clear h0 h1 h2 h3 h4 h6 h7 h8
  go_enter Tryz.func34,Tryz.ntmps34
  go_wp2_with fail;refine HC.out.mono ?_;intro e w1 hp;obtain⟨er,rfl,hpp⟩:=HQ.out _ _ hp;have HP:=LH hpp;clear hp hpp;go_wp2_with fail;exact HP.out
 by_cases e1:kd=1
 ·subst e1
  have HC:=LH (h1 rfl);clear h0 h1 h2 h3 h4 h6 h7 h8
  go_enter Tryz.func34,Tryz.ntmps34
  go_wp2_with fail;refine HC.out.mono ?_;intro e w1 hp;obtain⟨er,rfl,hpp⟩:=HQ.out _ _ hp;have HP:=LH hpp;clear hp hpp;go_wp2_with fail;exact HP.out
 by_cases e2:kd=2
 ·subst e2
  have HC:=LH (h2 rfl);clear h0 h1 h2 h3 h4 h6 h7 h8
  go_enter Tryz.func34,Tryz.ntmps34
  go_wp2_with fail;refine HC.out.mono ?_;intro e w1 hp;obtain⟨er,rfl,hpp⟩:=HQ.out _ _ hp;have HP:=LH hpp;clear hp hpp;go_wp2_with fail;exact HP.out
 by_cases e3:kd=3
 ·subst e3
  have HC:=LH (h3 rfl);clear h0 h1 h2 h3 h4 h6 h7 h8
  go_enter Tryz.func34,Tryz.ntmps34
  go_wp2_with fail;refine HC.out.mono ?_;intro e w1 hp;obtain⟨er,rfl,hpp⟩:=HQ.out _ _ hp;have HP:=LH hpp;clear hp hpp;go_wp2_with fail;exact HP.out
 by_cases e4:kd=4
 ·subst e4
  have HC:=LH (h4 rfl);clear h0 h1 h2 h3 h4 h6 h7 h8
  go_enter Tryz.func34,Tryz.ntmps34
  go_wp2_with fail;refine HC.out.mono ?_;intro e w1 hp;obtain⟨er,rfl,hpp⟩:=HQ.out _ _ hp;have HP:=LH hpp;clear hp hpp;go_wp2_with fail;exact HP.out
 by_cases e6:kd=6
 ·subst e6
  have HC:=LH (h6 rfl);clear h0 h1 h2 h3 h4 h6 h7 h8
  go_enter Tryz.func34,Tryz.ntmps34
  go_wp2_with fail;refine HC.out.mono ?_;intro e w1 hp;obtain⟨er,rfl,hpp⟩:=HQ.out _ _ hp;have HP:=LH hpp;clear hp hpp;go_wp2_with fail;exact HP.out
 by_cases e7:kd=7
 ·subst e7
  have HC:=LH (h7 rfl);clear h0 h1 h2 h3 h4 h6 h7 h8
  go_enter Tryz.func34,Tryz.ntmps34
  go_wp2_with fail;refine HC.out.mono ?_;intro e w1 hp;obtain⟨er,rfl,hpp⟩:=HQ.out _ _ hp;have HP:=LH hpp;clear hp hpp;go_wp2_with fail;exact HP.out
 have HC:=LH (h8 ⟨e0,e1,e2,e3,e4,e6,e7⟩);have d0: (kd == 0) =false:=by simpa using e0
 have d1: (kd == 1) =false:=by simpa using e1
 have d2: (kd == 2) =false:=by simpa using e2
 have d3: (kd == 3) =false:=by simpa using e3
 have d4: (kd == 4) =false:=by simpa using e4
 have d6: (kd == 6) =false:=by simpa using e6
 have d7: (kd == 7) =false:=by simpa using e7
 clear h0 h1 h2 h3 h4 h6 h7 h8
 go_enter Tryz.func34,Tryz.ntmps34
 go_wp2_with fail;refine HC.out.mono ?_;intro e w1 hp;obtain⟨er,rfl,hpp⟩:=HQ.out _ _ hp;have HP:=LH hpp;clear hp hpp;go_wp2_with fail;exact HP.out
theorem law32_DoN (w:World) (o:Stp) :Calls Tryz.prog 34 #[.pointer none,o.v] w fun e w'=>e=.returned (.int .i64 1)∧Below w.heap.size w w':=by
 refine law32_DoP w none o _ fun W hb=>⟨fun e W'=>e=.returned (.int .i64 1)∧Below W.heap.size W W',fun e W' ⟨h1,h2⟩=>⟨1,h1,h1,Below.then_ hb h2⟩,fun _=>epN_Put _ _ _ _,fun _=>epN_Deliver _ _,fun _=>epN_Lose _ _,fun _=>epN_Copy _ _,fun _=>epN_Spoil _ _ _ _,fun _=>epN_Start _,fun _=>epN_Next _,fun _=>epN_Tick _⟩
theorem law32_Do (w W:World) (L:EpL) (m:EpM) (T:Nat) (o:Stp) (h:EpS w L m W) (ok:EpOk L T m) (hT:T≤4611686018427379800) (hby:0≤o.by_∧o.by_≤255) (hL: ∀x∈m.ss,lightOf L.l x.2 x.1.k=true) (hH:HearsOk L m o.i) :
 Calls Tryz.prog 34 #[.pointer (some ⟨L.g,0,none⟩),o.v] W (EpE w L m o):=by
 refine law32_DoP W _ o _ fun W1 hb=> ?_;have h1:=h.below hb
 refine⟨EpE w L m o,fun e W' h2=> ?_,fun h0=>h1.put ok o h0,fun h0=>h1.deliver ok hT o h0 hL hH,fun h0=>h1.post fun F hA=>ep_Lose W1 L m F T o h0 hA ok (by omega),fun h0=>h1.post fun F hA=>ep_Copy W1 L m F T o h0 hA ok (by omega),
  fun h0=>h1.post fun F hA=>ep_Spoil W1 L m F T o h0 hby hA ok (by omega),fun h0=>h1.start ok hT o h0,fun h0=>h1.post fun F hA=>ep_Next W1 L m F T o h0 hA ok,fun h0=>h1.post fun F hA=>ep_Tick W1 L m F T o h0 hA ok (by omega)⟩
 obtain⟨er,m',rfl,h3⟩:=h2;exact⟨er,rfl,er,m',rfl,h3⟩
theorem whole2:IsWhole 4611686018427387904 2:=by
 have h:=isWhole_of 2 (by omega);have e:floatOfInt .f64 ((2:Nat) :Int) =4611686018427387904:=by decide
 rwa [e] at h
theorem ep_Take_no (w:World) (L:EpL) (m:EpM) (F:Nat→Prop) (k:Nat) (v:Value) (xv c:Int) (h:EpAt w L m F) (hR:rightG L.ps=true) (hk:k<L.ps.length) (hv:OfIs v xv c false) :
 Calls Tryz.prog 42 #[.pointer (some ⟨L.g,0,none⟩),.int .i64 k,v] w fun e w'=>e=.returned (.int .i64 10)∧Below w.heap.size w w':=by
 have HS:=LH (ep_sensor w L m F k h hR);unfold senEp at HS;rw [if_pos (by omega),Int.toNat_natCast] at HS;have HP:=LH (fun W=>sensor_Take_no W (L.gs.getD k 0) v xv c hv);generalize L.gs.getD k 0=gk at*;clear h hk hv
 go_enter Tryz.func42,Tryz.ntmps42
 go_wp2_with fail;refine(HS.out).mono ?_;rintro e w1 ⟨rfl,hb1⟩;have B1:Below w.heap.size w w1:=Below.then_ bE hb1;have s1:=B1.size;go_wp2_with fail;refine(HP.out _).mono ?_;rintro e w2 ⟨rfl,hb2⟩;have B2:=Below.then_ B1 hb2;go_wp2_with fail;exact bR (v:=.int .i64 10) (by simp only [results,Tryz.results42];go_simp) rfl ⟨rfl,B2⟩
theorem ep_Take_out (w:World) (L:EpL) (m:EpM) (F:Nat→Prop) (i:Int) (v:Value) (h:EpAt w L m F) (hR:rightG L.ps=true) (hi: ¬(0≤i∧i< (L.ps.length:Int))) :
 Calls Tryz.prog 42 #[.pointer (some ⟨L.g,0,none⟩),.int .i64 i,v] w fun e w'=>e=.returned (.int .i64 16)∧Below w.heap.size w w':=by
 have HS:=LH (ep_sensor w L m F i h hR);unfold senEp at HS;rw [if_neg hi] at HS;clear h hi
 go_enter Tryz.func42,Tryz.ntmps42
 go_wp2_with fail;refine(HS.out).mono ?_;rintro e w1 ⟨rfl,hb1⟩;have B1:Below w.heap.size w w1:=Below.then_ bE hb1;have s1:=B1.size;go_wp2_with fail;exact bR (v:=.int .i64 16) (by simp only [results,Tryz.results42];go_simp) rfl ⟨rfl,B1⟩
def psN:List Int:= [-1]
theorem psN_right:rightG psN=true:=by decide
theorem psN_new:newS 4 2 1 (plcE psN 1 0) 0=true:=by decide
def xN:SR:=(senNew 4 2 1 (plcE psN 1 0) 0, [])
theorem put_N:putErr 4 xN.1 [] 5 2=0:=by decide
theorem law_EpochNobody (a b c d e f:Int) (w:World) (wa:i64 a) (wb:i64 b) (wc:i64 c) (wd:i64 d) (we:i64 e) (wf:0≤f) (wg:f<256) (hT:TabZ w) :Calls Tryz.prog 9 #[stepV a b c d e f] w fun en w'=>en=.returned (.bool true)∧Below w.heap.size w w':=by
 have HDo:Hid (∀W,Calls Tryz.prog 34 #[.pointer none,.agg #[.int .i64 a,.int .i64 b,.int .i64 c,.int .i64 d,.int .i64 e,.int .u8 f]] W fun e w'=>e=.returned (.int .i64 1)∧Below W.heap.size W w'):=LH fun W=>law32_DoN W ⟨a,b,c,d,e,f⟩;have HAl:Hid (∀W,Below w.heap.size w W→Calls Tryz.prog 11 #[] W fun e w'=>e=.returned (.bool true)∧Below W.heap.size W w'):=LH fun W h=>law32_alive W (hT.below h)
 have HN:Hid (∀W,Below w.heap.size w W→Calls Tryz.prog 37 #[.slice (some ⟨W.heap.size,0,none⟩) 1 1,.agg #[.int .i64 4,.int .i64 2,.int .i64 1],.int .i64 1,.int .i64 0] (W.alloc (.cells #[.int .i64 (-1)] 3)) fun e W'=>∃L,e=.returned (.tuple #[.pointer (some ⟨L.g,0,none⟩),.int .i64 0])∧EpS W L ⟨[xN],⟨0,0,0,0,0, []⟩,false,false⟩ W'∧L.ps=psN∧L.l=4):=LH fun W hb=>by
  have b0:Below W.heap.size W (W.alloc (.cells #[.int .i64 (-1)] 3)):=(Below.refl _ _).alloc (Nat.le_refl _) _;have b1:=Below.then_ hb b0;refine(ep_New (W.alloc (.cells #[.int .i64 (-1)] 3)) (some ⟨W.heap.size,0,none⟩) 1 psN 4 1 2 1 0 ?_ (hT.below b1) psN_right psN_new).mono ?_
  ·exact(sl_lit W encZ psN 3 W.heap.size rfl).keep (w':=W.alloc (.cells #[.int .i64 (-1)] 3)) (B':=(W.alloc (.cells #[.int .i64 (-1)] 3)).heap.size) (by simp) (fun p hp=>rfl)
  ·intro e W' h
   obtain⟨L,h1,h2,h3,h4,h5⟩:=EpS.new h b0;exact⟨L,h1,h2,h3,h4⟩
 clear wa wb wc wd we wf wg hT;unfold stepV;have k0:=LH (heap_alloc_new w (.cells #[.int .i64 a,.int .i64 b,.int .i64 c,.int .i64 d,.int .i64 e,.int .u8 f] 37));have b0:Hid (Below w.heap.size w (w.alloc (.cells #[.int .i64 a,.int .i64 b,.int .i64 c,.int .i64 d,.int .i64 e,.int .u8 f] 37))):=LH bE;obtain⟨pc,hpc⟩ : ∃q,q=w.heap.size:=⟨_,rfl⟩
 go_enter Tryz.func9,Tryz.ntmps9
 go_upto_region 2 with fail;rw [←hpc] at k0⊢;clear hpc;generalize w.alloc (.cells #[.int .i64 a,.int .i64 b,.int .i64 c,.int .i64 d,.int .i64 e,.int .u8 f] 37) =W0 at k0 b0⊢;have cc:=bC k0.out;have zc:=lB k0.out;go_wp2_with fail;refine(epN_Letter _ b).mono ?_;rintro en w1 ⟨rfl,hb1⟩;have K1:=LH (bB k0.out hb1);have B1:=LH (Below.then_ b0.out hb1);clear hb1 cc zc k0 b0;have cc:=bC K1.out;have zc:=lB K1.out;go_wp2_with fail;refine(epN_Cover _ b).mono ?_;rintro en w2 ⟨rfl,hb2⟩;have K2:=LH (bB K1.out hb2);have B2:=LH (Below.then_ B1.out hb2);clear hb2 cc zc K1 B1;have cc:=bC K2.out;have zc:=lB K2.out;go_wp2_with fail;refine(epN_Digest _ b).mono ?_;rintro en w3 ⟨rfl,hb3⟩;have K3:=LH (bB K2.out hb3);have B3:=LH (Below.then_ B2.out hb3);clear hb3 cc zc K2 B2;go_wp2_with fail;refine(epN_Result _).mono ?_;rintro en w4 ⟨rfl,hb4⟩;have K4:=LH (bB K3.out hb4);have B4:=LH (Below.then_ B3.out hb4);clear hb4 K3 B3;go_wp2_with fail;refine(HN.out _ B4.out).mono ?_;rintro en w5 ⟨L,rfl,hS,hps,hl⟩;have hR:rightG L.ps=true:=by rw [hps];exact psN_right
 have S5:=LH hS;have K5:=LH ((hS.blw.block pc (lB K4.out)).trans K4.out)
 have HT0:Hid (∀W,EpS w4 L ⟨[xN],⟨0,0,0,0,0, []⟩,false,false⟩ W→Calls Tryz.prog 42 #[.pointer (some ⟨L.g,0,none⟩),.int .i64 0,.iface 86 (.complex .f64 4617315517961601024 4611686018427387904)] W fun e W'=>e=.returned (.int .i64 0)∧∃m',EpS w4 L m' W'):=LH fun W ⟨F,h1,h2,h3⟩=>by
  refine(ep_Take W L _ F 0 xN (.iface 86 (.complex .f64 4617315517961601024 4611686018427387904)) 5 2 h1 hR rfl (by decide) (.cplx _ _ _ _ whole5 whole2 (by decide))).mono ?_;rintro e W' ⟨r',rfl,_,ht⟩;refine⟨?_,_,EpS.of_to h2 h3 ht⟩;rw [hl];exact congrArg (fun n=>Ending.returned (.int .i64 n)) put_N
 have HT1:Hid (∀W m,EpS w4 L m W→Calls Tryz.prog 42 #[.pointer (some ⟨L.g,0,none⟩),.int .i64 0,.iface 9 (.string ⟨#[53]⟩)] W fun e W'=>e=.returned (.int .i64 10)∧Below W.heap.size W W'):=LH fun W m ⟨F,h1,h2,h3⟩=>
  ep_Take_no W L m F 0 (.iface 9 (.string ⟨#[53]⟩)) 0 0 h1 hR (by rw [hps];decide) (.no (strange_of _ _ (by kernel_rfl)))
 have HT2:Hid (∀W m,EpS w4 L m W→Calls Tryz.prog 42 #[.pointer (some ⟨L.g,0,none⟩),.int .i64 1,.iface 3 (.int .i64 5)] W fun e W'=>e=.returned (.int .i64 16)∧Below W.heap.size W W'):=LH fun W m ⟨F,h1,h2,h3⟩=>
  ep_Take_out W L m F 1 (.iface 3 (.int .i64 5)) h1 hR (by rw [hps];decide)
 clear hS hps hl hR HN K5;go_wp2_with fail;refine(HT0.out _ S5.out).mono ?_;rintro en w6 ⟨rfl,m6,hS6⟩;have S6:=LH hS6;clear hS6;go_wp2_with fail;refine(HT1.out _ _ S6.out).mono ?_;rintro en w7 ⟨rfl,hb7⟩;have S7:=LH (S6.out.below hb7);clear hb7;go_wp2_with fail;refine(HT2.out _ _ S7.out).mono ?_;rintro en w8 ⟨rfl,hb8⟩;have S8:=LH (S7.out.below hb8);have B8:=LH (Below.then_ B4.out S8.out.blw);have K8:=LH ((S8.out.blw.block pc (lB K4.out)).trans K4.out);clear hb8 S5 S6 S7 S8 K4 HT0 HT1 HT2;have cc:=bC K8.out;have zc:=lB K8.out;go_wp2_with fail;refine(HDo.out _).mono ?_;rintro en w9 ⟨rfl,hb9⟩;have B9:=LH (Below.then_ B8.out hb9);clear hb9 cc zc K8;go_wp2_with fail;refine(epN_Take _ 0 _).mono ?_;rintro en v1 ⟨rfl,hb1⟩;have C1:=LH (Below.then_ B9.out hb1);clear hb1;go_wp2_with fail;refine(epN_Start _).mono ?_;rintro en v2 ⟨rfl,hb1⟩;have C2:=LH (Below.then_ C1.out hb1);clear hb1;go_wp2_with fail;refine(epN_Parents _).mono ?_;rintro en v3 ⟨rfl,hb1⟩;have C3:=LH (Below.then_ C2.out hb1);clear hb1;go_wp2_with fail;refine(epN_Number _).mono ?_;rintro en v4 ⟨rfl,hb1⟩;have C4:=LH (Below.then_ C3.out hb1);clear hb1;go_wp2_with fail;refine(epN_Started _).mono ?_;rintro en v5 ⟨rfl,hb1⟩;have C5:=LH (Below.then_ C4.out hb1);clear hb1;go_wp2_with fail;refine(epN_Ended _).mono ?_;rintro en v6 ⟨rfl,hb1⟩;have C6:=LH (Below.then_ C5.out hb1);clear hb1;go_wp2_with fail;refine(epN_Flight _).mono ?_;rintro en v7 ⟨rfl,hb1⟩;have C7:=LH (Below.then_ C6.out hb1);clear hb1;go_wp2_with fail;refine(HAl.out _ C7.out).mono ?_;rintro en v8 ⟨rfl,hb1⟩;have C8:=LH (Below.then_ C7.out hb1);clear hb1;go_wp2_with fail;exact bR (v:=.bool true) (by simp only [results,Tryz.results9];go_simp) rfl ⟨rfl,C8.out⟩
end Go.Proofs.YtmdidmclfbfmiaaGreatDoor
