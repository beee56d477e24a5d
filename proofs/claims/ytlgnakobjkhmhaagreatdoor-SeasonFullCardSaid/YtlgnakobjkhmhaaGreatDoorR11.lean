/-
  Texts of this proof, one behind the other: Gap, GapRef, Plus, Bits, EachOf, Bound, Bound2, Mean, BoundRef, Ref20Sum, Ref20Mean, Worst, Worst2, Alive20, BoundSumsW, GapBoth, GapAt, Part1, GapParts, GapEnds, BinsLaw, Runs, ReachRef, Edges, BinsOfP, DigCells, MemTwo, SortO, SortZ, GapIter, GapStops, GapTurn, GapApart, GapMost, GapMostY, SeaShift, SeaLast, SeaAll, SeaWin, GapTurn2, SeaAliveL, Same, SeaAlive, SeaNil, SeasonNobodyW, SeasonFullW.
-/
import Derived.Laws.Externs
import Derived.Deep.DeepCutAuto
import Derived.Deep.RegionWith
import Derived.Lib.SlicesCompact
import Derived.Test.YtlgnakobjkhmhaaGreatDoorShelf
import Derived.Deep.Cut
import Derived.Test.YtlgnakobjkhmhaaGreatDoorR1
import Derived.Test.YtlgnakobjkhmhaaGreatDoorR2
import Derived.Test.YtlgnakobjkhmhaaGreatDoorR3
import Derived.Test.YtlgnakobjkhmhaaGreatDoorR4
import Derived.Test.YtlgnakobjkhmhaaGreatDoorR5
import Derived.Test.YtlgnakobjkhmhaaGreatDoorR7
import Derived.Test.YtlgnakobjkhmhaaGreatDoorR8
import Derived.Test.YtlgnakobjkhmhaaGreatDoorR10
set_option linter.unusedVariables false
set_option linter.unusedSimpArgs false
set_option maxRecDepth 100000
set_option maxHeartbeats 16000000
namespace Go.Proofs.YtlgnakobjkhmhaaGreatDoor
open Go.ChangeShapes Go.WideShapes Go.ChangeAt Go.RowKit
def gapErr (l m:Int) (a b:List Nd) :Int:=if l≠m then 6 else if sumR a=0∨sumR b=0 then 7 else 0
def sideN (n m pl ph ql qh:Nat) :Int:=if qh*n<pl*m then 1 else if ph*m<ql*n then -1 else 0
theorem gap_wrong (w:World) (g1 K1 l1 g2 K2 l2:Nat) (k1 k2:Int) (r1 r2:List Nd) (F1 F2:Nat→Prop) (h1:DigAt w g1 K1 l1 k1 r1 F1) (h2:DigAt w g2 K2 l2 k2 r2 F2) :
 Calls Tryz.prog 78 #[.pointer (some ⟨g1,0,none⟩),.pointer (some ⟨g2,0,none⟩)] w fun e w'=>e=.returned (.int .i64 (gapErr l1 l2 r1 r2))∧Below w.heap.size w w':=by
 have HD1:=LH h1;have HD2:=LH h2;have HC1:=LH (digest_Conf · g1 K1 l1 k1 r1 F1 ·);have HC2:=LH (digest_Conf · g2 K2 l2 k2 r2 F2 ·);have HN1:=LH (digest_N · g1 K1 l1 k1 r1 F1 ·);have HN2:=LH (digest_N · g2 K2 l2 k2 r2 F2 ·);have q1:=h1.l_le;have q2:=h2.l_le
 have hcase: (((l1:Int) == (l2:Int)) =false∧gapErr l1 l2 r1 r2=6)∨(l1=l2∧sumR r1=0∧gapErr l1 l2 r1 r2=7)∨(l1=l2∧(sumR r1 == 0) =false∧sumR r2=0∧gapErr l1 l2 r1 r2=7)∨(l1=l2∧(sumR r1 == 0) =false∧(sumR r2 == 0) =false∧gapErr l1 l2 r1 r2=0):=by
  unfold gapErr;by_cases c1: (l1:Int) =l2
  ·have c1':l1=l2:=by omega
   by_cases c2:sumR r1=0
   ·exact .inr (.inl ⟨c1',c2,by rw [if_neg (not_not_intro c1),if_pos (.inl c2)]⟩)
   ·by_cases c3:sumR r2=0
    ·exact .inr (.inr (.inl ⟨c1',by simpa using c2,c3,by rw [if_neg (not_not_intro c1),if_pos (.inr c3)]⟩))
    ·exact .inr (.inr (.inr ⟨c1',by simpa using c2,by simpa using c3,by rw [if_neg (not_not_intro c1),if_neg (by simp [c2,c3])]⟩))
  ·exact .inl ⟨by simpa using c1,by rw [if_pos c1]⟩
 clear h1 h2;rcases hcase with ⟨f1,fe⟩ | ⟨f1,f2,fe⟩ | ⟨f1,f2,f3,fe⟩ | ⟨f1,f2,f3,fe⟩
 ·rw [fe]
  clear fe HN1 HN2
  go_enter Tryz.func78,Tryz.ntmps78
  go_wp2_with fail;refine(HC1.out _ HD1.out).mono ?_;rintro e w1 ⟨rfl,hb1⟩;have B1:Below w.heap.size w w1:=Below.then_ bE hb1;have s1:=B1.size;go_wp2_with fail;refine(HC2.out _ (HD2.out.below hb1)).mono ?_;rintro e w2 ⟨rfl,hb2⟩;have B2:Below w.heap.size w w2:=Below.then_ bE hb2;have s2:=B2.size;go_wp2_with fail;go_ret;exact⟨rfl,bE⟩
 ·subst f1
  rw [fe];rw [f2] at HN1;clear fe f2 HN2
  go_enter Tryz.func78,Tryz.ntmps78
  go_wp2_with fail;refine(HC1.out _ HD1.out).mono ?_;rintro e w1 ⟨rfl,hb1⟩;have B1:Below w.heap.size w w1:=Below.then_ bE hb1;have s1:=B1.size;have D1:=LH (HD1.out.below hb1);have D2:=LH (HD2.out.below hb1);go_wp2_with fail;refine(HC2.out _ D2.out).mono ?_;rintro e w2 ⟨rfl,hb2⟩;have B2:Below w.heap.size w w2:=Below.then_ bE hb2;have s2:=B2.size;go_wp2_with fail;refine(HN1.out _ (D1.out.below hb2)).mono ?_;rintro e w3 ⟨rfl,hb3⟩;have B3:Below w.heap.size w w3:=Below.then_ bE hb3;have s3:=B3.size;go_wp2_with fail;go_ret;exact⟨rfl,bE⟩
 ·subst f1
  rw [fe];rw [f3] at HN2;generalize sumR r1=n at HN1 f2;clear fe f3
  go_enter Tryz.func78,Tryz.ntmps78
  go_wp2_with fail;refine(HC1.out _ HD1.out).mono ?_;rintro e w1 ⟨rfl,hb1⟩;have B1:Below w.heap.size w w1:=Below.then_ bE hb1;have s1:=B1.size;have D1:=LH (HD1.out.below hb1);have D2:=LH (HD2.out.below hb1);go_wp2_with fail;refine(HC2.out _ D2.out).mono ?_;rintro e w2 ⟨rfl,hb2⟩;have B2:Below w.heap.size w w2:=Below.then_ bE hb2;have s2:=B2.size;have E1:=LH (D1.out.below hb2);have E2:=LH (D2.out.below hb2);go_wp2_with fail;refine(HN1.out _ E1.out).mono ?_;rintro e w3 ⟨rfl,hb3⟩;have B3:Below w.heap.size w w3:=Below.then_ bE hb3;have s3:=B3.size;go_wp2_with fail;refine(HN2.out _ (E2.out.below hb3)).mono ?_;rintro e w4 ⟨rfl,hb4⟩;have B4:Below w.heap.size w w4:=Below.then_ bE hb4;have s4:=B4.size;go_wp2_with fail;go_ret;exact⟨rfl,bE⟩
 ·subst f1
  rw [fe];generalize sumR r1=n at HN1 f2;generalize sumR r2=m at HN2 f3;clear fe
  go_enter Tryz.func78,Tryz.ntmps78
  go_wp2_with fail;refine(HC1.out _ HD1.out).mono ?_;rintro e w1 ⟨rfl,hb1⟩;have B1:Below w.heap.size w w1:=Below.then_ bE hb1;have s1:=B1.size;have D1:=LH (HD1.out.below hb1);have D2:=LH (HD2.out.below hb1);go_wp2_with fail;refine(HC2.out _ D2.out).mono ?_;rintro e w2 ⟨rfl,hb2⟩;have B2:Below w.heap.size w w2:=Below.then_ bE hb2;have s2:=B2.size;have E1:=LH (D1.out.below hb2);have E2:=LH (D2.out.below hb2);go_wp2_with fail;refine(HN1.out _ E1.out).mono ?_;rintro e w3 ⟨rfl,hb3⟩;have B3:Below w.heap.size w w3:=Below.then_ bE hb3;have s3:=B3.size;go_wp2_with fail;refine(HN2.out _ (E2.out.below hb3)).mono ?_;rintro e w4 ⟨rfl,hb4⟩;have B4:Below w.heap.size w w4:=Below.then_ bE hb4;have s4:=B4.size;go_wp2_with fail;go_ret;exact⟨rfl,bE⟩
def sideT (l m:Int) (a b:List Nd) (x:Int) :Int:=if gapErr l m a b=0 then sideOf l a b x else 0
theorem gapErr_ok {l m:Int} {a b:List Nd} (h:gapErr l m a b=0) :l=m:=by
 unfold gapErr at h
 split at h
 ·cases h
 ·rename_i h1;exact Decidable.not_not.1 h1
theorem low_range {l:Int} {r:List Nd} (hr:Roll r) (x:Int) :0≤lowOf l r x∧lowOf l r x≤sumR r:=weighR_le hr
theorem high_range' {l:Int} {r:List Nd} (hr:Roll r) (x:Int) :0≤highOf l r x∧highOf l r x≤sumR r:=weighR_le hr

def wideV (n:Nat) :Value:=.agg #[.int .u64 (n % 18446744073709551616:Nat),.int .u64 (n / 18446744073709551616:Nat)]

structure Stays (I:Nat→World→Prop) :Prop where
 st: ∀q W W',I q W→Below W.heap.size W W'→I q W'
def wrongOf (r:List Nd) :Int:=if sumR r=0 then 7 else 0
def leastStep (l:Int) (a:Int×Int) (x:Nd) :Int×Int:=(min a.1 (endsOf l x.1).1,min a.2 (endsOf l x.1).2.1)
def leastOf (l:Int) (r:List Nd) :Int×Int:=r.foldl (leastStep l) (9223372036854775807,9223372036854775807)
def BoundI (w:World) (b0 b1:Nat) (f:Nat→Int×Int) (q:Nat) (W:World) :Prop:=Below w.heap.size w W∧bothAt W b0 0 0∧bothAt W b1 (f q).1 (f q).2
def leastT (l:Int) (r:List Nd) :Int×Int×Int:=if sumR r=0 then (0,0,7) else ((leastOf l r).1,(leastOf l r).2,0)
def mostStep (l:Int) (a:Int×Int) (x:Nd) :Int×Int:=(max a.1 (endsOf l x.1).1,max a.2 (endsOf l x.1).2.1)
def mostOf (l:Int) (r:List Nd) :Int×Int:=r.foldl (mostStep l) (0,0)
def mostT (l:Int) (r:List Nd) :Int×Int×Int:=if sumR r=0 then (0,0,7) else ((mostOf l r).1,(mostOf l r).2,0)
def sumW (l:Int) (hi:Bool) :List Nd→Nat
 | []=>0
 |x :: r=>(if hi=true then (endsOf l x.1).2.1 else (endsOf l x.1).1).toNat*x.2.toNat+sumW l hi r
def meanT (l:Int) (r:List Nd) :Int×Int×Int:=if sumR r=0 then (0,0,7) else ((sumW l false r / (sumR r).toNat:Nat),(sumW l true r / (sumR r).toNat+ (if sumW l true r % (sumR r).toNat=0 then 0 else 1) :Nat),0)
structure E4 where
 a:Int
 b:Int
 c:Int
 d:Int
def e4Step (l:Int) (e:E4) (x:Nd) :E4:=⟨if (endsOf l x.1).1<e.a then (endsOf l x.1).1 else e.a,if (endsOf l x.1).2.1<e.b then (endsOf l x.1).2.1 else e.b,if e.c< (endsOf l x.1).1 then (endsOf l x.1).1 else e.c,if e.d< (endsOf l x.1).2.1 then (endsOf l x.1).2.1 else e.d⟩
def e4Of (l:Int) (r:List Nd) :E4:=r.foldl (e4Step l) ⟨281474976710656,281474976710656, -1, -1⟩
def fourAt (w:World) (b:Nat) (e:E4) :Prop:=w.heap[b]? =some (.cells #[.int .i64 e.a,.int .i64 e.b,.int .i64 e.c,.int .i64 e.d] 156 (0,0))
def SumPost (n:Nat) (m:Nat) (w:World) (e:Ending) (w':World) :Prop:=∃v L,e=.returned v∧Own w' w.heap.size 3 encD v L∧okD L∧valD L=n∧L.length≤m∧Below w.heap.size w w'

def intAt (w:World) (b:Nat) (x:Int) :Prop:=w.heap[b]? =some (.cells #[.int .i64 x] 3 (0,0))
def worstStep (a:Int×Int) (at_ n:Int) :Int×Int:=if a.2<n∨n=a.2∧at_<a.1 then (at_,n) else a
def TryEnd (w:World) (bx bg:Nat) (r:Int×Int) (w':World) :Prop:=
 intAt w' bx r.1∧intAt w' bg r.2∧KeepN w w'∧(∀C,C≤bx→C≤bg→C≤w.heap.size→Below C w w')∧(∀b,b<w.heap.size→b≠bx→b≠bg→w'.heap[b]? =w.heap[b]?)
@[go_sem] theorem run_store_func (P:Program) (w:World) (a:Addr) (m:Mode) (f:Fn) (ts:Array Value) (cs:Array Value) : (store a (.func f ts cs) m).run P w=stored P w a (.func f ts cs) m:=run_store P w a _ m rfl
def gapAt (l:Int) (r:List Nd) (x:Int) :Int:=highOf l r x - lowOf l r x
def worstPre (l:Int) (r:List Nd) (p:List Nd) :Int×Int:=p.foldl (fun a x=>worstStep a (endsOf l x.1).1 (gapAt l r (endsOf l x.1).1)) (worstStep (0,0) 0 (gapAt l r 0))
def worstT (l:Int) (r:List Nd) :Int×Int×Int:=if sumR r=0 then (0,0,7) else ((worstPre l r r).1,(worstPre l r r).2,0)
def triV (t:Int×Int×Int) :Value:=.tuple #[.int .i64 t.1,.int .i64 t.2.1,.int .i64 t.2.2]



structure AtR (W0:World) (P Q:Nat) (pl ph ql qh:Int) (W:World) :Prop where
 p0:W.cell? ⟨P,0,none⟩ =some (.int .i64 pl)
 p1:W.cell? ⟨P,1,none⟩ =some (.int .i64 ph)
 q0:W.cell? ⟨Q,0,none⟩ =some (.int .i64 ql)
 q1:W.cell? ⟨Q,1,none⟩ =some (.int .i64 qh)
 pz:P<W.heap.size
 qz:Q<W.heap.size
 blw:Below W0.heap.size W0 W

theorem gap_parts (w:World) (x:Int) {L B g:Nat} {lt ft:List Nd} (n d pl ph:Nat) (h:TabAt w L B g n lt ft) (hb:B≤w.heap.size) (m1:lt.length≤67108864) (r1:lt.Pairwise fun a b=>a.1<b.1) (m1':ft.length≤67108864) (r1':ft.Pairwise fun a b=>a.1<b.1)
 (e1:upT lt x=pl) (e2:upT ft x=ph) (hn:1≤n) (hn2:n≤9223372036854775807) (hd:d≤9223372036854775807) (hp:pl≤n) (hq:ph≤n) :
 Calls Tryz.prog 82 #[.pointer (some ⟨g,0,none⟩),.int .i64 x,.int .i64 d] w fun e w'=>e=.returned (.tuple #[.int .i64 (pl*d / n:Nat),.int .i64 (upV ph d n:Nat)])∧Below w.heap.size w w':=by
 have HB1:=LH (fun W (h:TabAt W L B g n lt ft) (hb:B≤W.heap.size)=>table_Both x h hb m1 r1 m1' r1');rw [e1,e2] at HB1;have T1:=LH h;have HP:=LH (reckon_Part · pl d n hd hn hn2 hp);have HU:=LH (reckon_PartUp · ph d n hd hn hn2 hq);have u1:=part_le (b:=d) hp hn;have u2:=up_le (b:=d) hq hn;clear h r1 r1' e1 e2;generalize pl*d / n=u at HP u1⊢;generalize upV ph d n=v at HU u2⊢
 go_enter Tryz.func82,Tryz.ntmps82
 go_wp2_with fail;refine(HB1.out _ T1.out hb).mono ?_;rintro e w1 ⟨rfl,hb1⟩;have s1:=hb1.size;have U1:=LH (T1.out.below (hb1.mono hb));have BB1:=LH hb1;clear hb1;go_wp2_with fail;have BA:Below w1.heap.size w1 (w1.alloc (.cells #[.int .i64 pl,.int .i64 ph] 47)):=(Below.refl _ _).alloc (Nat.le_refl _) _;have P3:Hid (bothAt (w1.alloc (.cells #[.int .i64 pl,.int .i64 ph] 47)) w1.heap.size pl ph):=LH (bothAt.new w1 pl ph);have BB3:=LH (BB1.out.trans (BA.mono s1));have T3:=LH (U1.out.below (BA.mono (by omega)));have s3:=BA.size;have HBw:Hid (B≤(w1.alloc (.cells #[.int .i64 pl,.int .i64 ph] 47)).heap.size):=LH (by omega);clear BA;generalize w1.alloc (.cells #[.int .i64 pl,.int .i64 ph] 47) =W3 at P3 BB3 s3 T3 HBw⊢;have cp:=bC P3.out;have zp:=lB P3.out;refine rX (by kernel_rfl) (by kernel_rfl) ?_
 repeat (go_big_quiet_step (first
  | (go_at_call 133;exact quiet_ext (table_N (T3.out.below ((ext_below _ _).mono HBw.out))))
  | (go_at_call 132;exact quiet_ext (HP.out _))))
 have BX:=BB3.out;refine wpQuiet_nil ?_;intro w4 hb4;replace hb4:=bX hb4;have B4:Below w.heap.size w w4:=Below.then_ bE hb4;have s4:=B4.size;have z4_0:w1.heap.size<w4.heap.size:=by have:=hb4.size;(try simp at this);omega
 have y4_0:w1.heap.size≤w4.heap.size:=Nat.le_of_lt z4_0;have c4_0:=czB hb4 (w1.heap.size);have f4_0:=fzB hb4 (w1.heap.size);have T4:=LH (T3.out.below (hb4.mono HBw.out));have HBw4:Hid (B≤w4.heap.size):=LH (Nat.le_trans HBw.out hb4.size);go_wp2_with fail;refine rX (by kernel_rfl) (by kernel_rfl) ?_
 repeat (go_big_quiet_step (first
  | (go_at_call 133;exact quiet_ext (table_N (T4.out.below ((ext_below _ _).mono HBw4.out))))
  | (go_at_call 124;exact quiet_ext (HU.out _))))
 refine wpQuiet_nil ?_;intro w5 hb5;replace hb5:=bX hb5;have B5:Below w.heap.size w w5:=Below.then_ bE hb5;have s5:=B5.size;go_wp2_with fail
 go_ret2
 exact⟨rfl,B5⟩
def edgeL (l:Int) (r:List Nd) :List Int:=r.flatMap fun x=> [(endsOf l x.1).1,(endsOf l x.1).2.1]
theorem edgeL_append (l:Int) (a b:List Nd) :edgeL l (a ++ b) =edgeL l a ++ edgeL l b:=by simp [edgeL]
theorem edgeL_len (l:Int) (r:List Nd) : (edgeL l r).length=2*r.length:=by
 induction r with
 |nil=>rfl
 |cons x r ih=>simp only [edgeL,List.flatMap_cons,List.length_append,List.length_cons,List.length_nil] at ih⊢;omega
theorem edgeL_take (l:Int) (r:List Nd) {q:Nat} (h:q<r.length) :edgeL l (r.take (q+1)) =edgeL l (r.take q) ++ [(endsOf l r[q].1).1,(endsOf l r[q].1).2.1]:=by
 rw [List.take_succ_eq_append_getElem h,edgeL_append];simp [edgeL]
def gapE (l:Int) (a b:List Nd) :List Int:=0 :: edgeL l (a ++ b)
theorem gapE_len (l:Int) (a b:List Nd) : (gapE l a b).length=2* (a.length+b.length) +1:=by simp only [gapE,List.length_cons,edgeL_len,List.length_append]
def Rising (L E:List Int) :Prop:=L.Pairwise (· ≤ ·)∧(∀x,x∈L↔x∈E)
theorem compact_mem (d:Array Int) (m:Nat) : ∀j,j<m→d[j]! ∈Lib.compactUpTo d m:=by
 induction m with
 |zero=>intro j hj;omega
 |succ m ih=>
  intro j hj;rw [Lib.compactUpTo_succ];by_cases e:j=m
  ·subst e
   by_cases k:Lib.keeps d j=true
   ·rw [if_pos k];simp
   ·rw [if_neg k,List.append_nil]
    have k': ¬(j=0∨d[j]! ≠d[j - 1]!):=by simpa [Lib.keeps] using k
    have h0:j≠0:=fun h=>k' (.inl h);have h1:d[j]! =d[j - 1]! :=Decidable.not_not.1 fun h=>k' (.inr h);rw [h1];exact ih _ (by omega)
  ·exact List.mem_append_left _ (ih j (by omega))
theorem compact_sub (zs:List Int) : (Lib.compact zs).Sublist zs:=by
 unfold Lib.compact Lib.compactUpTo;have h:=(List.filter_sublist (l:=List.range zs.length) (p:=Lib.keeps zs.toArray)).map (fun j=>zs.toArray[j]!);have e:=Lib.range_map_get zs.toArray;simp only [List.size_toArray,List.toList_toArray] at e
 rwa [e] at h
theorem compact_rising (E:List Int) :Rising (Lib.compact (E.mergeSort fun x y=>decide (x≤y))) E:=by
 have hp: (E.mergeSort fun x y=>decide (x≤y)).Pairwise (· ≤ ·):=by
  have:=List.pairwise_mergeSort (le:=fun (x y:Int)=>decide (x≤y)) (fun a b c h1 h2=>by simp only [decide_eq_true_eq] at*;omega) (fun a b=>by simp only [Bool.or_eq_true,decide_eq_true_eq];omega) E;exact this.imp fun h=>by simpa using h
 refine⟨hp.sublist (compact_sub _),fun x=> ?_⟩;rw [←List.mem_mergeSort (le:=fun (x y:Int)=>decide (x≤y)) (l:=E)];generalize E.mergeSort (fun x y=>decide (x≤y)) =zs
 constructor
 ·exact fun h=>(compact_sub _).subset h
 ·intro h
  obtain⟨j,hj,rfl⟩:=List.getElem_of_mem h;have:=compact_mem zs.toArray zs.length j hj;rw [getElem!_pos _ _ (by simpa using hj)] at this
  simpa [Lib.compact] using this
theorem compact_len_le (E:List Int) : (Lib.compact (E.mergeSort fun x y=>decide (x≤y))).length≤E.length:=by
 have:=(compact_sub (E.mergeSort fun x y=>decide (x≤y))).length_le
 rwa [List.length_mergeSort] at this
theorem gapFold_rising {l d:Int} {a b:List Nd} {L E:List Int} (h:Rising L E) :gapFold l d a b L=gapFold l d a b E:=gapFold_set h.2
def rightE (l:Nat) (p:Int) :List Int→Bool
 | []=>true
 |x :: r=>(decide (0≤x) && decide (x<2^l) && decide (p<x)) && rightE l x r
def prevE (es:List Int) (q:Nat) :Int:=if q=0 then -1 else es.getD (q - 1) 0
def lowN (l:Int) (r:List Nd) (es:List Int) :Nat→Int
 |0=>0
 |q+1=>if h:q<es.length then lowOf l r es[q] else sumR r
def binAt (l:Int) (r:List Nd) (es:List Int) (q:Nat) :Int:=lowN l r es (q+1) - lowN l r es q
def binsL (l:Int) (r:List Nd) (es:List Int) :List Int:=(List.range (es.length+1)).map (binAt l r es)
def runAt (l:Nat) (es:List Int) (q:Nat) :Int×Int:=(if q=0 then 0 else es.getD (q - 1) 0+1,if q<es.length then es.getD q 0 else 2^l - 1)
def runsL (l:Nat) (es:List Int) :List (Int×Int):=(List.range (es.length+1)).map (runAt l es)
def binStep (l:Int) (r:List Nd) (a:List Int×Int) (p:Int×Int) :List Int×Int:=(a.1 ++ [lowOf l r p.2 - a.2],lowOf l r p.2)
def binFold (l:Int) (r:List Nd) (ps:List (Int×Int)) :List Int×Int:=ps.foldl (binStep l r) ([],0)
def lessE (es:List Int) (at_:Nat) :List Int:=es.take at_ ++ es.drop (at_+1)
section
attribute [local go_sem] Oper.semAt_some
end
theorem three (p q:Prop) [Decidable p] [Decidable q] : (p∧q)∨(p∧decide q=false)∨decide p=false:=by
 by_cases hp:p
 ·by_cases hq:q
  ·exact .inl ⟨hp,hq⟩
  ·exact .inr (.inl ⟨hp,decide_eq_false hq⟩)
 ·exact .inr (.inr (decide_eq_false hp))
def binErr (l:Nat) (es:List Int) :Int:=if rightE l (-1) es=true then 0 else 8
section
attribute [local go_sem] Oper.semAt_some
def ofBins (l:Nat) (r:List Nd) (es:List Int) :List Int:=if binErr l es=0 then binsL l r es else []
def BinsPost (l:Nat) (r:List Nd) (es:List Int) (w:World) (e:Ending) (w':World) :Prop:=∃v,e=.returned (.tuple #[v,.int .i64 (binErr l es)])∧Own w' w.heap.size 3 encZ v (ofBins l r es)∧Below w.heap.size w w'
structure OfI (w:World) (l:Nat) (r:List Nd) (L B g bt bo ba z:Nat) (lt ft:List Nd) (pre:List (Int×Int)) (W:World) :Prop where
 t:W.heap[bt]? =some (.cells #[.pointer (some ⟨g,0,none⟩)] 145 (0,0))
 o: ∃v,W.heap[bo]? =some (.cells #[v] 26 (0,0))∧Own W z 3 encZ v (binFold l r pre).1
 a:W.heap[ba]? =some (.cells #[.int .i64 (binFold l r pre).2] 3 (0,0))
 tab:TabAt W L B g (sumR r) lt ft
 sz:z≤W.heap.size
theorem tab_grown {A B:World} {L B0 g:Nat} {n:Int} {lt ft:List Nd} {row:Option Nat} (h:TabAt A L B0 g n lt ft) (hg:A.grownBy B row) (hr: ∀r,row=some r→∃o:Obj,A.heap[r]? =some o∧o.isCells=false) :TabAt B L B0 g n lt ft:=by
 obtain⟨h0,h0',A1,c1,A2,c2,A3,c3,A4,c4,h1,⟨h2,h3,h4,h5⟩,h6⟩:=h;exact⟨h0,h0',A1,c1,A2,c2,A3,c3,A4,c4,row_grown h1 hg hr,⟨own_grown h2 hg hr,own_grown h3 hg hr,own_grown h4 hg hr,own_grown h5 hg hr⟩,h6⟩
end

section
variable {α:Type} {P:Program} {t e:TypeId} {size bytes:Nat} {z:Value}
theorem wpList_pushes {w:World} {ops:Array Oper} {rest:List Oper} {o:Oper} {a:Act} {Q:Exit→Act→World→Prop} (T:SliceTy P t e size bytes z) (hgd:o.guard=none) (s x:Operand)
 (ho:o.op=.call {callee:=.builtin .append,args:= #[s,x],argTypes:= #[t,t]}) (E:Enc α size) (W:World) (base:Nat) (v:Value) (l:List α) (hs:a.eval s=v) (hown:Own W base e E v l)
 (l2:List α) (n:Nat) (hn2:n=l2.length) (hx:a.eval x=.slice (some ⟨W.heap.size,0,none⟩) n n) (hw:w=W.alloc (.cells (l2.flatMap E.enc).toArray e)) (hn: (l.length+l2.length) *bytes≤140737488355328) (hm:l.length+l2.length≤maxLen) (hbase:base≤W.heap.size)
 (h: ∀v' w',Own w' base e E v' (l ++ l2)→W.grownBy w' v.ownBlock→W.heap.size<w'.heap.size→(v'.ownBlock=v.ownBlock∨v'.ownBlock=some (W.heap.size+1))→Below base W w'→(l2≠ []→v'≠.slice none 0 0)→
   wpList P ops Q rest (a.put o.dst v') w') :wpList P ops Q (o :: rest) a w:=by
 subst hw hn2;refine wpList_app T hgd s x ho E base v l hs (hown.alloc _) (some ⟨W.heap.size,0,none⟩) l2.length l2 _ hx (sl_lit W E l2 e _ rfl) hn hm (by simp;omega) fun v' w' h2 h3 h4 h5 h6=> ?_;have hs:=h3.size;simp at hs
 refine h v' w' h2 ⟨h3.os,h3.tape,h3.output,by omega,fun i hi hne=>(h3.block i (by simp;omega) hne).trans (Below.heap_alloc W _ i hi)⟩ (by omega) ?_ ?_ h6
 ·rcases h4 with h4|h4
  ·exact .inl h4
  ·right;rw [h4];simp
 ·exact((Below.refl base W).alloc hbase _).trans h5
end
theorem flatZ (l:List Int) :l.flatMap encZ.enc=l.map (Value.int .i64):=by
 induction l with
 |nil=>rfl
 |cons x l ih=>rw [List.flatMap_cons,ih];rfl
theorem Own.holdsZ {w:World} {base g off cap:Nat} {l:List Int} (h:Own w base 3 encZ (.slice (some ⟨g,off,none⟩) l.length cap) l) :Go.Sort.Holds (Value.int .i64) w g off l.toArray:=by
 intro j hj;have hj:j<l.length:=by simpa using hj
 rcases h with ⟨h,_⟩ | ⟨g',off',cap',cur,hv,hb,hh,h1,h2,h3,hc⟩
 ·cases h
 ·injection hv with hv _ _
  injection hv with hv
  injection hv with e1 e2
  subst e1 e2;rw [bC hh,bF hh];refine⟨hc j _ ?_,rfl⟩;rw [flatZ,List.getElem?_map,List.getElem?_eq_getElem hj];simp [hj]
theorem Own.putZ {w:World} {base g off cap:Nat} {l:List Int} (h:Own w base 3 encZ (.slice (some ⟨g,off,none⟩) l.length cap) l) (d l':List Int) (hd:d.length=l.length) (rest:List Int) (hr:d=l' ++ rest) (n:Nat) (os:Array Obj) :
 Own (Go.Sort.grow (Go.Sort.putRow (Value.int .i64) (Go.Sort.ahead w n) g off d.toArray) os) base 3 encZ (.slice (some ⟨g,off,none⟩) l'.length cap) l'∧Turn (fun b=>b=g) w (Go.Sort.grow (Go.Sort.putRow (Value.int .i64) (Go.Sort.ahead w n) g off d.toArray) os)∧base≤g:=by
 have hl:l'.length≤l.length:=by rw [←hd,hr,List.length_append];omega
 rcases h with ⟨h,_⟩ | ⟨g',off',cap',cur,hv,hb,hh,h1,h2,h3,hc⟩
 ·cases h
 ·injection hv with hv _ hcap
  injection hv with hv
  injection hv with e1 e2
  subst e1 e2 hcap;have hlt:g<w.heap.size:=lB hh
  have hg: (Go.Sort.grow (Go.Sort.putRow (Value.int .i64) (Go.Sort.ahead w n) g off d.toArray) os).heap[g]? =some (.cells (Go.Sort.putCells (Value.int .i64) off d.toArray cur) 3 (0,0)):=by
   rw [Go.Sort.heap_grow_old _ _ (by simp [Go.Sort.putRow,Go.Sort.mapBlock,Go.Sort.ahead];exact hlt)];simp [Go.Sort.putRow,Go.Sort.mapBlock,Go.Sort.ahead,Array.getElem?_modify,Go.Sort.onCells,hh]
  refine⟨.inr ⟨g,off,cap,_,rfl,hb,hg,by omega,h2,by simpa [Go.Sort.putCells] using h3,fun j u hj=> ?_⟩,⟨rfl,rfl,rfl,?_,fun b hlb hn=> ?_⟩,hb⟩
  ·rw [flatZ,List.getElem?_map] at hj
   obtain⟨x,hx,rfl⟩:=Option.map_eq_some_iff.1 hj;have hjl:j<l'.length:=(List.getElem?_eq_some_iff.1 hx).1;have hcur:cur[off+j]? =some cur[off+j]:=Array.getElem?_eq_getElem (by omega);simp only [Go.Sort.putCells,Array.getElem?_mapIdx,hcur,Option.map_some];rw [if_pos ⟨by omega,by simp [hd];omega⟩];have hdj:d[j]? =some x:=by rw [hr,List.getElem?_append_left hjl];exact hx
   have e:d.toArray[off+j - off]! =x:=by
    rw [Nat.add_sub_cancel_left,getElem!_pos _ _ (by simpa using (List.getElem?_eq_some_iff.1 hdj).1)]
    simpa using (List.getElem?_eq_some_iff.1 hdj).2
   rw [e]
  ·simp [Go.Sort.grow,Go.Sort.putRow,Go.Sort.mapBlock,Go.Sort.ahead]
  ·rw [Go.Sort.heap_grow_old _ _ (by simp [Go.Sort.putRow,Go.Sort.mapBlock,Go.Sort.ahead];exact hlb)]
   simp only [Go.Sort.putRow,Go.Sort.mapBlock,Go.Sort.ahead,Array.getElem?_modify];rw [if_neg (by intro h;exact hn h.symm)]
theorem sort_own (w:World) (base g off cap:Nat) (l:List Int) (h:Own w base 3 encZ (.slice (some ⟨g,off,none⟩) l.length cap) l) (hb:base≤w.heap.size) (hm:l.length≤1000000000000) :
 Calls Tryz.prog 128 #[.slice (some ⟨g,off,none⟩) l.length cap] w fun e w'=>e=.returned (.tuple #[])∧Own w' base 3 encZ (.slice (some ⟨g,off,none⟩) l.length cap) (l.mergeSort fun x y=>decide (x≤y))∧Turn (fun b=>b=g) w w'∧base≤g:=by
 refine(Go.Proofs.Tryz.slices_Sort_int g off cap l w h.holdsZ ((h.lt g rfl).2) (by omega)).mono ?_;rintro e w' ⟨rfl,n,os,rfl⟩;have hl: (l.mergeSort fun x y=>decide (x≤y)).length=l.length:=List.length_mergeSort _;obtain⟨h1,h2,h3⟩:=h.putZ (l.mergeSort fun x y=>decide (x≤y)) (l.mergeSort fun x y=>decide (x≤y)) hl [] (by simp) n os;rw [hl] at h1;exact⟨rfl,h1,h2,h3⟩
theorem compact_own (w:World) (base g off cap:Nat) (l:List Int) (h:Own w base 3 encZ (.slice (some ⟨g,off,none⟩) l.length cap) l) (hm:l.length≤1000000000000) :
 Calls Tryz.prog 129 #[.slice (some ⟨g,off,none⟩) l.length cap] w fun e w'=>e=.returned (.slice (some ⟨g,off,none⟩) (Lib.compact l).length cap)∧Own w' base 3 encZ (.slice (some ⟨g,off,none⟩) (Lib.compact l).length cap) (Lib.compact l)∧Turn (fun b=>b=g) w w'∧base≤g:=by
 have hc:=h.len_le;have hle:=(compact_sub l).length_le;refine(Go.Proofs.Tryz.slices_Compact_int g off cap l w h.holdsZ (by omega) hc.2.1).mono ?_;rintro e w' ⟨rfl,n,rfl⟩;obtain⟨h1,h2,h3⟩:=h.putZ (Lib.compact l ++ List.replicate (l.length - (Lib.compact l).length) 0) (Lib.compact l) (by simp;omega) _ rfl n #[];rw [Go.Sort.grow_empty] at h1 h2;exact⟨rfl,h1,h2,h3⟩
section
attribute [local go_sem] Oper.semAt_some
def endsJ (l:Int) (r1 r2:List Nd) (j:Nat) :List Int:=match j with
 |0=> [0]
 |1=>0 :: edgeL l r1
 |_=>gapE l r1 r2
structure GapDig (w:World) (s l:Nat) (r1 r2:List Nd) (j g K:Nat) (k:Int) (r:List Nd) (F:Nat→Prop) :Prop where
 c:w.cell? ⟨s,j,none⟩ =some (.pointer (some ⟨g,0,none⟩))
 d:DigAt w g K l k r F
 m:r.length≤67108864
 e:endsJ l r1 r2 (j+1) =endsJ l r1 r2 j ++ edgeL l r
 el: (endsJ l r1 r2 j).length≤134217729
def EndsPost (E:List Int) (w:World) (e:Ending) (w':World) :Prop:=∃(b:Nat) (A:Option Addr) (cap:Nat) (L:List Int),e=.returned (.func (.func 130) #[] #[.pointer (some ⟨b,0,none⟩)])∧w.heap.size≤b∧w'.heap[b]? =some (.cells #[.slice A L.length cap] 26 (0,0))∧Own w' w.heap.size 3 encZ (.slice A L.length cap) L∧Rising L E∧L.length≤E.length∧Below w.heap.size w w'
theorem gap_ends (w:World) (s g1 g2 K1 K2 l:Nat) (k1 k2:Int) (r1 r2:List Nd) (F1 F2:Nat→Prop) (hs:w.heap[s]? =some (.cells #[.pointer (some ⟨g1,0,none⟩),.pointer (some ⟨g2,0,none⟩)] 35 (0,0))) (h1:DigAt w g1 K1 l k1 r1 F1) (h2:DigAt w g2 K2 l k2 r2 F2) (m1:r1.length≤67108864) (m2:r2.length≤67108864) :
 Calls Tryz.prog 81 #[.slice (some ⟨s,0,none⟩) 2 2] w (EndsPost (gapE l r1 r2) w):=by
 have HJ:Hid (∀j,j<2→∃g K k r F,GapDig w s l r1 r2 j g K k r F):=LH fun j hj=>by
  have c:=bC hs;rcases (show j=0∨j=1 by omega) with rfl|rfl
  ·exact⟨g1,K1,k1,r1,F1,c 0,h1,m1,rfl,by simp [endsJ]⟩
  ·exact⟨g2,K2,k2,r2,F2,c 1,h2,m2,by simp only [endsJ,gapE,edgeL_append];rfl,by simp only [endsJ,List.length_cons,edgeL_len];omega⟩
 have zs:=lB hs;have hl:=h1.l_le;have HE:=LH (fun (W:World) (id:Int) (h:id≤9223372036854775807)=>twig_Ends W l id h);have HG2:=LH (gapE_len l r1 r2);clear hs h1 h2
 go_enter Tryz.func81,Tryz.ntmps81
 go_upto_region 2 with fail;have O0:=LH (Own.lit (base:=w.heap.size) w encZ [0] 3 (Nat.le_refl _) (by simp [maxLen]));simp only [List.flatMap_cons,List.flatMap_nil,List.append_nil,encZ,List.length_singleton] at O0;have OB:=LH (O0.out.alloc (.cells #[.slice (some ⟨w.heap.size,0,none⟩) 1 1] 26));have KB:=LH (heap_new_at (w.alloc (.cells #[.int .i64 0] 3)) (.cells #[.slice (some ⟨w.heap.size,0,none⟩) 1 1] 26) (w.heap.size+1) (by simp));have BA:Below w.heap.size w ((w.alloc (.cells #[.int .i64 0] 3)).alloc (.cells #[.slice (some ⟨w.heap.size,0,none⟩) 1 1] 26)):=bE;have HBA:=LH BA;clear O0 BA;generalize (w.alloc (.cells #[.int .i64 0] 3)).alloc (.cells #[.slice (some ⟨w.heap.size,0,none⟩) 1 1] 26) =W0 at OB KB HBA⊢;go_wp2_with fail
 go_loopw [15] (fun i wr=>∃j:Nat,j≤2∧i=.int .i64 j∧∃v,wr.heap[w.heap.size+1]? =some (.cells #[v] 26 (0,0))∧Own wr w.heap.size 3 encZ v (endsJ l r1 r2 j)∧Below w.heap.size w wr) (fun i _=>2 - (intOf i).toNat)
 case atStart=>exact⟨0,Nat.zero_le _,rfl,_,KB.out,OB.out,HBA.out⟩
 case round=>
  obtain⟨j,hj,rfl,v,hbox,hown,hB⟩:=hrel;by_cases hlt:j<2
  ·obtain⟨g,K,k,r,F,G⟩:=HJ.out j hlt
   have hsz:=hB.size;have cs:=(hB.cell (p:=⟨s,j,none⟩) zs).trans G.c;have zs':s<wr.heap.size:=by omega
   have HD:=LH (G.d.below hB);have hm:=G.m;have EJ:=LH G.e;have hel:=G.el;have hfit:=G.d.fits
   have HX:Hid (∀x∈r,x.1≤9223372036854775807):=LH fun x hx=>by
    have a1:=hfit.lt x hx;have a2:=pow_48 (n:=l) hl.2;omega
   have HBOX:=LH hbox;have HOWN:=LH hown;have HB:=LH hB;obtain⟨D,hD⟩ : ∃D,D=endsJ l r1 r2 j:=⟨_,rfl⟩;rw [←hD] at HOWN EJ hel;clear G hbox hown hB hD hfit;have HBr:=HB.out;go_wp2_with fail;refine(digest_Conf _ g K l k r F HD.out).mono ?_;rintro e w1 ⟨rfl,hb1⟩;have B1:Below w.heap.size w w1:=Below.then_ bE hb1;have s1:=B1.size;have BB1:=LH (HB.out.trans (hb1.mono HB.out.size));have HD1:=LH (HD.out.below hb1);have BX1:=LH (bB HBOX.out hb1);have OW1:=LH (HOWN.out.below hb1);clear hb1 HBr;go_wp2_with fail;refine(digest_Nodes _ g K l k r F HD1.out hm).mono ?_;rintro e w2 ⟨vn,rfl,ho2,hb2⟩;have BB2:=LH (BB1.out.trans (hb2.mono BB1.out.size));have BX2:=LH (bB BX1.out hb2);have OW2:=LH (OW1.out.below hb2);obtain⟨An,cn,rfl,_⟩:=ho2.form;have ON2:=LH (ho2.base_le (b:=w.heap.size) BB1.out.size);clear hb2 ho2 HB HD HD1 BB1 BX1 OW1 HBOX HOWN;go_wp2_with fail
   go_loopw [25] (fun i wr=>∃q:Nat,q≤r.length∧i=.int .i64 q∧∃v,wr.heap[w.heap.size+1]? =some (.cells #[v] 26 (0,0))∧Own wr w.heap.size 3 encZ v (D ++ edgeL l (r.take q))∧Own wr w.heap.size 172 encN (.slice An r.length cn) r∧Below w.heap.size w wr) (fun i _=>r.length - (intOf i).toNat)
   case atStart=>exact⟨0,Nat.zero_le _,rfl,_,BX2.out,by simpa [edgeL] using OW2.out,ON2.out,BB2.out⟩
   case round=>
    obtain⟨q,hq,rfl,v5,hbox,hown,hnod,hB⟩:=hrel;have HBOX:=LH hbox;have HOWN:=LH hown;have HNOD:=LH hnod;have HB:=LH hB;have hsz5:=hB.size;have hlen: (D ++ edgeL l (r.take q)).length≤402653185:=by rw [List.length_append,edgeL_len,List.length_take,Nat.min_eq_left hq];omega
    by_cases hlt5:q<r.length
    ·obtain⟨c,off,rfl,hc,hcl⟩:=hnod.sl.at_ hlt5
     have d0:=hcl 0 (.int .i64 r[q].1) rfl;have d1:=hcl 1 (.int .i64 r[q].2) rfl;simp only [Nat.add_zero] at d0;have hx:=HX.out _ (List.getElem_mem hlt5);have E1:=LH (show D ++ edgeL l (r.take (q+1)) = (D ++ edgeL l (r.take q)) ++ [(endsOf l r[q].1).1,(endsOf l r[q].1).2.1] by rw [edgeL_take (l:Int) r hlt5,List.append_assoc]);obtain⟨C,hC⟩ : ∃C,C=D ++ edgeL l (r.take q):=⟨_,rfl⟩;rw [←hC] at HOWN hlen E1;obtain⟨y,hy⟩ : ∃y,y=r[q]:=⟨_,rfl⟩;rw [←hy] at d0 d1 hx E1;have HEy:=LH (HE.out · y.1 hx);generalize endsOf l y.1=t at HEy E1;obtain⟨t1,t2,t3⟩:=t;unfold endsV at HEy;clear hcl hy hnod hx hB hC hbox hown;go_wp2_with fail;refine(HEy.out _).mono ?_;rintro e w6 ⟨rfl,hb6⟩;have BW:Below wr.heap.size wr w6:=((Below.refl wr.heap.size wr).alloc (Nat.le_refl _) _).trans (hb6.mono (by simp));have k6:=bB HBOX.out BW;have c6:=bC k6;have z6:=lB k6;have K6:=LH k6;obtain⟨A6,n6,rfl,_⟩:=HOWN.out.form;have O6:=LH (HOWN.out.below BW);have N6:=LH (HNOD.out.below BW);have B6:=LH (HB.out.trans (BW.mono hsz5));clear BW k6 hb6 HBOX HOWN HNOD HB;go_wp2_with ((at_builtin;refine wpList_pushes tyZ rfl _ _ rfl encZ w6 w.heap.size (.slice A6 C.length n6) C rfl O6.out [t1,t2] 2 rfl (by go_simp) rfl ?c1 ?c2 ?c3 ?c4))
     case c1=>simp only [List.length_cons,List.length_nil];omega
     case c2=>simp only [maxLen,List.length_cons,List.length_nil];omega
     case c3=>exact B6.out.size
     case c4=>
      intro v7 w7 ho7 hg7 hlt7 hlies hb7 _;have N7:=LH (N6.out.kept hg7 (own_ne N6.out O6.out (by decide)));have K7:=LH (blk_grown K6.out O6.out hg7 (by decide));have B7:=LH (B6.out.trans hb7);obtain⟨A7,n7,rfl,_⟩:=ho7.form;have O7:=LH (show Own w7 w.heap.size 3 encZ (.slice A7 (C.length+2) n7) (D ++ edgeL l (r.take (q+1))) by rw [E1.out];simpa using ho7);have c7:=bC K7.out;have f7:=bF K7.out;have z7:=lB K7.out;clear ho7 hg7 hlies hb7 K6 O6 N6 B6 c6 z6;go_wp2_with fail;go_roundw
      case rel=>exact⟨q+1,by omega,by go_num,_,zH (i:=0) K7.out _,O7.out.setCell (fun h=>O7.out.ne_block K7.out (by decide) h) _,N7.out.setCell (fun h=>N7.out.ne_block K7.out (by decide) h) _,B7.out.setCell (p:=⟨w.heap.size+1,0,none⟩) (by simp) _⟩
      case measure=>simp [intOf];omega
    ·obtain rfl:q=r.length:=by omega
     rw [List.take_length] at HOWN;rw [←EJ.out] at HOWN;go_wp2_with fail;go_roundw
     case rel=>exact⟨j+1,by omega,by go_num,_,HBOX.out,HOWN.out,HB.out⟩
     case measure=>simp [intOf];omega
  ·obtain rfl:j=2:=by omega
   have HOWN:=LH (show Own wr w.heap.size 3 encZ v (gapE l r1 r2) from hown);obtain⟨E,hE⟩ : ∃E,E=gapE l r1 r2:=⟨_,rfl⟩;have hE0:0<E.length:=by rw [hE,HG2.out];omega
   have hEl:E.length≤1000000000000:=by rw [hE,HG2.out];omega
   rw [←hE] at HOWN;have HE':=LH hE;rcases HOWN.out with ⟨_,h0⟩ | ⟨ga,off,cap,cur,rfl,hga,_⟩
   ·rw [h0] at hE0;simp at hE0
   ·have HO:=LH (show Own wr w.heap.size 3 encZ (.slice (some ⟨ga,off,none⟩) E.length cap) E from HOWN.out)
    have HBOX:=LH hbox;have HB:=LH hB;have cb:=bC hbox;have zb:=lB hbox;clear hown hbox hB hE HOWN HJ HE;go_wp2_with fail;refine(sort_own _ w.heap.size ga off cap E HO.out HB.out.size hEl).mono ?_;rintro e w1 ⟨rfl,hs1,ht1,_⟩
    have hne:w.heap.size+1≠ga:=fun h=>by
     have:=HO.out.ne_block HBOX.out (by decide);exact this (by rw [h];rfl)
    have K1:=LH (ht1.keep HBOX.out hne);have B1:=LH (HB.out.trans (ht1.below (base:=w.heap.size) (fun b hb=>by rw [hb];exact hga) HB.out.size));have hl1: (E.mergeSort fun x y=>decide (x≤y)).length=E.length:=List.length_mergeSort _;have hr:=compact_rising E;have hle:=compact_len_le E;obtain⟨S,hS⟩ : ∃S,S=E.mergeSort fun x y=>decide (x≤y):=⟨_,rfl⟩;rw [←hS] at hs1 hl1 hr hle;have O1:=LH (show Own w1 w.heap.size 3 encZ (.slice (some ⟨ga,off,none⟩) S.length cap) S by rw [hl1];exact hs1);have hc:=compact_own w1 w.heap.size ga off cap S O1.out (by rw [hl1];exact hEl);rw [hl1] at hc;have HC:=LH hc;have c1:=bC K1.out;have f1:=bF K1.out;have z1:=lB K1.out;clear hs1 ht1 hl1 hS cb zb HBOX HB HO hc;go_wp2_with fail;refine HC.out.mono ?_;rintro e w2 ⟨rfl,hc2,ht2,_⟩;have K2:=LH (ht2.keep K1.out hne);have B2:=LH (B1.out.trans (ht2.below (base:=w.heap.size) (fun b hb=>by rw [hb];exact hga) B1.out.size));obtain⟨L,hL⟩ : ∃L,L=Lib.compact S:=⟨_,rfl⟩;rw [←hL] at hc2 hr hle⊢;have O2:=LH hc2;have c2:=bC K2.out;have f2:=bF K2.out;have z2:=lB K2.out;clear hc2 ht2 hL c1 f1 z1 K1 O1 B1;go_wp2_with fail;go_ret;exact⟨w.heap.size+1,some ⟨ga,off,none⟩,cap,L,rfl,by omega,zH (i:=0) K2.out _,O2.out.setCell (fun h=>O2.out.ne_block K2.out (by decide) h) _,HE'.out ▸ hr,HE'.out ▸ hle,B2.out.setCell (p:=⟨w.heap.size+1,0,none⟩) (by simp) _⟩
end
section
attribute [local go_sem] Oper.semAt_some
theorem ends_stops (n b z:Nat) (X:Nat→Prop) (A:Option Addr) (cap:Nat) (L:List Int) (w:World) (hn:1≤n) (hz:z≤w.heap.size)
 (hb:w.heap[b]? =some (.cells #[.slice A L.length cap] 26 (0,0))) (hS:SlX w z X A L) (b1:b<z) (b2: ¬X b) (hlen:L.length≤1000000000000) :
 SeqStopsK Fence.wide n Tryz.prog 130 #[.pointer (some ⟨b,0,none⟩)] (fun x:Int=> #[Value.int .i64 x]) (KeepX z X) (fun ys=>ys=L) (fun pre=>pre <+: L) L.length w:=fun q J Jx W hW hJ hJx hY h0=>by
 have hWz:Below z w W:=hW.mono hz;have kb:=LH (bB hb hW);have KS:=LH (hS.below hWz);have cb:=bC kb.out;have zb:=lB kb.out;have HY:=LH hY;have H0:=LH h0;clear hb hS hY hJ hJx h0;refine callsIn_of_wp Tryz.func130 rfl trivial ?_ rfl;simp only [Tryz.ntmps130,List.size_toArray,List.length_cons,List.length_nil,Nat.reduceAdd,Nat.reduceSub,Array.replicate_succ,Array.replicate_zero,List.push_toArray,List.append_toArray,List.nil_append,List.cons_append]
 gi_wp2_with fail
 gi_loopw [7] (fun i wr=>∃k:Nat,k≤L.length∧i=.int .i64 k∧J (L.take k) wr∧KeepX z X W wr) (fun i _=>L.length - (intOf i).toNat)
 case atStart=>exact⟨0,Nat.zero_le _,rfl,H0.out,KeepX.refl _⟩
 case round=>
  obtain⟨k,hk,rfl,hJk,hK⟩:=hrel;have KJ:=LH hJk;have KK:=LH hK;by_cases hlt:k<L.length
  ·obtain⟨c,off,rfl,hc,hcl⟩:=(KS.out.keep hK).at_ hlt
   have zc:c<wr.heap.size:=by have:=hK.1;have:=hW.size;omega
   have hT:=List.take_succ_eq_append_getElem hlt;obtain⟨x,hx⟩ : ∃x,x=L[k]:=⟨_,rfl⟩;rw [←hx] at hcl hT;obtain⟨fn,tmps,assign,body,hy,hR⟩:=HY.out (L.take k) x _ KJ.out (by rw [List.length_take];omega);rw [←hT] at hR;clear hx hT hJk hK
   gi_wp2_with fail
   refine hR.mono ?_;rintro e w3 (⟨rfl,hJ3,hk3⟩ | ⟨rfl,hJx3⟩)
   ·have K3:=LH (keepX_t KK.out hk3)
    have J3:=LH hJ3;clear hJ3 hk3
    gi_wp2_with fail
    go_roundw
    case rel=>exact⟨k+1,by omega,by go_num,J3.out,K3.out⟩
    case measure=>simp [intOf];omega
   ·have J3:=LH hJx3
    clear hJx3
    gi_wp2_with fail
    refine bR (results_none rfl _ _ _) rfl ?_;exact⟨⟨_,rfl⟩,.inr ⟨_,List.take_prefix _ _,J3.out⟩⟩
  ·obtain rfl:k=L.length:=by omega
   rw [List.take_length] at KJ
   gi_wp2_with fail
   go_end0
   exact⟨⟨_,rfl⟩,.inl ⟨_,rfl,KJ.out⟩⟩
end

section
attribute [local go_sem] Oper.semAt_some
def apT (l m:Int) (a b:List Nd) :Int×Int:=if gapErr l m a b=0 then apFold (sideOf l a b) (gapE l a b) else (0,0)
structure ApI (b4 bt bu t1 t2 L1 B1 L2 B2:Nat) (n m:Int) (lt1 ft1 lt2 ft2:List Nd) (W:World) :Prop where
 x4:W.heap[b4]? =some (.cells #[.int .i64 0] 3 (0,0))
 x5:W.heap[b4+1]? =some (.cells #[.int .i64 0] 3 (0,0))
 x6:W.heap[b4+1+1]? =some (.cells #[.int .i64 0] 23 (0,0))
 t:W.heap[bt]? =some (.cells #[.pointer (some ⟨t1,0,none⟩)] 145 (0,0))
 u:W.heap[bu]? =some (.cells #[.pointer (some ⟨t2,0,none⟩)] 145 (0,0))
 tab1:TabAt W L1 B1 t1 n lt1 ft1
 tab2:TabAt W L2 B2 t2 m lt2 ft2
structure Res3 (b:Nat) (x y z:Value) (W:World) :Prop where
 r4:W.heap[b]? =some (.cells #[x] 3 (0,0))
 r5:W.heap[b+1]? =some (.cells #[y] 3 (0,0))
 r6:W.heap[b+1+1]? =some (.cells #[z] 23 (0,0))
end
section
attribute [local go_sem] Oper.semAt_some
def gapMostErr (l m:Int) (a b:List Nd) (d:Int) :Int:=if gapErr l m a b=0 then (if d<1 then 2 else 0) else gapErr l m a b
def gapMostT (l m:Int) (a b:List Nd) (d:Int) :Int×Int:=if gapMostErr l m a b d=0 then gapFold l d a b (gapE l a b) else (0,0)
theorem SlX.own {w:World} {base n cap z:Nat} {X:Nat→Prop} {A:Option Addr} {es:List Int} (h:Own w base 3 encZ (.slice A n cap) es) (hz:w.heap.size≤z) (hX: ∀b,base≤b→¬X b) :SlX w z X A es:=by
 rcases h with ⟨_,h⟩ | ⟨g,off,cap',cur,hv,hb,hh,h1,h2,h3,hc⟩
 ·exact .inl h
 ·cases hv
  refine .inr ⟨g,off,rfl,by have:=lB hh;omega,hX g hb,fun i x hi=> ?_⟩;rw [bC hh];refine hc i _ ?_;rw [flatZ,List.getElem?_map,hi];rfl
theorem gap_more (w:World) (b:Nat) (lo hi a c:Int) (h:bothAt w b lo hi) :
 Calls Tryz.prog 79 #[.int .i64 a,.int .i64 c,.pointer (some ⟨b,0,none⟩)] w fun e w'=>e=.returned (.tuple #[])∧(w.setCell ⟨b,0,none⟩ (.int .i64 (max lo a))).setCell ⟨b,1,none⟩ (.int .i64 (max hi c)) =w':=by
 have cb:=bC h;have fb:=bF h;have zb:=lB h;clear h
 go_enter Tryz.func79,Tryz.ntmps79
 go_wp2_with fail
 go_end0
 exact⟨rfl,rfl⟩
theorem gap_parts_of {w:World} {L1 B1 g1 l:Nat} {lt1 ft1 r1:List Nd} (x:Int) (d:Nat) (h1:TabAt w L1 B1 g1 (sumR r1) lt1 ft1) (b1:B1≤w.heap.size)
 (t1:Tab (lastL l r1) lt1) (f1:Tab (firstL l r1) ft1) (m1:lt1.length≤67108864) (m1':ft1.length≤67108864) (fit1:Fits l r1) (hn:1≤sumR r1) (hd:d≤9223372036854775807) :
 Calls Tryz.prog 82 #[.pointer (some ⟨g1,0,none⟩),.int .i64 x,.int .i64 d] w fun e w'=>e=.returned (.tuple #[.int .i64 (downV (sumR r1) d (lowOf l r1 x)),.int .i64 (upP (sumR r1) d (highOf l r1 x))])∧Below w.heap.size w w':=by
 have y1:=fit1.sum;have a1:=low_range (l:=l) fit1.roll x;have a2:=high_range' (l:=l) fit1.roll x;obtain⟨n,e1⟩:=Int.eq_ofNat_of_zero_le (show 0≤sumR r1 by omega);obtain⟨pl,e3⟩:=Int.eq_ofNat_of_zero_le a1.1;obtain⟨ph,e4⟩:=Int.eq_ofNat_of_zero_le a2.1;unfold downV upP;rw [e1] at h1;rw [e1,e3,e4];simp only [Int.toNat_natCast];exact gap_parts w x n d pl ph h1 b1 m1 t1.rise m1' f1.rise (by rw [t1.upT,low_up];exact e3) (by rw [f1.upT,high_up];exact e4) (by omega) (by omega) hd (by omega) (by omega)
theorem parts_range {n:Int} {d:Nat} {pl ph:Int} (hn:1≤n) (h1:0≤pl∧pl≤n) (h2:0≤ph∧ph≤n) : (0≤downV n d pl∧downV n d pl≤d)∧(0≤upP n d ph∧upP n d ph≤d):=by
 unfold downV upP;have u1:=part_le (a:=pl.toNat) (b:=(d:Int).toNat) (c:=n.toNat) (by omega) (by omega);have u2:=up_le (a:=ph.toNat) (b:=(d:Int).toNat) (c:=n.toNat) (by omega) (by omega);simp only [Int.toNat_natCast] at u1 u2⊢;generalize pl.toNat*d / n.toNat=u at u1⊢;generalize upV ph.toNat d n.toNat=v at u2⊢;omega
theorem gap_Most_no (w:World) (g1 K1 l1 g2 K2 l2:Nat) (k1 k2:Int) (r1 r2:List Nd) (F1 F2:Nat→Prop) (d:Int) (h1:DigAt w g1 K1 l1 k1 r1 F1) (h2:DigAt w g2 K2 l2 k2 r2 F2) (he:gapMostErr l1 l2 r1 r2 d≠0) :
 Calls Tryz.prog 42 #[.pointer (some ⟨g1,0,none⟩),.pointer (some ⟨g2,0,none⟩),.int .i64 d] w fun e w'=>e=.returned (.tuple #[.agg #[.int .i64 (gapMostT l1 l2 r1 r2 d).1,.int .i64 (gapMostT l1 l2 r1 r2 d).2],.int .i64 (gapMostErr l1 l2 r1 r2 d)])∧Below w.heap.size w w':=by
 have hs:gapMostT l1 l2 r1 r2 d= (0,0):=by unfold gapMostT;rw [if_neg he]
 rw [hs];have HW:=LH (gap_wrong _ g1 K1 l1 g2 K2 l2 k1 k2 r1 r2 F1 F2 ((h1.alloc (.cells #[.int .i64 d] 3)).alloc (.cells #[.int .i64 0,.int .i64 0] 47)) ((h2.alloc (.cells #[.int .i64 d] 3)).alloc (.cells #[.int .i64 0,.int .i64 0] 47)));have kd:=(heap_new_lt (w.alloc (.cells #[.int .i64 d] 3)) (.cells #[.int .i64 0,.int .i64 0] 47) w.heap.size (by simp)).trans (heap_alloc_new w (.cells #[.int .i64 d] 3));have kr:bothAt ((w.alloc (.cells #[.int .i64 d] 3)).alloc (.cells #[.int .i64 0,.int .i64 0] 47)) (w.heap.size+1) 0 0:=heap_new_at (w.alloc (.cells #[.int .i64 d] 3)) (.cells #[.int .i64 0,.int .i64 0] 47) (w.heap.size+1) (by simp);have KD:=LH kd;have KR:=LH kr
 have hcase: (∃er:Int,gapErr l1 l2 r1 r2=er∧¬er=0∧gapMostErr l1 l2 r1 r2 d=er)∨(gapErr l1 l2 r1 r2=0∧d<1∧gapMostErr l1 l2 r1 r2 d=2):=by
  unfold gapMostErr at he⊢;by_cases c1:gapErr l1 l2 r1 r2=0
  ·rw [if_pos c1] at he⊢
   by_cases c2:d<1
   ·exact .inr ⟨c1,c2,by rw [if_pos c2]⟩
   ·rw [if_neg c2] at he;exact absurd rfl he
  ·rw [if_neg c1]
   exact .inl ⟨_,rfl,c1,rfl⟩
 clear hs he h1 h2 kd kr;rcases hcase with ⟨er,f1,f2,f3⟩ | ⟨f1,f2,f3⟩
 ·rw [f1] at HW
  rw [f3];have hne: (er == 0) =false:=by simpa using f2
  have hne2: (er != 0) =true:=by simpa using f2
  clear f1 f3;refine(callsIn_wide (n:=3)).1 ?_;refine callsIn_of_wp_marks Tryz.func42 rfl trivial ?_ rfl;simp only [Tryz.ntmps42,List.size_toArray,List.length_cons,List.length_nil,Nat.reduceAdd,Nat.reduceSub,Array.replicate_succ,Array.replicate_zero,List.push_toArray,List.append_toArray,List.nil_append,List.cons_append]
  gi_wp2_with fail
  refine⟨trivial,?_⟩;refine(callsIn_wide.2 HW.out).mono ?_;rintro e w1 ⟨rfl,hb1⟩;have B1:Below w.heap.size w w1:=Below.then_ bE hb1;have kd1:=bB KD.out hb1;have kr1:=KR.out.below hb1;have c0:=bC kd1;have z0:=lB kd1;have c1:=bC kr1;have z1:=lB kr1;have e1:=bF kr1;have R2:=LH ((kr1.set0 0).set1 0);have B2:=LH ((B1.setCell (p:=⟨w.heap.size+1,0,none⟩) (by simp) (.int .i64 0)).setCell (p:=⟨w.heap.size+1,1,none⟩) (by simp) (.int .i64 0));clear hb1 kd1 kr1
  gi_wp2_with fail
  generalize (w1.setCell ⟨w.heap.size+1,0,none⟩ (.int .i64 0)).setCell ⟨w.heap.size+1,1,none⟩ (.int .i64 0) =W2 at R2 B2⊢;have d0:=bC R2.out 0;have d1:=bC R2.out 1;exact⟨.tuple #[.agg #[.int .i64 0,.int .i64 0],.int .i64 er],by(simp only [results,Tryz.f42];go_simp),rfl,B2.out⟩
 ·rw [f1] at HW
  rw [f3];clear f1 f3;refine(callsIn_wide (n:=3)).1 ?_;refine callsIn_of_wp_marks Tryz.func42 rfl trivial ?_ rfl;simp only [Tryz.ntmps42,List.size_toArray,List.length_cons,List.length_nil,Nat.reduceAdd,Nat.reduceSub,Array.replicate_succ,Array.replicate_zero,List.push_toArray,List.append_toArray,List.nil_append,List.cons_append]
  gi_wp2_with fail
  refine⟨trivial,?_⟩;refine(callsIn_wide.2 HW.out).mono ?_;rintro e w1 ⟨rfl,hb1⟩;have B1:Below w.heap.size w w1:=Below.then_ bE hb1;have kd1:=bB KD.out hb1;have kr1:=KR.out.below hb1;have c0:=bC kd1;have z0:=lB kd1;have c1:=bC kr1;have z1:=lB kr1;have e1:=bF kr1;have R2:=LH ((kr1.set0 0).set1 0);have B2:=LH ((B1.setCell (p:=⟨w.heap.size+1,0,none⟩) (by simp) (.int .i64 0)).setCell (p:=⟨w.heap.size+1,1,none⟩) (by simp) (.int .i64 0));clear hb1 kd1 kr1
  gi_wp2_with fail
  generalize (w1.setCell ⟨w.heap.size+1,0,none⟩ (.int .i64 0)).setCell ⟨w.heap.size+1,1,none⟩ (.int .i64 0) =W2 at R2 B2⊢;have d0:=bC R2.out 0;have d1:=bC R2.out 1;exact⟨.tuple #[.agg #[.int .i64 0,.int .i64 0],.int .i64 2],by(simp only [results,Tryz.f42];go_simp),rfl,B2.out⟩
end
section
attribute [local go_sem] Oper.semAt_some
structure MoI (bw bo bt t1 t2 L1 B1 L2 B2:Nat) (d n m:Int) (lt1 ft1 lt2 ft2:List Nd) (W:World) :Prop where
 d:W.heap[bw]? =some (.cells #[.int .i64 d] 3 (0,0))
 r:bothAt W (bw+1) 0 0
 f:W.heap[bo+1]? =some (.cells #[.func (.func 79) #[] #[.pointer (some ⟨bo,0,none⟩)]] 144 (0,0))
 t:W.heap[bt]? =some (.cells #[.pointer (some ⟨t1,0,none⟩)] 145 (0,0))
 u:W.heap[bt+1]? =some (.cells #[.pointer (some ⟨t2,0,none⟩)] 145 (0,0))
 tab1:TabAt W L1 B1 t1 n lt1 ft1
 tab2:TabAt W L2 B2 t2 m lt2 ft2
section
variable {bw bo bt t1 t2 L1 B1 L2 B2:Nat} {d n m:Int} {lt1 ft1 lt2 ft2:List Nd} {W W':World}
theorem MoI.below (h:MoI bw bo bt t1 t2 L1 B1 L2 B2 d n m lt1 ft1 lt2 ft2 W) (hb:Below W.heap.size W W') (h1:B1≤W.heap.size) (h2:B2≤W.heap.size) :MoI bw bo bt t1 t2 L1 B1 L2 B2 d n m lt1 ft1 lt2 ft2 W':=
 ⟨bB h.d hb,h.r.below hb,bB h.f hb,bB h.t hb,bB h.u hb,h.tab1.below (hb.mono h1),h.tab2.below (hb.mono h2)⟩
theorem MoI.grown {row:Option Nat} (h:MoI bw bo bt t1 t2 L1 B1 L2 B2 d n m lt1 ft1 lt2 ft2 W) (hg:W.grownBy W' row) (hr: ∀r,row=some r→∃o:Obj,W.heap[r]? =some o∧o.isCells=false) :MoI bw bo bt t1 t2 L1 B1 L2 B2 d n m lt1 ft1 lt2 ft2 W':=
 ⟨row_grown h.d hg hr,row_grown h.r hg hr,row_grown h.f hg hr,row_grown h.t hg hr,row_grown h.u hg hr,tab_grown h.tab1 hg hr,tab_grown h.tab2 hg hr⟩
theorem MoI.set (h:MoI bw bo bt t1 t2 L1 B1 L2 B2 d n m lt1 ft1 lt2 ft2 W) {o:Nat} {v:Value} (h0:bw+1<bo) (h1:bo+1<bt) (h2:bo<L1) (h3:bo<L2) :MoI bw bo bt t1 t2 L1 B1 L2 B2 d n m lt1 ft1 lt2 ft2 (W.setCell ⟨bo,o,none⟩ v):=
 ⟨(Below.heap_setCell _ _ _ _ (show bw≠bo by omega)).trans h.d,(Below.heap_setCell _ _ _ _ (show bw+1≠bo by omega)).trans h.r,(Below.heap_setCell _ _ _ _ (show bo+1≠bo by omega)).trans h.f,(Below.heap_setCell _ _ _ _ (show bt≠bo by omega)).trans h.t,(Below.heap_setCell _ _ _ _ (show bt+1≠bo by omega)).trans h.u,h.tab1.set h2 v,h.tab2.set h3 v⟩
end
theorem gap_Most_yes (w:World) (g1 K1 l g2 K2 d:Nat) (k1 k2:Int) (r1 r2:List Nd) (F1 F2:Nat→Prop) (h1:DigAt w g1 K1 l k1 r1 F1) (h2:DigAt w g2 K2 l k2 r2 F2) (m1:r1.length≤67108864) (m2:r2.length≤67108864) (he:gapErr l l r1 r2=0) (hd:1≤d) (hd2:d≤9223372036854775807) :
 Calls Tryz.prog 42 #[.pointer (some ⟨g1,0,none⟩),.pointer (some ⟨g2,0,none⟩),.int .i64 d] w fun e w'=>e=.returned (.tuple #[.agg #[.int .i64 (gapFold l d r1 r2 (gapE l r1 r2)).1,.int .i64 (gapFold l d r1 r2 (gapE l r1 r2)).2],.int .i64 0])∧Below w.heap.size w w':=by
 have hsum:sumR r1≠0∧sumR r2≠0:=by
  unfold gapErr at he;rw [if_neg (not_not_intro rfl)] at he;by_cases c:sumR r1=0∨sumR r2=0
  ·rw [if_pos c] at he;cases he
  ·exact⟨fun h=>c (.inl h),fun h=>c (.inr h)⟩
 have D1:=LH ((h1.alloc (.cells #[.int .i64 d] 3)).alloc (.cells #[.int .i64 0,.int .i64 0] 47));have D2:=LH ((h2.alloc (.cells #[.int .i64 d] 3)).alloc (.cells #[.int .i64 0,.int .i64 0] 47));have HW:=LH (gap_wrong _ g1 K1 l g2 K2 l k1 k2 r1 r2 F1 F2 D1.out D2.out);rw [he] at HW;have kd:=(heap_new_lt (w.alloc (.cells #[.int .i64 d] 3)) (.cells #[.int .i64 0,.int .i64 0] 47) w.heap.size (by simp)).trans (heap_alloc_new w (.cells #[.int .i64 d] 3));have kr:bothAt ((w.alloc (.cells #[.int .i64 d] 3)).alloc (.cells #[.int .i64 0,.int .i64 0] 47)) (w.heap.size+1) 0 0:=heap_new_at (w.alloc (.cells #[.int .i64 d] 3)) (.cells #[.int .i64 0,.int .i64 0] 47) (w.heap.size+1) (by simp);have KD:=LH kd;have KR:=LH kr;have fit1:=h1.fits;have fit2:=h2.fits;have n1:=sumR_nonneg fit1.roll;have n2:=sumR_nonneg fit2.roll;have SUM:Hid (1≤sumR r1∧1≤sumR r2):=LH ⟨by omega,by omega⟩;have FIT:=LH (And.intro fit1 fit2);have HGE:=LH (gapE_len l r1 r2);have hd1:decide ((d:Int) <1) =false:=by simp;omega
 clear he h1 h2 fit1 fit2 kd kr hsum n1 n2;refine(callsIn_wide (n:=3)).1 ?_;refine callsIn_of_wp_marks Tryz.func42 rfl trivial ?_ rfl;simp only [Tryz.ntmps42,List.size_toArray,List.length_cons,List.length_nil,Nat.reduceAdd,Nat.reduceSub,Array.replicate_succ,Array.replicate_zero,List.push_toArray,List.append_toArray,List.nil_append,List.cons_append]
 gi_wp2_with fail
 refine⟨trivial,?_⟩;refine(callsIn_wide.2 HW.out).mono ?_;rintro e w1 ⟨rfl,hb1⟩;have B1:Below w.heap.size w w1:=Below.then_ bE hb1;have kd1:=bB KD.out hb1;have c0:=bC kd1;have z0:=lB kd1;have KD1:=LH kd1;have KR1:=LH (KR.out.below hb1);have E1:=LH (D1.out.below hb1);have E2:=LH (D2.out.below hb1);have s1:w.heap.size+2≤w1.heap.size:=by have:=hb1.size;simp at this;omega
 clear hb1 HW D1 D2 KD KR kd1
 gi_wp2_with fail
 have BA:Below w1.heap.size w1 ((w1.alloc (.cells #[.int .i64 0,.int .i64 0] 47)).alloc (.cells #[.func (.func 79) #[] #[.pointer (some ⟨w1.heap.size,0,none⟩)]] 144)):=((Below.refl w1.heap.size w1).alloc (Nat.le_refl _) _).alloc (by simp) _;have ko:bothAt ((w1.alloc (.cells #[.int .i64 0,.int .i64 0] 47)).alloc (.cells #[.func (.func 79) #[] #[.pointer (some ⟨w1.heap.size,0,none⟩)]] 144)) w1.heap.size 0 0:=(heap_new_lt (w1.alloc (.cells #[.int .i64 0,.int .i64 0] 47)) (.cells #[.func (.func 79) #[] #[.pointer (some ⟨w1.heap.size,0,none⟩)]] 144) w1.heap.size (by simp)).trans (heap_alloc_new w1 (.cells #[.int .i64 0,.int .i64 0] 47));have kf:=heap_new_at (w1.alloc (.cells #[.int .i64 0,.int .i64 0] 47)) (.cells #[.func (.func 79) #[] #[.pointer (some ⟨w1.heap.size,0,none⟩)]] 144) (w1.heap.size+1) (by simp);have KO:=LH ko;have KF:=LH kf;have KD2:=LH (bB KD1.out BA);have KR2:=LH (KR1.out.below BA);have G1:=LH (E1.out.below BA);have G2:=LH (E2.out.below BA);have BV:=LH (B1.trans (BA.mono B1.size));have sV:w1.heap.size+2≤((w1.alloc (.cells #[.int .i64 0,.int .i64 0] 47)).alloc (.cells #[.func (.func 79) #[] #[.pointer (some ⟨w1.heap.size,0,none⟩)]] 144)).heap.size:=by simp
 clear BA ko kf KD1 KR1 E1 E2 c0 z0;generalize (w1.alloc (.cells #[.int .i64 0,.int .i64 0] 47)).alloc (.cells #[.func (.func 79) #[] #[.pointer (some ⟨w1.heap.size,0,none⟩)]] 144) =V1 at KO KF KD2 KR2 G1 G2 BV sV⊢;refine⟨trivial,?_⟩;refine(callsIn_wide.2 (rank_Of _ g1 K1 l k1 r1 F1 G1.out m1)).mono ?_;rintro e w2 ⟨t1,lt1,ft1,rfl,htab1,htl1,htf1,hl1,hl1',hb2⟩;have B2:=LH (BV.out.trans (hb2.mono BV.out.size));have T1:=LH htab1;have HT1:=LH (And.intro htl1 (And.intro htf1 (And.intro hl1 hl1')));have s2:=hb2.size;have HB2:=LH hb2;clear hb2 htab1 htl1 htf1 hl1 hl1'
 gi_wp2_with fail
 refine⟨trivial,?_⟩;refine(callsIn_wide.2 (rank_Of _ g2 K2 l k2 r2 F2 (G2.out.below HB2.out) m2)).mono ?_;rintro e w3 ⟨t2,lt2,ft2,rfl,htab2,htl2,htf2,hl2,hl2',hb3⟩;have B3:=B2.out.trans (hb3.mono B2.out.size);have s3:=hb3.size;have BB3:=HB2.out.trans (hb3.mono s2);have KO3:=LH (KO.out.below BB3);have KF3:=LH (bB KF.out BB3);have KD3:=LH (bB KD2.out BB3);have KR3:=LH (KR2.out.below BB3);have J1:=LH (G1.out.below BB3);have J2:=LH (G2.out.below BB3);have U1:=LH (T1.out.below hb3);have U2:=LH htab2;have HT2:=LH (And.intro htl2 (And.intro htf2 (And.intro hl2 hl2')));clear hb3 htab2 htl2 htf2 hl2 hl2' G1 G2 T1 KO KF KD2 KR2 BB3 HB2 B2 BV B1
 gi_wp2_with fail
 have BA:Below w3.heap.size w3 (((w3.alloc (.cells #[.pointer (some ⟨t1,0,none⟩)] 145)).alloc (.cells #[.pointer (some ⟨t2,0,none⟩)] 145)).alloc (.cells #[.pointer (some ⟨g1,0,none⟩),.pointer (some ⟨g2,0,none⟩)] 35)):=((((Below.refl w3.heap.size w3).alloc (Nat.le_refl _) _).alloc (by simp) _).alloc (by simp;omega) _);have kt:=(heap_new_lt ((w3.alloc (.cells #[.pointer (some ⟨t1,0,none⟩)] 145)).alloc (.cells #[.pointer (some ⟨t2,0,none⟩)] 145)) (.cells #[.pointer (some ⟨g1,0,none⟩),.pointer (some ⟨g2,0,none⟩)] 35) w3.heap.size (by simp;omega)).trans ((heap_new_lt (w3.alloc (.cells #[.pointer (some ⟨t1,0,none⟩)] 145)) (.cells #[.pointer (some ⟨t2,0,none⟩)] 145) w3.heap.size (by simp)).trans (heap_alloc_new w3 (.cells #[.pointer (some ⟨t1,0,none⟩)] 145)));have ku:=(heap_new_lt ((w3.alloc (.cells #[.pointer (some ⟨t1,0,none⟩)] 145)).alloc (.cells #[.pointer (some ⟨t2,0,none⟩)] 145)) (.cells #[.pointer (some ⟨g1,0,none⟩),.pointer (some ⟨g2,0,none⟩)] 35) (w3.heap.size+1) (by simp)).trans (heap_new_at (w3.alloc (.cells #[.pointer (some ⟨t1,0,none⟩)] 145)) (.cells #[.pointer (some ⟨t2,0,none⟩)] 145) (w3.heap.size+1) (by simp));have ks:=heap_new_at ((w3.alloc (.cells #[.pointer (some ⟨t1,0,none⟩)] 145)).alloc (.cells #[.pointer (some ⟨t2,0,none⟩)] 145)) (.cells #[.pointer (some ⟨g1,0,none⟩),.pointer (some ⟨g2,0,none⟩)] 35) (w3.heap.size+1+1) (by simp)
 have I4:MoI w.heap.size w1.heap.size w3.heap.size t1 t2 V1.heap.size w2.heap.size w2.heap.size w3.heap.size d (sumR r1) (sumR r2) lt1 ft1 lt2 ft2 (((w3.alloc (.cells #[.pointer (some ⟨t1,0,none⟩)] 145)).alloc (.cells #[.pointer (some ⟨t2,0,none⟩)] 145)).alloc (.cells #[.pointer (some ⟨g1,0,none⟩),.pointer (some ⟨g2,0,none⟩)] 35)):=
  ⟨bB KD3.out BA,KR3.out.below BA,bB KF3.out BA,kt,ku,U1.out.below (BA.mono s3),U2.out.below BA⟩
 have II:=LH I4;have OO:=LH (KO3.out.below BA);have KS:=LH ks;have M1:=LH (J1.out.below BA);have M2:=LH (J2.out.below BA);have BB:=LH (B3.trans (BA.mono B3.size));have sA:=BA.size;have sA3:w3.heap.size+3≤(((w3.alloc (.cells #[.pointer (some ⟨t1,0,none⟩)] 145)).alloc (.cells #[.pointer (some ⟨t2,0,none⟩)] 145)).alloc (.cells #[.pointer (some ⟨g1,0,none⟩),.pointer (some ⟨g2,0,none⟩)] 35)).heap.size:=by simp
 clear BA kt ku ks I4 J1 J2 U1 U2 KO3 KF3 KD3 KR3 B3;generalize ((w3.alloc (.cells #[.pointer (some ⟨t1,0,none⟩)] 145)).alloc (.cells #[.pointer (some ⟨t2,0,none⟩)] 145)).alloc (.cells #[.pointer (some ⟨g1,0,none⟩),.pointer (some ⟨g2,0,none⟩)] 35) =W4 at II OO KS M1 M2 BB sA sA3⊢;refine⟨trivial,?_⟩;refine(callsIn_wide.2 (gap_ends _ (w3.heap.size+1+1) g1 g2 K1 K2 l k1 k2 r1 r2 F1 F2 KS.out M1.out M2.out m1 m2)).mono ?_;rintro e w5 ⟨b,A,cap,L,rfl,hb0,kb,ho,hrise,hle,hb5⟩;have I5:=LH (II.out.below hb5 (by omega) (by omega));have O5:=LH (OO.out.below hb5);have BB5:=LH (BB.out.trans (hb5.mono BB.out.size));have KB:=LH kb;have zb:=lB kb;have SX:=LH (SlX.own (z:=w5.heap.size) (X:=fun b=>b=w1.heap.size) ho (Nat.le_refl _) (fun c hc=>by omega));have HR:=LH hrise;have hL:L.length≤1000000000000:=by rw [HGE.out] at hle;omega
 have s5:=hb5.size;clear kb ho hrise hle hb5 II OO KS M1 M2 BB
 gi_wp2_with fail
 have hKB:=LH (fun (W:World) (q:Nat) (o o':Obj) (h:W.heap[q]? =some o) (hc:o.isCells=false)=>keepX_b (z:=w5.heap.size) (X:=fun b=>b=w1.heap.size) W q o o' h hc)
 have HP1:Hid (∀(x:Int) (W:World),MoI w.heap.size w1.heap.size w3.heap.size t1 t2 V1.heap.size w2.heap.size w2.heap.size w3.heap.size d (sumR r1) (sumR r2) lt1 ft1 lt2 ft2 W→Calls Tryz.prog 82 #[.pointer (some ⟨t1,0,none⟩),.int .i64 x,.int .i64 d] W fun e w'=>e=.returned (.tuple #[.int .i64 (downV (sumR r1) d (lowOf l r1 x)),.int .i64 (upP (sumR r1) d (highOf l r1 x))])∧Below W.heap.size W w'):=LH fun x W h=>by
  have hz:=lB h.t;obtain⟨q1,q2,q3,q4⟩:=HT1.out;exact gap_parts_of x d h.tab1 (by omega) q1 q2 (by omega) (by omega) FIT.out.1 SUM.out.1 hd2
 have HP2:Hid (∀(x:Int) (W:World),MoI w.heap.size w1.heap.size w3.heap.size t1 t2 V1.heap.size w2.heap.size w2.heap.size w3.heap.size d (sumR r1) (sumR r2) lt1 ft1 lt2 ft2 W→Calls Tryz.prog 82 #[.pointer (some ⟨t2,0,none⟩),.int .i64 x,.int .i64 d] W fun e w'=>e=.returned (.tuple #[.int .i64 (downV (sumR r2) d (lowOf l r2 x)),.int .i64 (upP (sumR r2) d (highOf l r2 x))])∧Below W.heap.size W w'):=LH fun x W h=>by
  have hz:=lB h.t;obtain⟨q1,q2,q3,q4⟩:=HT2.out;exact gap_parts_of x d h.tab2 (by omega) q1 q2 (by omega) (by omega) FIT.out.2 SUM.out.2 hd2
 have HPR:=LH (fun x=>And.intro (parts_range (d:=d) SUM.out.1 (low_range (l:=l) FIT.out.1.roll x) (high_range' (l:=l) FIT.out.1.roll x)) (parts_range (d:=d) SUM.out.2 (low_range (l:=l) FIT.out.2.roll x) (high_range' (l:=l) FIT.out.2.roll x)));clear HT1 HT2 FIT HGE SUM
 refine wpIn_rangeFunc_ownG rfl (by decide) (gf:=130) (lb:= #[.pointer (some ⟨b,0,none⟩)]) rfl trivial (enters_of Tryz.func130 (by kernel_rfl) rfl)
  (ends_stops (3 - 1) b w5.heap.size (fun b=>b=w1.heap.size) A cap L w5 (by decide) (Nat.le_refl _) KB.out SX.out zb (fun h=>by omega) hL)
  keepX_t (fun W q o o' _ h hc _=>hKB.out W q o o' h hc) (Below.refl _ _) (fun _=>rfl)
  (fun pre W=>(MoI w.heap.size w1.heap.size w3.heap.size t1 t2 V1.heap.size w2.heap.size w2.heap.size w3.heap.size d (sumR r1) (sumR r2) lt1 ft1 lt2 ft2 W∧bothAt W w1.heap.size (gapFold l d r1 r2 pre).1 (gapFold l d r1 r2 pre).2)∧Below w.heap.size w W)
  (fun _ _ _=>False)
  (OwnFrom.and (Go.Own.from (fun s A B row hs hg hr=>⟨hs.1.grown hg hr,row_grown hs.2 hg hr⟩) _) (ownFrom_below (Nat.le_refl _) (by have:=BB5.out.size;omega)))
  (fun c=>fun _ _ _ _ hs _ _=>hs)
  ⟨⟨I5.out,O5.out⟩,BB5.out⟩
  (fun x=>{tmps:= #[.pointer (some ⟨g1,0,none⟩),.pointer (some ⟨g2,0,none⟩),.int .i64 d,undef,undef,.pointer (some ⟨w.heap.size,0,none⟩),.pointer (some ⟨w.heap.size+1,0,none⟩),.int .i64 0,.int .i64 0,.pointer (some ⟨w1.heap.size,0,none⟩),.pointer (some ⟨w1.heap.size+1,0,none⟩),.pointer (some ⟨w3.heap.size,0,none⟩),.pointer (some ⟨w3.heap.size+1,0,none⟩),.int .i64 x,undef,undef,undef,undef,.pointer (some ⟨g1,0,none⟩),.pointer (some ⟨g2,0,none⟩),.int .i64 0,.int .i64 0,.bool true,.bool true,.int .i64 d,.bool false,.bool false,.int .i64 0,.bool false,undef,undef,.func (.func 79) #[] #[.pointer (some ⟨w1.heap.size,0,none⟩)],.pointer (some ⟨g1,0,none⟩),.pointer (some ⟨t1,0,none⟩),.pointer (some ⟨g2,0,none⟩),.pointer (some ⟨t2,0,none⟩),.pointer (some ⟨g1,0,none⟩),.pointer (some ⟨g2,0,none⟩),.slice (some ⟨w3.heap.size+1+1,0,none⟩) 2 2,.func (.func 130) #[] #[.pointer (some ⟨b,0,none⟩)],.int .i64 x,undef,undef,undef,undef,undef,undef,undef,undef,undef,undef,undef,undef,undef,undef,undef,undef,undef,undef,undef,undef,undef,undef,undef,undef,undef,undef,undef,undef,undef,undef,undef],defers:= []}) ?assign ?body ?done ?stop
 case assign=>
  intro q x W Kc hK
  gi_wp2
  exact hK
 case body=>
  rintro q pre x W ⟨⟨hI,hO⟩,hB⟩ _;have HI:=LH hI;have HO:=LH hO;have HB:=LH hB;have ct:=bC hI.t;have cd:=bC hI.d;have zt:=lB hI.t;have zd:=lB hI.d;have h1:=LH (HP1.out x);have h2:=LH (HP2.out x);have hsn:=gapFold_snoc l d r1 r2 pre x;have hst: ∀o:Int×Int,gapStep l d r1 r2 o x= (max (max o.1 (downV (sumR r1) d (lowOf l r1 x) - upP (sumR r2) d (highOf l r2 x))) (downV (sumR r2) d (lowOf l r2 x) - upP (sumR r1) d (highOf l r1 x)),max (max o.2 (upP (sumR r1) d (highOf l r1 x) - downV (sumR r2) d (lowOf l r2 x))) (upP (sumR r2) d (highOf l r2 x) - downV (sumR r1) d (lowOf l r1 x))):=fun o=>rfl;rw [hst] at hsn;have hpr:=HPR.out x;generalize downV (sumR r1) d (lowOf l r1 x) =p at h1 hsn hpr;generalize upP (sumR r1) d (highOf l r1 x) =u at h1 hsn hpr;generalize downV (sumR r2) d (lowOf l r2 x) =r at h2 hsn hpr;generalize upP (sumR r2) d (highOf l r2 x) =s at h2 hsn hpr;have HSN:=LH hsn;generalize gapFold l d r1 r2 pre=o at HSN HO;obtain⟨lo,hi⟩:=o;simp only at HSN HO;clear hI hO hB hsn hst HP1 HP2 HPR
  gi_wp2_with fail
  refine⟨trivial,?_⟩;refine(CallsIn.inRound q (callsIn_wide.2 (h1.out _ HI.out))).mono ?_;rintro e w6 ⟨rfl,hb6⟩;have KF6:=LH ((KeepsOthers.of_grownBy (grownBy_of_below hb6 none) (fun _ _ h=>by cases h)).from w5.heap.size);have KK6:=LH (KeepX.of_below (z:=w5.heap.size) (X:=fun b=>b=w1.heap.size) hb6);have I6:=LH (HI.out.below hb6 (by omega) (by omega));have O6:=LH (HO.out.below hb6);have B6:=LH (HB.out.trans (hb6.mono HB.out.size));have s6:=hb6.size;have cu6:=bC I6.out.u;have cd6:=bC I6.out.d;have zu6:=lB I6.out.u;have zd6:=lB I6.out.d;clear hb6 HI HO HB ct cd
  gi_wp2_with fail
  refine⟨trivial,?_⟩;refine(CallsIn.inRound q (callsIn_wide.2 (h2.out _ I6.out))).mono ?_;rintro e w7 ⟨rfl,hb7⟩;have KF7:=LH (KF6.out.trans ((KeepsOthers.of_grownBy (grownBy_of_below hb7 none) (fun _ _ h=>by cases h)).from w5.heap.size));have KK7:=LH (keepX_t KK6.out (KeepX.of_below (z:=w5.heap.size) (X:=fun b=>b=w1.heap.size) hb7));have I7:=LH (I6.out.below hb7 (by omega) (by omega));have O7:=LH (O6.out.below hb7);have B7:=LH (B6.out.trans (hb7.mono B6.out.size));have cf7:=bC I7.out.f;have zf7:=lB I7.out.f;clear hb7 I6 O6 B6 KF6 KK6 cu6 cd6
  gi_wp2_with fail
  refine⟨trivial,?_⟩;refine(CallsIn.inRound q (callsIn_wide.2 (gap_more w7 w1.heap.size lo hi (p - s) (u - r) O7.out))).mono ?_;rintro e w8 ⟨rfl,hw8⟩;have i8:=(I7.out.set (o:=0) (v:=.int .i64 (max lo (p - s))) (by omega) (by omega) (by omega) (by omega)).set (o:=1) (v:=.int .i64 (max hi (u - r))) (by omega) (by omega) (by omega) (by omega);have o8:=(O7.out.set0 (max lo (p - s))).set1 (max hi (u - r));have b8:=(B7.out.setCell (p:=⟨w1.heap.size,0,none⟩) (by simp only;omega) (.int .i64 (max lo (p - s)))).setCell (p:=⟨w1.heap.size,1,none⟩) (by simp only;omega) (.int .i64 (max hi (u - r)));have kf8:=(KF7.out.trans ((KeepsOthers.setCell w7 ⟨w1.heap.size,0,none⟩ (.int .i64 (max lo (p - s)))).from w5.heap.size)).trans ((KeepsOthers.setCell _ ⟨w1.heap.size,1,none⟩ (.int .i64 (max hi (u - r)))).from w5.heap.size);have kk8:=(KK7.out.set (p:=⟨w1.heap.size,0,none⟩) (.inl rfl) (.int .i64 (max lo (p - s)))).set (p:=⟨w1.heap.size,1,none⟩) (.inl rfl) (.int .i64 (max hi (u - r)));rw [hw8] at i8 o8 b8 kf8 kk8;have I8:=LH i8;have O8:=LH o8;have B8:=LH b8;have KF8:=LH kf8;have KK8:=LH kk8;have cf8:=bC I8.out.f;have zf8:=lB I8.out.f;clear hw8 i8 o8 b8 kf8 kk8 I7 O7 B7 KF7 KK7 cf7 zf7
  gi_wp2_with fail
  refine⟨trivial,?_⟩;refine(CallsIn.inRound q (callsIn_wide.2 (gap_more w8 w1.heap.size (max lo (p - s)) (max hi (u - r)) (r - u) (s - p) O8.out))).mono ?_;rintro e w9 ⟨rfl,hw9⟩;have i9:=(I8.out.set (o:=0) (v:=.int .i64 (max (max lo (p - s)) (r - u))) (by omega) (by omega) (by omega) (by omega)).set (o:=1) (v:=.int .i64 (max (max hi (u - r)) (s - p))) (by omega) (by omega) (by omega) (by omega);have o9:=(O8.out.set0 (max (max lo (p - s)) (r - u))).set1 (max (max hi (u - r)) (s - p));have b9:=(B8.out.setCell (p:=⟨w1.heap.size,0,none⟩) (by simp only;omega) (.int .i64 (max (max lo (p - s)) (r - u)))).setCell (p:=⟨w1.heap.size,1,none⟩) (by simp only;omega) (.int .i64 (max (max hi (u - r)) (s - p)));have kf9:=(KF8.out.trans ((KeepsOthers.setCell w8 ⟨w1.heap.size,0,none⟩ (.int .i64 (max (max lo (p - s)) (r - u)))).from w5.heap.size)).trans ((KeepsOthers.setCell _ ⟨w1.heap.size,1,none⟩ (.int .i64 (max (max hi (u - r)) (s - p)))).from w5.heap.size);have kk9:=(KK8.out.set (p:=⟨w1.heap.size,0,none⟩) (.inl rfl) (.int .i64 (max (max lo (p - s)) (r - u)))).set (p:=⟨w1.heap.size,1,none⟩) (.inl rfl) (.int .i64 (max (max hi (u - r)) (s - p)));rw [hw9] at i9 o9 b9 kf9 kk9;have I9:=LH i9;have O9:=LH o9;have B9:=LH b9;have KF9:=LH kf9;have KK9:=LH kk9;have cf9:=bC I9.out.f;have zf9:=lB I9.out.f;clear hw9 i9 o9 b9 kf9 kk9 I8 O8 B8 KF8 KK8 cf8 zf8
  gi_wp2_with fail
  exact⟨KF9.out,KK9.out,⟨I9.out,by rw [HSN.out];exact O9.out⟩,B9.out⟩
 case done=>
  rintro D ys W hD hys ⟨⟨hI,hO⟩,hB⟩ hK;obtain rfl:ys=L:=hys;have hres:gapFold l d r1 r2 ys=gapFold l d r1 r2 (gapE l r1 r2):=gapFold_rising HR.out;rw [hres] at hO;obtain⟨o,ho⟩ : ∃o,o=gapFold l d r1 r2 (gapE l r1 r2):=⟨_,rfl⟩;rw [←ho] at hO;have HOE:=LH ho;have co:=bC hO;have zo:=lB hO;have cr:=bC hI.r;have fr:=bF hI.r;have zr:=lB hI.r;have R7:=LH ((hI.r.set0 o.1).set1 o.2);have B7:=LH ((hB.setCell (p:=⟨w.heap.size+1,0,none⟩) (by simp) (.int .i64 o.1)).setCell (p:=⟨w.heap.size+1,1,none⟩) (by simp) (.int .i64 o.2));have KO:KeepsOthers W ((W.setCell ⟨w.heap.size+1,0,none⟩ (.int .i64 o.1)).setCell ⟨w.heap.size+1,1,none⟩ (.int .i64 o.2)):=(KeepsOthers.setCell _ _ _).trans (KeepsOthers.setCell _ _ _);have hK':=LH (KO.same D _ hK rfl);have hDw:w.heap.size≤D:=by have:=BB5.out.size;omega
  clear hI hO hB hK KO hres ho
  gi_wp2_with fail
  generalize (W.setCell ⟨w.heap.size+1,0,none⟩ (.int .i64 o.1)).setCell ⟨w.heap.size+1,1,none⟩ (.int .i64 o.2) =W7 at R7 B7 hK'⊢;refine⟨by simp,.inl ⟨_,_,rfl,run_takeDeferred hK'.out,?_⟩⟩;have R8:bothAt (W7.putObj D (.deferred none)) (w.heap.size+1) o.1 o.2:=row_grown R7.out (grownBy_putObj' _ D (.deferred none)) (fun r e=>by cases e;exact⟨_,hK'.out,rfl⟩);have d0:=bC R8 0;have d1:=bC R8 1;exact⟨.tuple #[.agg #[.int .i64 o.1,.int .i64 o.2],.int .i64 0],by(simp only [results,Tryz.f42];go_simp),by rw [HOE.out],B7.out.trans (belowK_b (w:=w) (Nat.le_refl _) W7 D _ _ hDw hK'.out rfl rfl)⟩
 case stop=>
  rintro D c pre W hD hpre h hK;exact h.elim
theorem gap_Most (w:World) (g1 K1 l1 g2 K2 l2:Nat) (k1 k2:Int) (r1 r2:List Nd) (F1 F2:Nat→Prop) (d:Int) (h1:DigAt w g1 K1 l1 k1 r1 F1) (h2:DigAt w g2 K2 l2 k2 r2 F2) (m1:r1.length≤67108864) (m2:r2.length≤67108864) (hd:d≤9223372036854775807) :
 Calls Tryz.prog 42 #[.pointer (some ⟨g1,0,none⟩),.pointer (some ⟨g2,0,none⟩),.int .i64 d] w fun e w'=>e=.returned (.tuple #[.agg #[.int .i64 (gapMostT l1 l2 r1 r2 d).1,.int .i64 (gapMostT l1 l2 r1 r2 d).2],.int .i64 (gapMostErr l1 l2 r1 r2 d)])∧Below w.heap.size w w':=by
 by_cases he:gapMostErr l1 l2 r1 r2 d=0
 ·have h0:gapErr l1 l2 r1 r2=0∧¬d<1:=by
   unfold gapMostErr at he;by_cases c:gapErr l1 l2 r1 r2=0
   ·rw [if_pos c] at he
    by_cases c2:d<1
    ·rw [if_pos c2] at he;cases he
    ·exact⟨c,c2⟩
   ·rw [if_neg c] at he;exact absurd he c
  have hll:=gapErr_ok h0.1;obtain rfl:l1=l2:=by omega
  obtain⟨n,rfl⟩:=Int.eq_ofNat_of_zero_le (show 0≤d by omega);have ht:gapMostT l1 l1 r1 r2 n=gapFold l1 n r1 r2 (gapE l1 r1 r2):=by unfold gapMostT;rw [if_pos he]
  rw [ht,he];exact gap_Most_yes w g1 K1 l1 g2 K2 n k1 k2 r1 r2 F1 F2 h1 h2 m1 m2 h0.1 (by omega) (by omega)
 ·exact gap_Most_no w g1 K1 l1 g2 K2 l2 k1 k2 r1 r2 F1 F2 d h1 h2 he
end
def ShiftPost (l:Nat) (r1 r2:List Nd) (d:Int) (W:World) (e:Ending) (W':World) :Prop:=e=.returned (.tuple #[.agg #[.int .i64 (gapMostT l l r1 r2 d).1,.int .i64 (gapMostT l l r1 r2 d).2],.int .i64 (gapMostErr l l r1 r2 d)])∧Below W.heap.size W W'
theorem sea_Shift (w W:World) (L:EpL) (k:Int) (gs:Nat) (m:EpM) (rs:List RsI) (i:Nat) (d:Int) (x y:RsI) (h:SeaS w L k gs m rs rs W) (h64:rs.length≤64) (hx:rs[i+1]? =some x) (hy:rs[i]? =some y) (hr: ∀x∈rs,x.r.length≤67108864) (hd:d≤9223372036854775807) :
 Calls Tryz.prog 16 #[.pointer (some ⟨gs,0,none⟩),.int .i64 ((i+1:Nat) :Int),.int .i64 d] W (ShiftPost L.l x.r y.r d W):=by
 obtain⟨F,A,cap,h1,h2,h3,h4⟩:=h;have hi1:=(List.getElem?_eq_some_iff.1 hx).1;have hi0:=(List.getElem?_eq_some_iff.1 hy).1;have ex:=(List.getElem?_eq_some_iff.1 hx).2;have ey:=(List.getElem?_eq_some_iff.1 hy).2;obtain⟨b,off,rfl,hb,hc1⟩:=h4.o.sl.at_ hi1;have e1:=hc1 0 (.pointer (some ⟨rs[i+1].g,0,none⟩)) rfl;rw [ex] at e1;obtain⟨b',off',e,_,hc0⟩:=h4.o.sl.at_ hi0
 cases e
 have e0:=hc0 0 (.pointer (some ⟨rs[i].g,0,none⟩)) rfl;rw [ey] at e0;simp only [Nat.add_zero] at e0 e1;obtain⟨Fx,dx,_⟩:=h4.d x (List.mem_of_getElem? hx);obtain⟨Fy,dy,_⟩:=h4.d y (List.mem_of_getElem? hy)
 have HM:Hid (∀W',Below W.heap.size W W'→Calls Tryz.prog 42 #[.pointer (some ⟨x.g,0,none⟩),.pointer (some ⟨y.g,0,none⟩),.int .i64 d] W' fun e W2=>e=.returned (.tuple #[.agg #[.int .i64 (gapMostT L.l L.l x.r y.r d).1,.int .i64 (gapMostT L.l L.l x.r y.r d).2],.int .i64 (gapMostErr L.l L.l x.r y.r d)])∧Below W'.heap.size W' W2):=LH fun W' hb'=>
  gap_Most W' x.g L.K L.l y.g L.K L.l k k x.r y.r Fx Fy d (dx.below hb') (dy.below hb') (hr x (List.mem_of_getElem? hx)) (hr y (List.mem_of_getElem? hy)) hd
 have hal:=(Below.refl W.heap.size W).alloc (Nat.le_refl _) (.cells #[.int .i64 0,.int .i64 0] 47);have X0:=LH (bB h4.xs hal);have Y0:=LH (heap_alloc_new W (.cells #[.int .i64 0,.int .i64 0] 47));have BA:=LH hal;have k1:=(hal.cell (p:=⟨b,off+ (i+1) *2,none⟩) hb).trans e1;have k0:=(hal.cell (p:=⟨b,off+i*2,none⟩) hb).trans e0;have zb:b< (W.alloc (.cells #[.int .i64 0,.int .i64 0] 47)).heap.size:=Nat.lt_of_lt_of_le hb hal.size;have l1:decide (((i+1:Nat) :Int) <1) =false:=by simp;omega
 have l2:decide ((rs.length:Int)≤((i+1:Nat) :Int)) =false:=by simp;omega
 have l3: ¬(rs.length:Int)≤(i:Int) +1:=by omega
 have l4: ¬(i:Int) +1<1:=by omega
 have l5:i+1<rs.length:=hi1;have l6:i<rs.length:=hi0;have l7: (0:Int)≤(i:Int) +1:=by omega
 have l8: (i:Int) +1< (rs.length:Int):=by omega
 have l9: (0:Int)≤(i:Int):=by omega
 have l10: (i:Int) < (rs.length:Int):=by omega
 have l11: ((i:Int) +1).toNat=i+1:=by omega
 have l12: ¬rs.length≤i:=by omega
 have l13: ¬rs.length≤i+1:=by omega
 have l14: ¬(rs.length:Int)≤(i:Int):=by omega
 have w1:wrap64 (((i+1:Nat) :Int) - 1) = (i:Int):=by unfold wrap64;omega
 have w2:wrap64 ((i:Int) +1 - 1) = (i:Int):=by unfold wrap64;omega
 have w3:wrap64 (i:Int) = (i:Int):=by unfold wrap64;omega
 have w4:IntKind.i64.wrap (i:Int) = (i:Int):=by rw [IntKind.wrap_i64];omega
 obtain⟨pt,hpt⟩ : ∃p,p=W.heap.size:=⟨_,rfl⟩;have HPt:Hid (W.heap.size≤pt):=LH (by omega);unfold ShiftPost;clear h1 h2 h3 h4 hx hy hr hd ex ey hc1 hc0 e1 e0 dx dy hal hb h64 hi0 hi1;generalize (gapMostT L.l L.l x.r y.r d).1=u at*;generalize (gapMostT L.l L.l x.r y.r d).2=v at*;generalize gapMostErr L.l L.l x.r y.r d=er at*
 go_enter Tryz.func16,Tryz.ntmps16
 go_upto_region 1 with fail;rw [←hpt] at Y0⊢;clear hpt;generalize W.alloc (.cells #[.int .i64 0,.int .i64 0] 47) =w0 at X0 Y0 BA k1 k0 zb⊢;have cc:=bC X0.out;have zc:=lB X0.out;have cy:=bC Y0.out;have fy:=bF Y0.out;have zy:=lB Y0.out;go_upto_region 5 with fail;have x1:w0.cell? ⟨gs,1,none⟩ =some (.slice (some ⟨b,off,none⟩) rs.length cap):=cc 1;clear cc
 go_region_with (first
  | (go_at_call 42;refine(HM.out _ (Below.then_ BA.out (Below.drew (Below.refl _ _)))).mono ?_;rintro e w8 ⟨rfl,hb8⟩
     have hb9:Below w0.heap.size w0 w8:=(Below.drew (Below.refl _ _)).trans hb8;have Y9:=bB Y0.out hb9;have cy2:=bC Y9;have fy2:=bF Y9;have zy2:=lB Y9))
 all_goals
  have B9:Below W.heap.size W ((w8.setCell ⟨pt,0,none⟩ (.int .i64 u)).setCell ⟨pt,1,none⟩ (.int .i64 v)):=Below.setCell (p:=⟨pt,1,none⟩) (Below.setCell (p:=⟨pt,0,none⟩) (Below.then_ BA.out hb9) HPt.out _) HPt.out _;have Z9:=zH (i:=1) (zH (i:=0) Y9 (.int .i64 u)) (.int .i64 v);have BB:=LH B9;have ZZ:=LH Z9;clear cy fy zy x1 zc k1 k0 zb cy2 fy2 zy2 hb8 hb9 Y9 B9 Z9;generalize (w8.setCell ⟨pt,0,none⟩ (.int .i64 u)).setCell ⟨pt,1,none⟩ (.int .i64 v) =w9 at BB ZZ⊢;have cz:=bC ZZ.out;have fz:=bF ZZ.out;have zz:=lB ZZ.out;go_wp2_with fail;exact bR (v:=.tuple #[.agg #[.int .i64 u,.int .i64 v],.int .i64 er]) (by simp only [results,Tryz.results16];go_simp) rfl ⟨rfl,BB.out⟩
theorem tyDg:SliceTy Tryz.prog 89 35 1 8 (.pointer none):=⟨Tryz.underlying89,by kernel_rfl,rfl,by decide⟩
def LstR (W0:World) (pl:Nat) (gl:List Nat) (W:World) :Prop:=∃Al cl,Below W0.heap.size W0 W∧W.heap[pl]? =some (.cells #[.slice Al gl.length cl] 89 (0,0))∧W0.heap.size≤pl∧Own W W0.heap.size 35 encEp (.slice Al gl.length cl) gl
theorem LstR.below {W0 W W':World} {pl:Nat} {gl:List Nat} (h:LstR W0 pl gl W) (hb:Below W.heap.size W W') :LstR W0 pl gl W':=by
 obtain⟨Al,cl,h1,h2,h3,h4⟩:=h;exact⟨Al,cl,Below.then_ h1 hb,bB h2 hb,h3,h4.below hb⟩
theorem win_one (W0 W:World) (pl:Nat) (gl:List Nat) (g c:Nat) (h:LstR W0 pl gl W) (hl:gl.length≤1000) :Calls Tryz.prog 37 #[.agg #[.pointer (some ⟨g,0,none⟩),.int .u64 c],.pointer (some ⟨pl,0,none⟩)] W fun e W'=>e=.returned (.tuple #[])∧LstR W0 pl (gl ++ [g]) W':=by
 obtain⟨Al,cl,h1,h2,h3,h4⟩:=h;have al:=(Below.refl W.heap.size W).alloc (Nat.le_refl _) (.cells #[.pointer (some ⟨g,0,none⟩),.int .u64 c] 79);have X0:=LH (heap_alloc_new W (.cells #[.pointer (some ⟨g,0,none⟩),.int .u64 c] 79));have Y0:=LH (bB h2 al);have O0:=LH (h4.below al);have B0:=LH (Below.then_ h1 al);have HP3:=LH h3;clear h1 h2 h3 h4 al;obtain⟨px,hpx⟩ : ∃p,p=W.heap.size:=⟨_,rfl⟩
 go_enter Tryz.func37,Tryz.ntmps37
 go_upto_region 1 with fail;rw [←hpx] at X0⊢;clear hpx;generalize W.alloc (.cells #[.pointer (some ⟨g,0,none⟩),.int .u64 c] 79) =w0 at X0 Y0 O0 B0⊢;have cx:=bC X0.out;have zx:=lB X0.out;have cy:=bC Y0.out;have fy:=bF Y0.out;have zy:=lB Y0.out;have hsz:=B0.out.size;go_wp2_with ((at_builtin;refine wpList_push tyDg rfl _ _ rfl encEp w0 W0.heap.size _ gl rfl O0.out g (by go_simp) rfl ?c1 ?c2 ?c3 ?c4))
 case c1=>omega
 case c2=>simp [maxLen];omega
 case c3=>exact hsz
 case c4=>
  intro v' w3 ho' hg' _ hv' hb' _;have k3:=(hg'.block pl (lB Y0.out) fun e=>O0.out.ne_block Y0.out (by decide) e.symm).trans Y0.out;obtain⟨A3,cap3,rfl,_⟩:=ho'.form;have el: (gl ++ [g]).length=gl.length+1:=by simp
  rw [el] at ho'⊢;have HFin:Hid (LstR W0 pl (gl ++ [g]) (w3.setCell ⟨pl,0,none⟩ (.slice A3 (gl.length+1) cap3))):=LH ⟨A3,cap3,Below.setCell (p:=⟨pl,0,none⟩) (B0.out.trans hb') HP3.out _,by rw [el];exact zH (i:=0) k3 _,HP3.out,by rw [el];exact ho'.setCell (ho'.ne_block k3 (by decide)) _⟩;clear el;clear cx zx cy fy zy hv' hb' hg' ho';have cc:=bC k3;have fc:=bF k3;have zc:=lB k3;go_wp2_with fail
  go_end0
  exact⟨rfl,HFin.out⟩
theorem sea_last (w W0 W:World) (L:EpL) (k:Int) (gs:Nat) (m:EpM) (rs:List RsI) (pl j n:Nat) (h:SeaS w L k gs m rs rs W0) (hR:LstR W0 pl [] W) (hj:rs.length=j+n) (hn:1≤n) (h64:rs.length≤64) :
 Calls Tryz.prog 36 #[.pointer (some ⟨gs,0,none⟩),.int .i64 n,.func (.func 37) #[] #[.pointer (some ⟨pl,0,none⟩)]] W fun e W'=>e=.returned (.int .i64 0)∧LstR W0 pl ((rs.drop j).map (·.g)) W':=by
 obtain⟨F,A,cap,h1,h2,h3,h4⟩:=h
 have hRb:Below W0.heap.size W0 W:=by
  obtain⟨_,_,q,_⟩:=hR;exact q
 have X0:=LH ((hRb.block gs (lB h4.xs)).trans h4.xs);have hlc:=(h4.o.len_le).2.1;have hlc2:=(h4.o.len_le).2.2;obtain⟨b,off,rfl,hb,_⟩:=h4.o.sl.at_ (show 0<rs.length by omega)
 have HC:Hid (∀i (hi:j+i<rs.length),W0.cell? ⟨b,off+ (j+i) *2,none⟩ =some (.pointer (some ⟨rs[j+i].g,0,none⟩))∧W0.cell? ⟨b,off+ (j+i) *2+1,none⟩ =some (.int .u64 rs[j+i].c)):=LH fun i hi=>by
  obtain⟨b',off',e,_,hcl⟩:=h4.o.sl.at_ hi
  cases e
  have d0:=hcl 0 (.pointer (some ⟨rs[j+i].g,0,none⟩)) rfl;have d1:=hcl 1 (.int .u64 rs[j+i].c) rfl;simp only [Nat.add_zero] at d0;exact⟨d0,d1⟩
 have HBk:Hid (b<W0.heap.size):=LH hb;have HR0:=LH hR;have HJ:=LH (And.intro hj h64);have hne: ¬cap=j:=by omega
 have hw:wrap64 (((j+n:Nat) :Int) - (n:Int)) = (j:Int):=by unfold wrap64;omega
 have l1:decide ((n:Int) <1) =false:=by simp;omega
 have l2:decide (((j+n:Nat) :Int) < (n:Int)) =false:=by simp;omega
 have l3: (0:Int)≤(j:Int):=by omega
 have l4: (j:Int)≤((j+n:Nat) :Int):=by omega
 have l5:j≤j+n:=by omega
 have l6:j+n - j=n:=by omega
 have cc:=bC X0.out;have zc:=lB X0.out;rw [hj] at cc hlc;clear h1 h2 h3 h4 hb hR hRb
 go_enter Tryz.func36,Tryz.ntmps36
 go_upto_region 5 with fail;have x1:W.cell? ⟨gs,1,none⟩ =some (.slice (some ⟨b,off,none⟩) (j+n) cap):=cc 1;have w3:wrap64 (j:Int) = (j:Int):=by unfold wrap64;omega
 have w4:wrap64 ((j:Int) + (n:Int) - (n:Int)) = (j:Int):=by unfold wrap64;omega
 have l7: (j:Int)≤(cap:Int):=by omega
 have l8: (j:Int)≤(j:Int) + (n:Int):=by omega
 have l9: (j:Int) + (n:Int)≤(cap:Int):=by omega
 have l10:j≤cap:=by omega
 go_region
 clear x1 w3 w4 l2 l3 l4 l7 l8 l9 l10 l5 l6 hw hne cc zc l1 hlc hlc2;go_wp2_with fail
 go_loopw [37] (fun i wr=>∃t:Nat,i=.int .i64 t∧t≤n∧LstR W0 pl (((rs.drop j).take t).map (·.g)) wr) (fun i _=>n - (intOf i).toNat)
 case atStart=>exact⟨0,rfl,Nat.zero_le _,by simpa using HR0.out.below (Below.drew (Below.refl _ _))⟩
 case round=>
  obtain⟨t,rfl,ht,hr⟩:=hrel;have KR:=LH hr;by_cases hlt:t<n
  ·have hlr:j+t<rs.length:=by rw [HJ.out.1];omega
   obtain⟨e0,e1⟩:=HC.out t hlr
   have hRb:Below W0.heap.size W0 wr:=by
    obtain⟨_,_,q,_⟩:=hr;exact q
   have d0:=(hRb.cell (p:=⟨b,off+ (j+t) *2,none⟩) HBk.out).trans e0;have d1:=(hRb.cell (p:=⟨b,off+ (j+t) *2+1,none⟩) HBk.out).trans e1;have ea:off+ (j+t) *2=off+j*2+t*2:=by omega
   rw [ea] at d0 d1;have zb:b<wr.heap.size:=by have:=hRb.size;have:=HBk.out;omega
   obtain⟨x,hx⟩ : ∃x,x=rs[j+t]:=⟨_,rfl⟩;rw [←hx] at d0 d1
   have HE:Hid (((rs.drop j).take t).map (·.g) ++ [x.g] = ((rs.drop j).take (t+1)).map (·.g)):=LH (by
    have h1:t< (rs.drop j).length:=by rw [List.length_drop];omega
    rw [List.take_succ_eq_append_getElem h1,List.map_append,List.getElem_drop,hx]
    rfl)
   have HLl:Hid ((((rs.drop j).take t).map (·.g)).length≤1000):=LH (by rw [List.length_map];exact Nat.le_trans (List.length_take_le _ _) (by have:=HJ.out;omega))
   have HW:Hid (∀W,Below wr.heap.size wr W→Calls Tryz.prog 37 #[.agg #[.pointer (some ⟨x.g,0,none⟩),.int .u64 x.c],.pointer (some ⟨pl,0,none⟩)] W fun e W'=>e=.returned (.tuple #[])∧LstR W0 pl (((rs.drop j).take (t+1)).map (·.g)) W'):=LH fun W hb=>by
    have h1:=win_one W0 W pl _ x.g x.c (KR.out.below hb) HLl.out
    rwa [HE.out] at h1
   clear e0 e1 hRb ea hx hr hlr;go_upto_region 8 with fail;clear d0 d1 zb;have cx:=heap_alloc_new wr (.cells #[.pointer (some ⟨x.g,0,none⟩),.int .u64 x.c] 79);have hal:=(Below.refl wr.heap.size wr).alloc (Nat.le_refl _) (.cells #[.pointer (some ⟨x.g,0,none⟩),.int .u64 x.c] 79);have HB:=LH hal;obtain⟨px,hpx⟩ : ∃p,p=wr.heap.size:=⟨_,rfl⟩;have CX:=LH cx;rw [←hpx] at CX⊢;clear hpx cx hal;generalize wr.alloc (.cells #[.pointer (some ⟨x.g,0,none⟩),.int .u64 x.c] 79) =w1 at CX HB⊢;have cx:=bC CX.out;have zx:=lB CX.out;go_wp2_with fail;refine(HW.out _ HB.out).mono ?_;rintro e w2 ⟨rfl,h2⟩;have K2:=LH h2;clear h2 cx zx HW;go_wp2_with fail;go_roundw
   case rel=>exact⟨t+1,by go_num,hlt,K2.out⟩
   case measure=>simp [intOf];omega
  ·obtain rfl:t=n:=by omega
   have HF:Hid (LstR W0 pl ((rs.drop j).map (·.g)) wr):=LH (by
    have: (rs.drop j).take t=rs.drop j:=List.take_of_length_le (by rw [List.length_drop];have:=HJ.out;omega)
    rwa [this] at hr)
   clear hr;go_wp2_with fail;exact bR (v:=.int .i64 0) (by simp only [results,Tryz.results36];go_simp) rfl ⟨rfl,HF.out⟩
structure DI where
 g:Nat
 r:List Nd
 m:List Nd
def accX (xs:List DI) (a:List Nd) :List Nd:=xs.foldl (fun a y=>pourL a y.m) a
def totX:List DI→Int
 | []=>0
 |y :: t=>sumR y.m+totX t
theorem accX_snoc (xs:List DI) (y:DI) (a:List Nd) :accX (xs ++ [y]) a=pourL (accX xs a) y.m:=by simp [accX]
theorem totX_snoc: ∀(xs:List DI) (y:DI),totX (xs ++ [y]) =totX xs+sumR y.m
 | [],y=>by simp [totX]
 |x :: xs,y=>by simp only [List.cons_append,totX,totX_snoc xs y];omega
def AllS (W0:World) (K l:Nat) (k:Int) (p4 p5:Nat) (M:List Nd) (tot:Int) (v:Option Addr) (ev:Int) (W:World) :Prop:=
 Below W0.heap.size W0 W∧W.heap[p4]? =some (.cells #[.pointer v] 35 (0,0))∧W.heap[p5]? =some (.cells #[.int .i64 ev] 23 (0,0))∧W0.heap.size≤p4∧W0.heap.size≤p5∧p4≠p5∧
 ((ev=0∧tot≤72057594037927935∧sumR M=tot∧∃g r F,v=some ⟨g,0,none⟩∧DigAt W g K l k r F∧Held l k r M∧r.length≤33554430)∨(ev=5∧72057594037927935<tot))
section
variable {W0 W W':World} {K l p4 p5:Nat} {k:Int} {M M':List Nd} {tot tot':Int} {v v':Option Addr} {ev ev':Int}
theorem AllS.below (h:AllS W0 K l k p4 p5 M tot v ev W) (hb:Below W.heap.size W W') :AllS W0 K l k p4 p5 M tot v ev W':=by
 obtain⟨h1,h2,h3,h4,h5,h6,h7⟩:=h;refine⟨Below.then_ h1 hb,bB h2 hb,bB h3 hb,h4,h5,h6,?_⟩;rcases h7 with ⟨a,b,c,g,r,F,d,e,f,i⟩ |h7
 ·exact .inl ⟨a,b,c,g,r,F,d,e.below hb,f,i⟩
 ·exact .inr h7
theorem AllS.store (h:AllS W0 K l k p4 p5 M tot v ev W) (h7: (ev'=0∧tot'≤72057594037927935∧sumR M'=tot'∧∃g r F,v'=some ⟨g,0,none⟩∧DigAt W g K l k r F∧Held l k r M'∧r.length≤33554430)∨(ev'=5∧72057594037927935<tot')) :
 AllS W0 K l k p4 p5 M' tot' v' ev' ((W.setCell ⟨p4,0,none⟩ (.pointer v')).setCell ⟨p5,0,none⟩ (.int .i64 ev')):=by
 obtain⟨h1,h2,h3,h4,h5,h6,_⟩:=h;have e4:=zH (i:=0) h2 (.pointer v');refine⟨Below.setCell (p:=⟨p5,0,none⟩) (Below.setCell (p:=⟨p4,0,none⟩) h1 h4 _) h5 _,(Below.heap_setCell _ _ _ _ h6).trans e4,zH (i:=0) ((Below.heap_setCell _ _ _ _ h6.symm).trans h3) _,h4,h5,h6,?_⟩;rcases h7 with ⟨a,b,c,g,r,F,d,e,f,i⟩ |h7
 ·refine .inl ⟨a,b,c,g,r,F,d,e.keep fun q hq=> ?_,f,i⟩
  have n4:q≠p4:=by
   rintro rfl;exact e.not_type (.of h2) (by decide) hq
  have n5:q≠p5:=by
   rintro rfl;exact e.not_type (.of h3) (by decide) hq
  exact(Below.heap_setCell _ _ _ _ n5).trans (Below.heap_setCell _ _ _ _ n4)
 ·exact .inr h7
end
theorem all_one (W0 W:World) (K l p4 p5:Nat) (k:Int) (M:List Nd) (tot:Int) (v:Option Addr) (ev:Int) (y:DI) (h:AllS W0 K l k p4 p5 M tot v ev W) (hl:1≤l∧l≤48) (hk:1≤k∧k≤1048576) (hd: ∃F,DigAt W0 y.g K l k y.r F) (hy:Held l k y.r y.m) (hn:y.r.length≤33554430) :
 Calls Tryz.prog 74 #[.pointer (some ⟨y.g,0,none⟩),.pointer (some ⟨p5,0,none⟩),.pointer (some ⟨p4,0,none⟩)] W fun e W'=>e=.returned (.tuple #[])∧∃v' ev',AllS W0 K l k p4 p5 (pourL M y.m) (tot+sumR y.m) v' ev' W':=by
 have HS:=LH h;obtain⟨h1,h2,h3,h4,h5,h6,h7⟩:=h;have c4:=bC h2;have f4:=bF h2;have z4:=lB h2;have c5:=bC h3;have f5:=bF h3;have z5:=lB h3;have hs0:=hy.bag.sum0;obtain⟨Fy,hdy⟩:=hd;have hdW:=hdy.below h1;rcases h7 with ⟨rfl,ht,hM,g,r,F,rfl,hg,hh,hr⟩ | ⟨rfl,ht⟩
 ·have es:sumR r+sumR y.r=tot+sumR y.m:=by rw [hh.sum,hy.sum,hM]
  by_cases hov:72057594037927935<tot+sumR y.m
  ·have he:blendErr l l r y.r=5:=by unfold blendErr;rw [if_neg (by simp),if_pos (by omega)]
   have hm:=blend_Merge_no W g K l k r F y.g K l k y.r Fy hg hdW (by rw [he];decide);rw [he] at hm;have HM:=LH hm;have HP:Hid (∀W',Below W.heap.size W W'→AllS W0 K l k p4 p5 (pourL M y.m) (tot+sumR y.m) none 5 ((W'.setCell ⟨p4,0,none⟩ (.pointer none)).setCell ⟨p5,0,none⟩ (.int .i64 5))):=LH fun W' hb=>(HS.out.below hb).store (.inr ⟨rfl,hov⟩);have Y4:=LH h2;have Y5:=LH h3;clear h1 h2 h3 h4 h5 hdy hdW hg hh hr es hov he hm ht hM hy;generalize sumR y.m=sy at*
   go_enter Tryz.func74,Tryz.ntmps74
   go_wp2_with fail;refine HM.out.mono ?_;rintro e w1 ⟨rfl,hb1⟩;have HF:=LH (HP.out _ hb1);have X4:=LH (bB Y4.out hb1);have X5:=LH (bB Y5.out hb1);clear hb1 HM HP c4 f4 z4 c5 f5 z5;have c4:=bC X4.out;have f4:=bF X4.out;have z4:=lB X4.out;have c5:=bC X5.out;have f5:=bF X5.out;have z5:=lB X5.out;have h6':=h6.symm;go_wp2_with fail
   go_end0
   exact⟨rfl,none,5,HF.out⟩
  ·have he:blendErr l l r y.r=0:=by unfold blendErr;rw [if_neg (by simp),if_neg (by omega)]
   have hm:=blend_Merge W g K l k r F y.g K k y.r Fy hg hdW hh.light hy.light he hr hn;rw [Int.min_self] at hm;have HM:=LH hm
   have HP:Hid (∀W' g' F' rc,Below W.heap.size W W'→DigAt W' g' K l k rc F'→Joined l k r y.r rc→AllS W0 K l k p4 p5 (pourL M y.m) (tot+sumR y.m) (some ⟨g',0,none⟩) 0 ((W'.setCell ⟨p4,0,none⟩ (.pointer (some ⟨g',0,none⟩))).setCell ⟨p5,0,none⟩ (.int .i64 0))):=LH fun W' g' F' rc hb hdc hj=>by
    have hheld:=hj.held hh hy hk.1 (Int.le_refl _) (Int.le_refl _) (by rw [es];omega);have hrm:=hj.room;refine(HS.out.below hb).store (.inl ⟨rfl,by omega,?_,g',rc,F',rfl,hdc,hheld,by omega⟩);rw [←hheld.sum,hj.sum,es]
   have Y4:=LH h2;have Y5:=LH h3;clear h1 h2 h3 h4 h5 hdy hdW hg hh hr es hov he hm ht hM hy;unfold MergePost at HM;generalize sumR y.m=sy at*
   go_enter Tryz.func74,Tryz.ntmps74
   go_wp2_with fail;refine HM.out.mono ?_;rintro e w1 ⟨g',F',rc,rfl,hdc,_,hj,hb1⟩;have HF:=LH (HP.out _ _ _ _ hb1 hdc hj);have X4:=LH (bB Y4.out hb1);have X5:=LH (bB Y5.out hb1);clear hb1 HM HP c4 f4 z4 c5 f5 z5 hdc hj;have c4:=bC X4.out;have f4:=bF X4.out;have z4:=lB X4.out;have c5:=bC X5.out;have f5:=bF X5.out;have z5:=lB X5.out;have h6':=h6.symm;go_wp2_with fail
   go_end0
   exact⟨rfl,_,0,HF.out⟩
 ·have HF:Hid (AllS W0 K l k p4 p5 (pourL M y.m) (tot+sumR y.m) v 5 W):=LH ⟨h1,h2,h3,h4,h5,h6,.inr ⟨rfl,by omega⟩⟩
  clear h1 h2 h3 h4 h5 hdy hdW hs0 ht hy;generalize sumR y.m=sy at*
  go_enter Tryz.func74,Tryz.ntmps74
  go_wp2_with fail
  go_end0
  exact⟨rfl,v,5,HF.out⟩
def AllPost (K l:Nat) (k:Int) (M:List Nd) (tot:Int) (W:World) (e:Ending) (W':World) :Prop:=∃v ev,e=.returned (.tuple #[.pointer v,.int .i64 ev])∧Below W.heap.size W W'∧
 ((ev=0∧tot≤72057594037927935∧sumR M=tot∧∃g r F,v=some ⟨g,0,none⟩∧DigAt W' g K l k r F∧Held l k r M∧r.length≤33554430)∨(ev=5∧72057594037927935<tot))
theorem blend_All (W:World) (K l:Nat) (k:Int) (A:Option Addr) (cap n:Nat) (x0:DI) (ys:List DI) (hS:Sl W W.heap.size encEp A ((x0 :: ys).map (·.g))) (hn:n=ys.length+1) (hc:n≤cap) (hc2:cap≤maxLen) (h2:1≤ys.length) (h64:ys.length≤64) (hl:1≤l∧l≤48) (hk:1≤k∧k≤1048576)
 (hd: ∀y∈x0 :: ys,(∃F,DigAt W y.g K l k y.r F)∧Held l k y.r y.m∧y.r.length≤33554430) :
 Calls Tryz.prog 38 #[.slice A n cap] W (AllPost K l k (accX ys x0.m) (sumR x0.m+totX ys) W):=by
 obtain⟨b,off,rfl,hb,hc0⟩:=hS.at_ (show 0< ((x0 :: ys).map (·.g)).length by simp);have d0:=hc0 0 (.pointer (some ⟨x0.g,0,none⟩)) rfl;simp only [Nat.add_zero,Nat.zero_mul] at d0
 have HC:Hid (∀t (ht:t<ys.length),W.cell? ⟨b,off+1+t,none⟩ =some (.pointer (some ⟨ys[t].g,0,none⟩))):=LH fun t ht=>by
  obtain⟨b',off',e,_,hcl⟩:=hS.at_ (show t+1< ((x0 :: ys).map (·.g)).length by simpa using ht)
  cases e
  have:=hcl 0 (.pointer (some ⟨ys[t].g,0,none⟩)) (by simp [encEp]);rw [show off+ (t+1) *1+0=off+1+t by omega] at this;exact this
 have HBk:Hid (b<W.heap.size):=LH hb;have HD:=LH hd;have HL:=LH (And.intro hl hk);have HN:=LH (And.intro hn (And.intro h2 h64));obtain⟨⟨F0,hd0⟩,hh0,hr0⟩:=hd x0 (by simp);have l1: ¬cap=1:=by omega
 have l2: ¬n=0:=by omega
 have l3: ¬n=1:=by omega
 have l4: (1:Int)≤(n:Int):=by omega
 have l5: (n:Int)≤(cap:Int):=by omega
 have l6:1≤n:=by omega
 have l7: (1:Int)≤(cap:Int):=by omega
 have l8:0<n:=by omega
 have e1: ((n:Int) == 0) =false:=by simp;omega
 have e2: ((n:Int) == 1) =false:=by simp;omega
 have hz:W.heap.size< (W.alloc (.cells #[.pointer (some ⟨x0.g,0,none⟩)] 35)).heap.size:=by simp
 have S0:Hid (AllS W K l k W.heap.size (W.heap.size+1) (accX (ys.take 0) x0.m) (sumR x0.m+totX (ys.take 0)) (some ⟨x0.g,0,none⟩) 0 ((W.alloc (.cells #[.pointer (some ⟨x0.g,0,none⟩)] 35)).alloc (.cells #[.int .i64 0] 23))):=LH (by
  have hb1:Below W.heap.size W ((W.alloc (.cells #[.pointer (some ⟨x0.g,0,none⟩)] 35)).alloc (.cells #[.int .i64 0] 23)):=bE;have hs:=hh0.bag.sum;refine⟨hb1,(heap_new_lt _ _ _ hz).trans (heap_alloc_new W _),heap_new_at (W.alloc _) _ _ (by simp),Nat.le_refl _,Nat.le_succ _,by omega,.inl ⟨rfl,by simp only [List.take_zero,totX];omega,by simp [accX,totX],x0.g,x0.r,F0,rfl,hd0.below hb1,by simpa [accX] using hh0,hr0⟩⟩)
 clear hS hd hd0 hh0 hr0 hc0 hz hn h2 h64 hl hk hb;obtain⟨p4,hp4⟩ : ∃p,p=W.heap.size:=⟨_,rfl⟩;obtain⟨p5,hp5⟩ : ∃p,p=W.heap.size+1:=⟨_,rfl⟩;have zb:b<W.heap.size:=HBk.out
 go_enter Tryz.func38,Tryz.ntmps38
 go_upto_region 8 with fail;rw [←hp5,←hp4] at S0⊢;have HB0:Hid (Below W.heap.size W ((W.alloc (.cells #[.pointer (some ⟨x0.g,0,none⟩)] 35)).alloc (.cells #[.int .i64 0] 23))):=LH S0.out.1;clear hp4 hp5 d0;generalize (W.alloc (.cells #[.pointer (some ⟨x0.g,0,none⟩)] 35)).alloc (.cells #[.int .i64 0] 23) =w0 at S0 HB0⊢;have hn1: (((n:Int) - 1).toNat=ys.length):=by have:=HN.out;omega
 have hn2:n - 1=ys.length:=by have:=HN.out;omega
 go_wp2_with fail
 go_loopw [29] (fun i wr=>∃(t:Nat) (v:Option Addr) (ev:Int),i=.int .i64 t∧t≤ys.length∧AllS W K l k p4 p5 (accX (ys.take t) x0.m) (sumR x0.m+totX (ys.take t)) v ev wr) (fun i _=>ys.length - (intOf i).toNat)
 case atStart=>exact⟨0,_,_,rfl,Nat.zero_le _,S0.out⟩
 case round=>
  obtain⟨t,v,ev,rfl,ht,hS⟩:=hrel;have KS:=LH hS;by_cases hlt:t<ys.length
  ·have hbr:=hS.1
   have d0:=(hbr.cell (p:=⟨b,off+1+t,none⟩) zb).trans (HC.out t hlt);have zb2:b<wr.heap.size:=Nat.lt_of_lt_of_le zb hbr.size;have hmem:ys[t]∈x0 :: ys:=List.mem_cons_of_mem _ (List.getElem_mem hlt);obtain⟨hd1,hd2,hd3⟩:=HD.out _ hmem;have HO:=LH (all_one W wr K l p4 p5 k _ _ v ev ys[t] hS HL.out.1 HL.out.2 hd1 hd2 hd3)
   have HE:Hid (accX (ys.take (t+1)) x0.m=pourL (accX (ys.take t) x0.m) ys[t].m∧sumR x0.m+totX (ys.take (t+1)) =sumR x0.m+totX (ys.take t) +sumR ys[t].m):=LH (by
    rw [List.take_succ_eq_append_getElem hlt,accX_snoc,totX_snoc];exact⟨rfl,by omega⟩)
   generalize ys[t] =y at d0 HO HE;clear hS hbr hmem hd1 hd2 hd3;go_wp2_with fail;refine HO.out.mono ?_;rintro e w1 ⟨rfl,v',ev',h'⟩;have K1:Hid (AllS W K l k p4 p5 (accX (ys.take (t+1)) x0.m) (sumR x0.m+totX (ys.take (t+1))) v' ev' w1):=LH (by rw [HE.out.1,HE.out.2];exact h');clear h' HO d0 zb2;go_wp2_with fail;have hwr:wrap64 ((t:Int) +1) = ((t+1:Nat) :Int):=by have:=HN.out;unfold wrap64;omega
   go_roundw
   case rel=>exact⟨t+1,v',ev',by rw [hwr],hlt,K1.out⟩
   case measure=>rw [hwr];simp [intOf];omega
  ·obtain rfl:t=ys.length:=by omega
   rw [List.take_length] at hS;obtain⟨g1,g2,g3,g4,g5,g6,g7⟩:=hS;have q4:wr.cell? ⟨p4,0,none⟩ =some (.pointer v):=bC g2 0;have q5:wr.cell? ⟨p5,0,none⟩ =some (.int .i64 ev):=bC g3 0;have z4:=lB g2;have z5:=lB g3
   have HF:Hid (AllPost K l k (accX ys x0.m) (sumR x0.m+totX ys) W (.returned (.tuple #[.pointer v,.int .i64 ev])) wr.drew):=LH (by
    refine⟨v,ev,rfl,Below.then_ g1 (Below.drew (Below.refl _ _)),?_⟩;rcases g7 with ⟨a,b,c,g,r,F,d,e,f,i⟩ |g7
    ·exact .inl ⟨a,b,c,g,r,F,d,e.below (Below.drew (Below.refl _ _)),f,i⟩
    ·exact .inr g7)
   clear g1 g2 g3 g4 g5 g6 g7;generalize AllPost K l k (accX ys x0.m) (sumR x0.m+totX ys) W=PP at*;go_upto_region 13 with fail
   go_region
   all_goals
    go_wp2_with fail;exact HF.out
theorem sea_Window (w W:World) (L:EpL) (k:Int) (gs:Nat) (m:EpM) (rs:List RsI) (j n:Nat) (x0:DI) (ys:List DI) (h:SeaS w L k gs m rs rs W) (hj:rs.length=j+n) (h64:rs.length≤64) (hl:1≤L.l∧L.l≤48) (hk:1≤k∧k≤1048576)
 (hg: (rs.drop j).map (·.g) = (x0 :: ys).map (·.g)) (h2:1≤ys.length) (hd: ∀y∈x0 :: ys,(∃z∈rs,z.g=y.g∧z.r=y.r)∧Held L.l k y.r y.m∧y.r.length≤33554430) :
 Calls Tryz.prog 13 #[.pointer (some ⟨gs,0,none⟩),.int .i64 n] W (AllPost L.K L.l k (accX ys x0.m) (sumR x0.m+totX ys) W):=by
 have hn:n=ys.length+1:=by
  have:=congrArg List.length hg;simp only [List.length_map,List.length_drop,List.length_cons] at this;omega
 have hal:=(Below.refl W.heap.size W).alloc (Nat.le_refl _) (.cells #[.slice none 0 0] 89);have R0:Hid (LstR W W.heap.size [] (W.alloc (.cells #[.slice none 0 0] 89))):=LH ⟨none,0,hal,heap_alloc_new _ _,Nat.le_refl _,Own.nil _ _ _ _⟩
 have HLa:Hid (∀pl W1,LstR W pl [] W1→Calls Tryz.prog 36 #[.pointer (some ⟨gs,0,none⟩),.int .i64 n,.func (.func 37) #[] #[.pointer (some ⟨pl,0,none⟩)]] W1 fun e W'=>e=.returned (.int .i64 0)∧LstR W pl ((x0 :: ys).map (·.g)) W'):=LH fun pl W1 hr=>by
  have:=sea_last w W W1 L k gs m rs pl j n h hr hj (by omega) h64
  rwa [hg] at this
 have HAl:Hid (∀W1 Al cl,Below W.heap.size W W1→Own W1 W.heap.size 35 encEp (.slice Al ((x0 :: ys).map (·.g)).length cl) ((x0 :: ys).map (·.g))→Calls Tryz.prog 38 #[.slice Al n cl] W1 fun e W'=>∃v ev,e=.returned (.tuple #[.pointer v,.int .i64 ev])∧AllPost L.K L.l k (accX ys x0.m) (sumR x0.m+totX ys) W (.returned (.tuple #[.pointer v,.int .i64 ev])) W'):=LH fun W1 Al cl hb ho=>by
  have hlen: ((x0 :: ys).map (·.g)).length=n:=by simp;omega
  refine(blend_All W1 L.K L.l k Al cl n x0 ys ho.sl hn (by have:=ho.len_le.2.1;omega) ho.len_le.2.2 h2 (by omega) hl hk fun y hy=> ?_).mono ?_
  ·obtain⟨⟨z,hz,e1,e2⟩,h3,h4⟩:=hd y hy
   obtain⟨F,A,cap,_,_,_,hB⟩:=h;obtain⟨Fx,hx,_⟩:=hB.d z hz;rw [e1,e2] at hx;exact⟨⟨Fx,hx.below hb⟩,h3,h4⟩
  ·rintro e W' ⟨v,ev,rfl,hb2,h5⟩
   exact⟨v,ev,rfl,v,ev,rfl,Below.then_ hb hb2,h5⟩
 have HLn:Hid (((x0 :: ys).map (·.g)).length=n):=LH (by simp;omega);clear h hj h64 hl hk hg h2 hd hn hal;generalize AllPost L.K L.l k (accX ys x0.m) (sumR x0.m+totX ys) W=PP at*;generalize (x0 :: ys).map (·.g) =gl at*;obtain⟨pl,hpl⟩ : ∃p,p=W.heap.size:=⟨_,rfl⟩
 go_enter Tryz.func13,Tryz.ntmps13
 go_upto_region 2 with fail;have hplg:W.heap.size≤pl:=by omega
 rw [←hpl] at R0⊢;clear hpl;generalize W.alloc (.cells #[.slice none 0 0] 89) =w0 at R0⊢;go_wp2_with fail;refine(HLa.out pl _ R0.out).mono ?_;rintro e w1 ⟨rfl,Al,cl,h1,h2,h3,h4⟩;have HC:=LH (HAl.out _ _ _ h1 h4);rw [HLn.out] at h2;have cc:=bC h2;have zc:=lB h2;clear h1 h2 h3 h4 HLa HAl R0;go_wp2_with fail;refine HC.out.mono ?_;rintro e w2 ⟨v,ev,rfl,h5⟩;have K5:=LH h5;clear h5 HC cc zc;go_wp2_with fail;exact K5.out
section
variable {l m:Nat} {a b:List Nd}
end
theorem of_O:ofT 4 [(21,1)] 1 2= (5,0):=by decide
theorem trend_O (g:Nat) :trendF 4 1 2 ⟨g,1, [(21,1)]⟩ =5:=by
 show (if (ofT 4 [(21,1)] 1 2).2=0 then (ofT 4 [(21,1)] 1 2).1 else -1) =5
 rw [of_O]
 rfl
theorem gapErr_O:gapMostErr ((4:Nat) :Int) ((4:Nat) :Int) [(21,1)] [(21,1)] 100=0:=by decide
theorem gap_O:gapMostT ((4:Nat) :Int) ((4:Nat) :Int) [(21,1)] [(21,1)] 100= (0,0):=by decide
theorem held_O:Held 4 2 [(21,1)] [(5,1)]:=(Held.nil 4 2).add (by decide) (by decide) (x:=5) (c:=1) (by decide) (by decide) (by decide) (by decide)
theorem ref5_Same (w:World) (A1 A2:Option Addr) (c1 c2:Nat) (l:List Int) (h1:Sl w w.heap.size encZ A1 l) (h2:Sl w w.heap.size encZ A2 l) (hm:l.length≤67108864) :
 Calls Tryz.prog 34 #[.slice A1 l.length c1,.slice A2 l.length c2] w fun e w'=>e=.returned (.bool true)∧Below w.heap.size w w':=by
 have H1:=LH h1;have H2:=LH h2;clear h1 h2
 go_enter Tryz.func34,Tryz.ntmps34
 go_wp2_with fail
 go_loopw [5] (fun i wr=>∃q:Nat,q≤l.length∧i=.int .i64 q∧Below w.heap.size w wr) (fun i _=>l.length - (intOf i).toNat)
 case atStart=>exact⟨0,Nat.zero_le _,rfl,Below.refl _ _⟩
 case round=>
  obtain⟨q,hq,rfl,hB⟩:=hrel;have hsz:=hB.size;by_cases hlt:q<l.length
  ·obtain⟨b1,o1,rfl,hb1,hc1⟩:=H1.out.at_ hlt
   obtain⟨b2,o2,rfl,hb2,hc2⟩:=H2.out.at_ hlt;have d1:=hc1 0 (.int .i64 l[q]) rfl;have d2:=hc2 0 (.int .i64 l[q]) rfl;simp only [Nat.mul_one,Nat.add_zero] at d1 d2;have e1:=(hB.cell (p:=⟨b1,o1+q,none⟩) hb1).trans d1;have e2:=(hB.cell (p:=⟨b2,o2+q,none⟩) hb2).trans d2;have lb1:b1<wr.heap.size:=Nat.lt_of_lt_of_le hb1 hsz;have lb2:b2<wr.heap.size:=Nat.lt_of_lt_of_le hb2 hsz;clear hc1 hc2 d1 d2;go_wp2_with fail;refine rX (by kernel_rfl) (by kernel_rfl) ?_
   repeat (go_big_quiet_step (fail))
   refine wpQuiet_nil ?_;intro w1 hb1;replace hb1:=bX hb1;have B1:Below w.heap.size w w1:=Below.then_ bE hb1;have s1:=B1.size;go_wp2_with fail;go_roundw
   case rel=>exact⟨q+1,by omega,by go_num,bE⟩
   case measure=>simp [intOf];omega
  ·obtain rfl:q=l.length:=by omega
   go_wp2_with fail;go_ret;exact⟨rfl,hB⟩
def rsO (gl:List Nat) :List RsI:=gl.map fun g=>⟨g,1, [(21,1)]⟩
theorem rsO_len (gl:List Nat) : (rsO gl).length=gl.length:=by simp [rsO]
theorem rsO_snoc (gl:List Nat) (g:Nat) :rsO gl ++ [⟨g,1, [(21,1)]⟩] =rsO (gl ++ [g]):=by simp [rsO]
theorem law33_alive (w:World) (hT:TabZ w) :Calls Tryz.prog 11 #[] w fun e w'=>e=.returned (.bool true)∧Below w.heap.size w w':=by
 have b0:Below w.heap.size w (w.alloc (.cells #[.int .i64 (-1)] 3)):=bE
 have HN:Hid (Calls Tryz.prog 6 #[.slice (some ⟨w.heap.size,0,none⟩) 1 1,.agg #[.int .i64 4,.int .i64 2,.int .i64 2],.int .i64 1] (w.alloc (.cells #[.int .i64 (-1)] 3)) fun e W'=>∃L gs,e=.returned (.tuple #[.pointer (some ⟨gs,0,none⟩),.int .i64 0])∧SO (w.alloc (.cells #[.int .i64 (-1)] 3)) L gs 0 0 (mO 0 []) (rsO []) W'):=LH (by
  refine(sea_New (w.alloc (.cells #[.int .i64 (-1)] 3)) (some ⟨w.heap.size,0,none⟩) 1 psO 4 2 2 1 ?_ (hT.below b0) psO_right psO_new).mono ?_
  ·exact(sl_lit w encZ psO 3 w.heap.size rfl).keep (w':=w.alloc (.cells #[.int .i64 (-1)] 3)) (B':=(w.alloc (.cells #[.int .i64 (-1)] 3)).heap.size) (by simp) (fun p hp=>rfl)
  ·rintro e W' ⟨L,gs,rfl,h1,h2,h3,h4⟩
   exact⟨L,gs,rfl,h1,h2,h3,_,_,h4⟩)
 have B0:=LH b0;clear hT b0
 go_enter Tryz.func11,Tryz.ntmps11
 go_wp2_with fail;refine HN.out.mono ?_;rintro e w1 ⟨L,gs,rfl,hS⟩;have S1:=LH hS;clear hS HN;generalize w.alloc (.cells #[.int .i64 (-1)] 3) =wb at B0 S1;go_wp2_with fail
 go_loopw [21] (fun i wr=>∃(t:Nat) (gl:List Nat),i=.int .i64 t∧t≤2∧gl.length=t∧SO wb L gs (3*t) t (mO t []) (rsO gl) wr) (fun i _=>2 - (intOf i).toNat)
 case atStart=>exact⟨0, [],rfl,by decide,rfl,S1.out⟩
 case round=>
  obtain⟨t,gl,rfl,ht,hgl,hS⟩:=hrel;have KS:=LH hS;by_cases hlt:t<2
  ·have hdt:decide ((t:Int) <2) =true:=by simp;omega
   have HL:=LH (And.intro hlt hgl);have HRu:=LH (fun W m q e (h:SO wb L gs q e m (rsO gl) W)=>sea_Run h.sea);have HPu:=LH (fun W (h:SO wb L gs (3*t) t (mO t []) (rsO gl) W)=>h.put (by omega));have HSt:=LH (fun W (h:SO wb L gs (3*t+1) t (mO t [(21,1)]) (rsO gl) W)=>h.start (by omega) get_one (by decide))
   have HCl:Hid (∀W,SO wb L gs (3*t+1+1) t (mO2 t [(21,1)]) (rsO gl) W→Calls Tryz.prog 7 #[.pointer (some ⟨gs,0,none⟩)] W fun e W'=>e=.returned (.int .i64 0)∧∃g',SO wb L gs (3* (t+1)) ((t+1:Nat) :Int) (mO ((t+1:Nat) :Int) []) (rsO (gl ++ [g'])) W'):=LH fun W h=>by
    refine(h.close (by omega) (by omega)).mono ?_;rintro e W' (⟨rfl,h64,_⟩ | ⟨rfl,h64,g',h'⟩)
    ·rw [rsO_len] at h64;omega
    ·rw [rsO_snoc] at h'
     exact⟨rfl,g',by push_cast;exact h'⟩
   clear hS hgl;go_wp2_with fail;refine(HRu.out _ _ _ _ KS.out).mono ?_;rintro e w2 ⟨rfl,hb2⟩;have K2:=LH (KS.out.below hb2);clear hb2 KS;go_wp2_with fail;refine(HPu.out _ K2.out).mono ?_;rintro e w3 ⟨rfl,h3⟩;have K3:=LH h3;clear h3 K2 HPu;go_wp2_with fail;refine(HRu.out _ _ _ _ K3.out).mono ?_;rintro e w4 ⟨rfl,hb4⟩;have K4:=LH (K3.out.below hb4);clear hb4 K3;go_wp2_with fail;refine(HSt.out _ K4.out).mono ?_;rintro e w5 ⟨rfl,h5⟩;have K5:=LH h5;clear h5 K4 HSt HRu;go_wp2_with fail;refine(HCl.out _ K5.out).mono ?_;rintro e w6 ⟨rfl,g',h6⟩;have K6:=LH h6;clear h6 K5 HCl;go_wp2_with fail;go_roundw
   case rel=>exact⟨t+1,gl ++ [g'],by go_num,hlt,by simp [HL.out.2],K6.out⟩
   case measure=>simp [intOf];omega
  ·obtain rfl:t=2:=by omega
   have hdt:decide (((2:Nat) :Int) <2) =false:=by decide
   obtain⟨g0,g1,rfl⟩ : ∃a b,gl= [a,b]:=by
    match gl,hgl with
    | [a,b],_=>exact⟨a,b,rfl⟩
   obtain⟨hps,hl,hK,D,N,hSW⟩:=KS.out;have BW:=LH (Below.then_ B0.out KS.out.blw)
   have HWi:=LH (fun W hb=>sea_Window wb W L 2 gs (mO ((2:Nat) :Int) []) (rsO [g0,g1]) 0 2 ⟨g0, [(21,1)], [(5,1)]⟩ [⟨g1, [(21,1)], [(5,1)]⟩] (hSW.s.below (W':=W) hb) (by simp [rsO]) (by simp [rsO]) (by rw [hl];decide) (by decide) (by simp [rsO]) (by simp) (fun y hy=>by
    simp only [List.mem_cons,List.not_mem_nil,or_false] at hy;rcases hy with rfl|rfl
    ·exact⟨⟨⟨g0,1, [(21,1)]⟩,by simp [rsO],rfl,rfl⟩,by rw [hl];exact held_O,by simp⟩
    ·exact⟨⟨⟨g1,1, [(21,1)]⟩,by simp [rsO],rfl,rfl⟩,by rw [hl];exact held_O,by simp⟩))
   have hrl: ∀x∈rsO [g0,g1],x.r.length≤67108864:=fun x hx=>by
    simp only [rsO,List.map_cons,List.map_nil,List.mem_cons,List.not_mem_nil,or_false] at hx;rcases hx with rfl|rfl <;> simp
   have HTr:=LH (fun W hb=>sea_Trend wb W L 2 gs (mO ((2:Nat) :Int) []) (rsO [g0,g1]) 1 2 (hSW.s.below (W':=W) hb) (by simp [rsO]) (by decide) (by decide) hrl);have HSh:=LH (fun W hb=>sea_Shift wb W L 2 gs (mO ((2:Nat) :Int) []) (rsO [g0,g1]) 0 100 ⟨g1,1, [(21,1)]⟩ ⟨g0,1, [(21,1)]⟩ (hSW.s.below (W':=W) hb) (by simp [rsO]) rfl rfl hrl (by decide))
   have hmap: (rsO [g0,g1]).map (trendF L.l 1 2) = [5,5]:=by
    rw [hl];show [trendF 4 1 2 ⟨g0,1, [(21,1)]⟩,trendF 4 1 2 ⟨g1,1, [(21,1)]⟩] = [5,5]
    rw [trend_O,trend_O]
   have hlen: (rsO [g0,g1]).length=2:=rfl;rw [hmap,hlen] at HTr;unfold ShiftPost at HSh;rw [hl] at HSh;dsimp only at HSh;rw [gap_O,gapErr_O] at HSh;unfold AllPost at HWi;have HBW:Hid (Below wr.heap.size wr wr):=LH (Below.refl _ _);clear hS hps hl hK hSW hrl hmap hlen hgl;go_wp2_with fail;refine(HWi.out _ HBW.out).mono ?_;rintro e w2 ⟨v,ev,rfl,hb2,hcase⟩;have htot:sumR [((5:Int),(1:Int))] +totX [⟨g1, [(21,1)], [(5,1)]⟩] =2:=by simp [totX,sumR]
   try dsimp only at hcase
   rw [htot] at hcase;rcases hcase with ⟨rfl,_,hM,g2,r2,F2,rfl,hd2,hh2,_⟩ | ⟨_,hbad⟩
   case inr=>exact absurd hbad (by decide)
   have hs2:sumR r2=2:=by rw [hh2.sum,hM]
   have HNn:Hid (∀W,Below w2.heap.size w2 W→Calls Tryz.prog 26 #[.pointer (some ⟨g2,0,none⟩)] W fun e W'=>e=.returned (.int .i64 2)∧Below W.heap.size W W'):=LH fun W hb=>by
    have:=digest_N W g2 _ _ _ r2 F2 (hd2.below hb)
    rwa [hs2] at this
   have BR2:=LH hb2;have BW2:=LH (Below.then_ BW.out hb2);clear hb2 htot hM hd2 hh2 hs2 HWi;go_wp2_with fail;refine(HTr.out _ BR2.out).mono ?_;rintro e w3 ⟨A3,c3,rfl,ho3,hb3⟩;have O3:=LH ho3;have BR3:=LH (Below.then_ BR2.out hb3);have BB3:=LH hb3;have BW3:=LH (Below.then_ BW2.out hb3);clear ho3 hb3 HTr;go_wp2_with fail;refine(HSh.out _ BR3.out).mono ?_;rintro e w4 ⟨rfl,hb4⟩;have O4:=LH (O3.out.below hb4);have BB4:=LH (Below.then_ BB3.out hb4);have BW4:=LH (Below.then_ BW3.out hb4);clear hb4 HSh O3 BB3 BW3 BW2 BW BR3 BR2;have hal:=(Below.refl w4.heap.size w4).alloc (Nat.le_refl _) (.cells #[.int .i64 0,.int .i64 0] 47);have Y5:=LH (heap_alloc_new w4 (.cells #[.int .i64 0,.int .i64 0] 47));have O5:=LH (O4.out.below hal);have BB5:=LH (Below.then_ BB4.out hal);have BW5:=LH (Below.then_ BW4.out hal);obtain⟨pt,hpt⟩ : ∃p,p=w4.heap.size:=⟨_,rfl⟩;clear hal O4 BB4 BW4;go_upto_region 12 with fail;rw [←hpt] at Y5⊢;clear hpt;generalize w4.alloc (.cells #[.int .i64 0,.int .i64 0] 47) =w5 at Y5 O5 BB5 BW5⊢;have cy:=bC Y5.out;have zy:=lB Y5.out;go_wp2_with fail;refine(HNn.out _ BB5.out).mono ?_;rintro e w6 ⟨rfl,hb6⟩;have Y6:=LH (bB Y5.out hb6);have O6:=LH (O5.out.below hb6);have BW6:=LH (Below.then_ BW5.out hb6);clear hb6 cy zy Y5 O5 BW5 BB5 HNn;have hal:=(Below.refl w6.heap.size w6).alloc (Nat.le_refl _) (.cells #[.int .i64 5,.int .i64 5] 3);have HSm:=LH (ref5_Same (w6.alloc (.cells #[.int .i64 5,.int .i64 5] 3)) A3 (some ⟨w6.heap.size,0,none⟩) c3 2 [5,5] (O6.out.below hal).sl ((sl_lit w6 encZ [5,5] 3 w6.heap.size rfl).keep (w':=w6.alloc (.cells #[.int .i64 5,.int .i64 5] 3)) (B':=(w6.alloc (.cells #[.int .i64 5,.int .i64 5] 3)).heap.size) (by simp) (fun p hp=>rfl)) (by decide));have Y7:=LH (bB Y6.out hal);have BW7:=LH (Below.then_ BW6.out hal);clear hal O6 Y6 BW6;go_wp2_with fail;have hSm:=HSm.out;simp only [List.length_cons,List.length_nil] at hSm;refine hSm.mono ?_;rintro e w8 ⟨rfl,hb8⟩;have Y8:=LH (bB Y7.out hb8);have BW8:=LH (Below.then_ BW7.out hb8);clear hb8 hSm HSm Y7 BW7;have cy:=bC Y8.out;have zy:=lB Y8.out;go_wp2_with fail;exact bR (v:=.bool true) (by simp only [results,Tryz.results11];go_simp) rfl ⟨rfl,BW8.out⟩
theorem seaN_Run (w:World) :Calls Tryz.prog 8 #[.pointer none] w fun e w'=>e=.returned (.pointer none)∧Below w.heap.size w w':=by
 go_enter Tryz.func8,Tryz.ntmps8
 go_wp2_with fail;exact bR (v:=.pointer none) (by simp only [results,Tryz.results8];go_simp) rfl ⟨rfl,bE⟩
theorem seaN_Len (w:World) :Calls Tryz.prog 10 #[.pointer none] w fun e w'=>e=.returned (.int .i64 0)∧Below w.heap.size w w':=by
 go_enter Tryz.func10,Tryz.ntmps10
 go_wp2_with fail;exact bR (v:=.int .i64 0) (by simp only [results,Tryz.results10];go_simp) rfl ⟨rfl,bE⟩
theorem seaN_Close (w:World) :Calls Tryz.prog 7 #[.pointer none] w fun e w'=>e=.returned (.int .i64 1)∧Below w.heap.size w w':=by
 go_enter Tryz.func7,Tryz.ntmps7
 go_wp2_with fail;exact bR (v:=.int .i64 1) (by simp only [results,Tryz.results7];go_simp) rfl ⟨rfl,bE⟩
theorem seaN_At (w:World) (i:Int) :Calls Tryz.prog 12 #[.pointer none,.int .i64 i] w fun e w'=>e=.returned (.tuple #[.pointer none,.int .u64 0,.int .i64 1])∧Below w.heap.size w w':=by
 go_enter Tryz.func12,Tryz.ntmps12
 go_wp2_with fail;exact bR (v:=.tuple #[.pointer none,.int .u64 0,.int .i64 1]) (by simp only [results,Tryz.results12];go_simp) rfl ⟨rfl,bE⟩
theorem seaN_last (w:World) (n:Int) (fv:Value) :Calls Tryz.prog 36 #[.pointer none,.int .i64 n,fv] w fun e w'=>e=.returned (.int .i64 1)∧Below w.heap.size w w':=by
 go_enter Tryz.func36,Tryz.ntmps36
 go_wp2_with fail;exact bR (v:=.int .i64 1) (by simp only [results,Tryz.results36];go_simp) rfl ⟨rfl,bE⟩
theorem seaN_Window (w:World) (n:Int) :Calls Tryz.prog 13 #[.pointer none,.int .i64 n] w fun e w'=>e=.returned (.tuple #[.pointer none,.int .i64 1])∧Below w.heap.size w w':=by
 go_enter Tryz.func13,Tryz.ntmps13
 go_wp2_with fail;refine(seaN_last _ n _).mono ?_;rintro e w1 ⟨rfl,hb1⟩;have B1:Below w.heap.size w w1:=Below.then_ bE hb1;have s1:=B1.size;go_wp2_with fail;exact bR (v:=.tuple #[.pointer none,.int .i64 1]) (by simp only [results,Tryz.results13];go_simp) rfl ⟨rfl,bE⟩
theorem seaN_Trend (w:World) (n d:Int) :Calls Tryz.prog 15 #[.pointer none,.int .i64 n,.int .i64 d] w fun e w'=>e=.returned (.tuple #[.slice none 0 0,.int .i64 1])∧Below w.heap.size w w':=by
 go_enter Tryz.func15,Tryz.ntmps15
 go_wp2_with fail;exact bR (v:=.tuple #[.slice none 0 0,.int .i64 1]) (by simp only [results,Tryz.results15];go_simp) rfl ⟨rfl,bE⟩
theorem seaN_Shift (w:World) (n d:Int) :Calls Tryz.prog 16 #[.pointer none,.int .i64 n,.int .i64 d] w fun e w'=>e=.returned (.tuple #[.agg #[.int .i64 0,.int .i64 0],.int .i64 1])∧Below w.heap.size w w':=by
 go_enter Tryz.func16,Tryz.ntmps16
 go_wp2_with fail;exact bR (v:=.tuple #[.agg #[.int .i64 0,.int .i64 0],.int .i64 1]) (by simp only [results,Tryz.results16];go_simp) rfl ⟨rfl,bE⟩
theorem seaN_Seen (w:World) (n:Int) :Calls Tryz.prog 14 #[.pointer none,.int .i64 n] w fun e w'=>e=.returned (.tuple #[.int .u64 0,.int .u64 0,.int .i64 1])∧Below w.heap.size w w':=by
 have x4: (((w.alloc (.cells #[.int .u64 0] 37)).alloc (.cells #[.int .u64 0] 37)).alloc (.cells #[.bool true] 4)).heap[w.heap.size]? =some (.cells #[.int .u64 0] 37 (0,0)):=
  ((heap_new_lt _ _ _ (by simp;omega)).trans (heap_new_lt _ _ _ (by simp))).trans (heap_alloc_new w _)
 have x5: (((w.alloc (.cells #[.int .u64 0] 37)).alloc (.cells #[.int .u64 0] 37)).alloc (.cells #[.bool true] 4)).heap[w.heap.size+1]? =some (.cells #[.int .u64 0] 37 (0,0)):=
  (heap_new_lt _ _ _ (by simp)).trans (heap_new_at (w.alloc _) _ _ (by simp))
 have X4:=LH x4;have X5:=LH x5;have B0:Hid (Below w.heap.size w (((w.alloc (.cells #[.int .u64 0] 37)).alloc (.cells #[.int .u64 0] 37)).alloc (.cells #[.bool true] 4))):=LH bE;clear x4 x5;obtain⟨p4,h4⟩ : ∃p,p=w.heap.size:=⟨_,rfl⟩;obtain⟨p5,h5⟩ : ∃p,p=w.heap.size+1:=⟨_,rfl⟩;have n45:p4≠p5:=by omega
 have n54:p5≠p4:=by omega
 have hp4:Hid (w.heap.size≤p4):=LH (by omega);have hp5:Hid (w.heap.size≤p5):=LH (by omega)
 go_enter Tryz.func14,Tryz.ntmps14
 go_upto_region 2 with fail;rw [←h5] at X5⊢;rw [←h4] at X4⊢;clear h4 h5;generalize ((w.alloc (.cells #[.int .u64 0] 37)).alloc (.cells #[.int .u64 0] 37)).alloc (.cells #[.bool true] 4) =w0 at X4 X5 B0⊢;go_wp2_with fail;refine(seaN_last _ n _).mono ?_;rintro e w1 ⟨rfl,hb1⟩;have Y4:=LH (bB X4.out hb1);have Y5:=LH (bB X5.out hb1);have B1:=LH (Below.then_ B0.out hb1);clear hb1 X4 X5 B0;have c4:w1.cell? ⟨p4,0,none⟩ =some (.int .u64 0):=bC Y4.out 0;have f4:=bF Y4.out;have z4:=lB Y4.out;have c5:w1.cell? ⟨p5,0,none⟩ =some (.int .u64 0):=bC Y5.out 0;have f5:=bF Y5.out;have z5:=lB Y5.out;go_upto_region 3 with fail
 go_region
 all_goals
  go_wp2_with fail;have h4:=hp4.out;have h5:=hp5.out;have B2:=B1.out;exact bR (v:=.tuple #[.int .u64 0,.int .u64 0,.int .i64 1]) (by simp only [results,Tryz.results14];go_simp) rfl ⟨rfl,bE⟩
theorem law_SeasonNobody (x y:Int) (w:World) (wx: (Lit.int IntKind.i64 x).wf=true) (wy: (Lit.int IntKind.i64 y).wf=true) (hT:TabZ w) :Calls Tryz.prog 4 #[.int .i64 x,.int .i64 y] w fun e w'=>e=.returned (.bool true)∧Below w.heap.size w w':=by
 have HAl:Hid (∀W,Below w.heap.size w W→Calls Tryz.prog 11 #[] W fun e w'=>e=.returned (.bool true)∧Below W.heap.size W w'):=LH fun W h=>law33_alive W (hT.below h);clear wx wy hT
 go_enter Tryz.func4,Tryz.ntmps4
 go_wp2_with fail;refine(seaN_At _ x).mono ?_;rintro e w1 ⟨rfl,hb1⟩;have B1:=LH hb1;clear hb1;go_wp2_with fail;refine(seaN_Window _ x).mono ?_;rintro e w2 ⟨rfl,hb2⟩;have B2:=LH (Below.then_ B1.out hb2);clear hb2;go_wp2_with fail;refine(seaN_Seen _ x).mono ?_;rintro e w3 ⟨rfl,hb3⟩;have B3:=LH (Below.then_ B2.out hb3);clear hb3;go_wp2_with fail;refine(seaN_Trend _ x y).mono ?_;rintro e w4 ⟨rfl,hb4⟩;have B4:=LH (Below.then_ B3.out hb4);clear hb4;go_wp2_with fail;refine(seaN_Shift _ x y).mono ?_;rintro e w5 ⟨rfl,hb5⟩;have B5:=LH (Below.then_ B4.out hb5);clear hb5;have hal:=(Below.refl w5.heap.size w5).alloc (Nat.le_refl _) (.cells #[.int .i64 0,.int .i64 0] 47);have Y6:=LH (heap_alloc_new w5 (.cells #[.int .i64 0,.int .i64 0] 47));have B6:=LH (Below.then_ B5.out hal);obtain⟨pt,hpt⟩ : ∃p,p=w5.heap.size:=⟨_,rfl⟩;clear hal B1 B2 B3 B4;go_upto_region 8 with fail;rw [←hpt] at Y6⊢;clear hpt;generalize w5.alloc (.cells #[.int .i64 0,.int .i64 0] 47) =w6 at Y6 B6⊢;have cy:=bC Y6.out;have zy:=lB Y6.out;go_wp2_with fail;refine(seaN_Run _).mono ?_;rintro e w7 ⟨rfl,hb7⟩;have B7:=LH (Below.then_ B6.out hb7);clear hb7 cy zy Y6;go_wp2_with fail;refine(seaN_Len _).mono ?_;rintro e w8 ⟨rfl,hb8⟩;have B8:=LH (Below.then_ B7.out hb8);clear hb8;go_wp2_with fail;refine(seaN_Close _).mono ?_;rintro e w9 ⟨rfl,hb9⟩;have B9:=LH (Below.then_ B8.out hb9);clear hb9;go_wp2_with fail;refine(HAl.out _ B9.out).mono ?_;rintro e v1 ⟨rfl,hb1⟩;have C1:=LH (Below.then_ B9.out hb1);clear hb1;go_wp2_with fail;exact bR (v:=.bool true) (by simp only [results,Tryz.results4];go_simp) rfl ⟨rfl,C1.out⟩
theorem run_nil (p:Int) :0≤getR [] p:=Int.le_refl _
theorem law_SeasonFull_ (n:Nat) (hn:n≤255) (w:World) (hT:TabZ w) :Calls Tryz.prog 3 #[.int .u8 n] w fun e w'=>e=.returned (.bool true)∧Below w.heap.size w w':=by
 have HAl:Hid (∀W,Below w.heap.size w W→Calls Tryz.prog 11 #[] W fun e w'=>e=.returned (.bool true)∧Below W.heap.size W w'):=LH fun W h=>law33_alive W (hT.below h);have b0:Below w.heap.size w (w.alloc (.cells #[.int .i64 (-1)] 3)):=bE
 have HN:Hid (Calls Tryz.prog 6 #[.slice (some ⟨w.heap.size,0,none⟩) 1 1,.agg #[.int .i64 4,.int .i64 2,.int .i64 2],.int .i64 1] (w.alloc (.cells #[.int .i64 (-1)] 3)) fun e W'=>∃L gs,e=.returned (.tuple #[.pointer (some ⟨gs,0,none⟩),.int .i64 0])∧SO (w.alloc (.cells #[.int .i64 (-1)] 3)) L gs 0 0 (mO 0 []) [] W'):=LH (by
  refine(sea_New (w.alloc (.cells #[.int .i64 (-1)] 3)) (some ⟨w.heap.size,0,none⟩) 1 psO 4 2 2 1 ?_ (hT.below b0) psO_right psO_new).mono ?_
  ·exact(sl_lit w encZ psO 3 w.heap.size rfl).keep (w':=w.alloc (.cells #[.int .i64 (-1)] 3)) (B':=(w.alloc (.cells #[.int .i64 (-1)] 3)).heap.size) (by simp) (fun p hp=>rfl)
  ·rintro e W' ⟨L,gs,rfl,h1,h2,h3,h4⟩
   exact⟨L,gs,rfl,h1,h2,h3,_,_,h4⟩)
 have B0:=LH b0;clear hT b0;obtain⟨z,hz⟩ : ∃z:Int,z= (n:Int) % 100:=⟨_,rfl⟩;have hz1:0≤z∧z<100:=by omega
 have HZ:=LH hz1;have HZn:=LH hz;clear hz hz1
 go_enter Tryz.func3,Tryz.ntmps3
 go_wp2_with fail;refine HN.out.mono ?_;rintro e w1 ⟨L,gs,rfl,hS⟩;have S1:=LH hS;clear hS HN;generalize w.alloc (.cells #[.int .i64 (-1)] 3) =wb at B0 S1;have hzn: ((n:Int) % 100) =z:=HZn.out.symm
 go_upto_if 23 with fail
 rw [hzn]
 go_loopw [22] (fun i wr=>∃(t:Nat) (rs:List RsI),i=.int .i64 t∧(t:Int)≤z∧t≤64∧rs.length=t∧SO wb L gs (2*t) t (mO t []) rs wr) (fun i _=>(z - intOf i).toNat)
 case atStart=>exact⟨0, [],rfl,HZ.out.1,by decide,rfl,S1.out⟩
 case round=>
  obtain⟨t,rs,rfl,htz,ht64,hrl,hS⟩:=hrel;have KS:=LH hS;have HRl:=LH hrl;have HT64:=LH (And.intro htz ht64);have BS:=LH (Below.then_ B0.out hS.blw);by_cases hlt: (t:Int) <z
  ·have hdt:decide ((t:Int) <z) =true:=by simpa using hlt
   have HLt:=LH hlt;have HE:=LH (fun W (h:SO wb L gs (2*t) t (mO t []) rs W)=>h.early (by omega) (by omega));have HRu:=LH (fun W m q e (h:SO wb L gs q e m rs W)=>sea_Run h.sea);have HSt:=LH (fun W (h:SO wb L gs (2*t) t (mO t []) rs W)=>h.start (by omega) run_nil (by decide));have HCl:=LH (fun W (h:SO wb L gs (2*t+1) t (mO2 t []) rs W)=>h.close (by omega) (by omega));clear hS hrl htz ht64 hlt;go_wp2_with fail;refine(HE.out _ KS.out).mono ?_;rintro e w2 ⟨rfl,h2⟩;have K2:=LH h2;clear h2 KS HE;go_wp2_with fail;refine(HRu.out _ _ _ _ K2.out).mono ?_;rintro e w3 ⟨rfl,hb3⟩;have K3:=LH (K2.out.below hb3);clear hb3 K2 HRu;go_wp2_with fail;refine(HSt.out _ K3.out).mono ?_;rintro e w4 ⟨rfl,h4⟩;have K4:=LH h4;clear h4 K3 HSt;go_wp2_with fail;refine(HCl.out _ K4.out).mono ?_;clear HCl;rintro e w5 (⟨rfl,h64,h5⟩ | ⟨rfl,h64,g',h5⟩)
   ·rw [HRl.out] at h64
    have htt:t=64:=by have:=HT64.out;omega
    have d1:decide ((t:Int) <64) =false:=by simp;omega
    have K5:=LH h5;have HLe:=LH (fun W hb=>sea_Len (h5.sea.below (W':=W) hb));rw [HRl.out,htt] at HLe;have B5:=LH (Below.then_ B0.out h5.blw);have hm:min z 64=64:=Int.min_eq_right (by have:=HLt.out;omega);clear h5 h64 K4 htt;go_wp2_with (simp only [hzn]);refine(HLe.out _ (Below.refl _ _)).mono ?_;rintro e w6 ⟨rfl,hb6⟩;have B6:=LH (Below.then_ B5.out hb6);clear hb6 d1 hdt;go_wp2_with fail;refine(HAl.out _ B6.out).mono ?_;rintro e w7 ⟨rfl,hb7⟩;have B7:=LH (Below.then_ B6.out hb7);clear hb7;go_wp2_with fail;exact bR (v:=.bool true) (by simp only [results,Tryz.results3];go_simp) rfl ⟨rfl,B7.out⟩
   ·rw [HRl.out] at h64
    have d1:decide ((t:Int) <64) =true:=by simp;omega
    have HL5:Hid (SO wb L gs (2* (t+1)) ((t+1:Nat) :Int) (mO ((t+1:Nat) :Int) []) (rs ++ [⟨g',1, []⟩]) w5):=LH (by rw [show 2* (t+1) =2*t+1+1 by omega];push_cast;exact h5);have HL64:=LH h64;clear h5 h64 K4;go_wp2_with fail;have hwr:wrap64 ((t:Int) +1) = ((t+1:Nat) :Int):=by have:=HL64.out;unfold wrap64;omega
    go_roundw
    case rel=>exact⟨t+1,_,by first|rw [hwr] |go_num,by have:=HLt.out;push_cast;omega,HL64.out,by simp [HRl.out],HL5.out⟩
    case measure=>have:=HLt.out;first| (rw [hwr];simp [intOf];omega) | (simp [intOf];omega)
  ·have hdt:decide ((t:Int) <z) =false:=by simpa using hlt
   have HLe:=LH (fun W hb=>sea_Len (hS.sea.below (W':=W) hb));rw [hrl] at HLe;have hm:min z 64= (t:Int):=by rw [Int.min_eq_left (by omega)];omega
   clear hS hrl;go_wp2_with (simp only [hzn]);refine(HLe.out _ (Below.refl _ _)).mono ?_;rintro e w6 ⟨rfl,hb6⟩;have B6:=LH (Below.then_ BS.out hb6);clear hb6 hdt;go_wp2_with fail;refine(HAl.out _ B6.out).mono ?_;rintro e w7 ⟨rfl,hb7⟩;have B7:=LH (Below.then_ B6.out hb7);clear hb7;go_wp2_with fail;exact bR (v:=.bool true) (by simp only [results,Tryz.results3];go_simp) rfl ⟨rfl,B7.out⟩
theorem law_SeasonFull (a:Int) (w:World) (wa: (Lit.int IntKind.u8 a).wf=true) (hT:TabZ w) :Calls Tryz.prog 3 #[.int .u8 a] w fun e w'=>e=.returned (.bool true)∧Below w.heap.size w w':=by
 have hmn:IntKind.u8.min=0:=by decide
 have hmx:IntKind.u8.max=255:=by decide
 simp only [Lit.wf,Bool.and_eq_true,decide_eq_true_eq,hmn,hmx] at wa;obtain⟨n,rfl⟩:=Int.eq_ofNat_of_zero_le wa.1;exact law_SeasonFull_ n (by omega) w hT
end Go.Proofs.YtlgnakobjkhmhaaGreatDoor
