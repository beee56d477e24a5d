/-
  Texts of this proof, one behind the other: Ref29D, Ref31H, StepLaw, Ref31M, Ref31T.
-/
import Derived.Test.YtandlhihcnadmaaGreatR2
import Derived.Test.YtandlhihcnadmaaGreatR4
import Derived.Test.YtandlhihcnadmaaGreatR6
import Derived.Test.YtandlhihcnadmaaGreatR7
import Derived.Test.YtandlhihcnadmaaGreatR8
set_option linter.unusedVariables false
set_option linter.unusedSimpArgs false
set_option maxRecDepth 100000
set_option maxHeartbeats 16000000
namespace Go.Proofs.YtandlhihcnadmaaGreat
open Go.ChangeShapes Go.WideShapes Go.ChangeAt Go.RowKit
def noL (e:Int) :Ltr×Int:=(noLtr,e)
def dl4 (a b c n:Nat) (s:List UInt8) :Ltr×Int:=if s.length<n then noL 9 else if n<s.length then noL 11 else (⟨a,b,c,s⟩,0)
def dl3 (a b c:Nat) (n:Nat×Nat×Int) (s:List UInt8) :Ltr×Int:=if n.2.2≠0 then noL n.2.2 else if 1048576<n.1 then noL 13 else dl4 a b c n.1 (s.drop n.2.1)
def dl2 (a b:Nat) (c:Nat×Nat×Int) (s:List UInt8) :Ltr×Int:=if c.2.2≠0 then noL c.2.2 else if (rightC c.1 && hasC c.1 b) =false then noL 10 else dl3 a b c.1 (getB (s.drop c.2.1)) (s.drop c.2.1)
def dl1 (a:Nat) (b:Nat×Nat×Int) (s:List UInt8) :Ltr×Int:=if b.2.2≠0 then noL b.2.2 else if isCrew b.1=false then noL 10 else dl2 a b.1 (getB (s.drop b.2.1)) (s.drop b.2.1)
def dl0 (a:Nat×Nat×Int) (s:List UInt8) :Ltr×Int:=if a.2.2≠0 then noL a.2.2 else dl1 a.1 (getB (s.drop a.2.1)) (s.drop a.2.1)
def dlW (o:List UInt8×Int) :Ltr×Int:=if o.2≠0 then noL o.2 else if o.1.length<4 then noL 9 else if o.1.take 4≠ [68,87,76,1] then noL 10 else dl0 (getB (o.1.drop 4)) (o.1.drop 4)
theorem decL_dl (s:List UInt8) :decL s=dlW (openT s):=rfl
def LtPost (s:List UInt8) (w:World) (e:Ending) (w':World) :Prop:=
 e=.returned (.tuple #[.agg #[.int .i64 (decL s).1.e,.int .i64 (decL s).1.f,.int .u64 (decL s).1.c,.string ⟨(decL s).1.b.toArray⟩],.int .i64 (decL s).2])∧Below w.heap.size w w'
theorem LtPost.no {s:List UInt8} {w w':World} {er:Int} (h:decL s=noL er) (hb:Below w.heap.size w w') :LtPost s w (.returned (.tuple #[.agg #[.int .i64 0,.int .i64 0,.int .u64 0,.string ⟨#[]⟩],.int .i64 er])) w':=by
 unfold LtPost;rw [h];exact⟨rfl,hb⟩
theorem LtPost.ok {s:List UInt8} {w w':World} {a b c:Nat} {t:List UInt8} (h:decL s= (⟨a,b,c,t⟩,0)) (hb:Below w.heap.size w w') :LtPost s w (.returned (.tuple #[.agg #[.int .i64 a,.int .i64 b,.int .u64 c,.string ⟨t.toArray⟩],.int .i64 0])) w':=by
 unfold LtPost;rw [h];exact⟨rfl,hb⟩
structure DcR (w:World) (W:World) :Prop where
 x:W.heap[w.heap.size]? =some (.cells #[.int .i64 0,.int .i64 0,.int .u64 0,.string ⟨#[]⟩] 64 (0,0))
 y:W.heap[w.heap.size+1]? =some (.cells #[.int .i64 0,.int .i64 0,.int .u64 0,.string ⟨#[]⟩] 64 (0,0))
 b:Below w.heap.size w W
theorem DcR.below {w W W':World} (h:DcR w W) (hb:Below W.heap.size W W') :DcR w W':=⟨bB h.x hb,bB h.y hb,h.b.trans (hb.mono h.b.size)⟩
theorem lt_store {W:World} {q:Nat} {a b c d:Value} (h:W.heap[q]? =some (.cells #[a,b,c,d] 64 (0,0))) (u v x y:Value) : ((((W.setCell ⟨q,0,none⟩ u).setCell ⟨q,1,none⟩ v).setCell ⟨q,2,none⟩ x).setCell ⟨q,3,none⟩ y).heap[q]? =some (.cells #[u,v,x,y] 64 (0,0)):=by
 have h0:=zH (i:=0) h u;have h1:=zH (i:=1) h0 v;have h2:=zH (i:=2) h1 x;exact zH (i:=3) h2 y
theorem lt_below {w W:World} {q:Nat} (h:Below w.heap.size w W) (hq:w.heap.size≤q) (u v x y:Value) :Below w.heap.size w ((((W.setCell ⟨q,0,none⟩ u).setCell ⟨q,1,none⟩ v).setCell ⟨q,2,none⟩ x).setCell ⟨q,3,none⟩ y):=(((h.setCell (p:=⟨q,0,none⟩) hq u).setCell (p:=⟨q,1,none⟩) hq v).setCell (p:=⟨q,2,none⟩) hq x).setCell (p:=⟨q,3,none⟩) hq y
def ArAt (W:World) (g:Nat) (a b c d:Nat) :Prop:=W.heap[g]? =some (.cells #[.int .i64 a,.int .i64 b,.int .i64 c,.int .i64 d] 120 (0,0))
theorem ArAt.below {w w':World} {g a b c d:Nat} (h:ArAt w g a b c d) (hb:Below w.heap.size w w') :ArAt w' g a b c d:=bB h hb
theorem DcR.other {w W:World} {g o:Nat} (h:DcR w W) (hg:w.heap.size+2≤g) (u:Value) :DcR w (W.setCell ⟨g,o,none⟩ u):=⟨(Below.heap_setCell _ _ _ _ (by simp;omega)).trans h.x,(Below.heap_setCell _ _ _ _ (by simp;omega)).trans h.y,h.b.setCell (p:=⟨g,o,none⟩) (by simp;omega) u⟩
theorem ref29_Decode (w:World) (s:List UInt8) (hs:s.length≤8000000) :
 Calls Tryz.prog 16 #[.string ⟨s.toArray⟩] w (LtPost s w):=by
 have HRd:=LH (decL_dl s);have HOp:=LH (fun W=>ref23_Open W s hs);unfold OpenPost at HOp;have hol:=openT_len s;have R0:Hid (DcR w ((w.alloc (.cells #[.int .i64 0,.int .i64 0,.int .u64 0,.string ⟨#[]⟩] 64)).alloc (.cells #[.int .i64 0,.int .i64 0,.int .u64 0,.string ⟨#[]⟩] 64))):=LH ⟨(heap_new_lt _ _ _ (by simp)).trans (heap_alloc_new w _),heap_new_at (w.alloc _) _ _ (by simp),bE⟩;generalize openT s=oo at HRd HOp hol;obtain⟨t,e0⟩:=oo;dsimp only at HOp hol;have hts:t.length≤8000000:=by omega
 clear hol hs
 go_enter Tryz.func16,Tryz.ntmps16
 go_upto_region 2 with fail;generalize ((w.alloc (.cells #[.int .i64 0,.int .i64 0,.int .u64 0,.string ⟨#[]⟩] 64)).alloc (.cells #[.int .i64 0,.int .i64 0,.int .u64 0,.string ⟨#[]⟩] 64)) =W0 at R0⊢;go_wp2_with fail;refine(HOp.out W0).mono ?_;rintro e w1 ⟨rfl,hb⟩;have R1:=LH (R0.out.below hb);clear hb R0 HOp;by_cases h1:e0=0
 case neg=>
  have HE:Hid (decL s=noL e0):=LH (by rw [HRd.out];unfold dlW;exact if_pos h1);have h1i: (e0 == 0) =false:=by simpa using h1
  have cy:=bC R1.out.y;have zy:=lB R1.out.y;have cx:=bC R1.out.x;have fx:=bF R1.out.x;have zx:=lB R1.out.x;have Y:=LH (lt_store R1.out.x (.int .i64 0) (.int .i64 0) (.int .u64 0) (.string ⟨#[]⟩));have B:=LH (lt_below R1.out.b (q:=w.heap.size) (Nat.le_refl _) (.int .i64 0) (.int .i64 0) (.int .u64 0) (.string ⟨#[]⟩));go_wp2_with fail;clear cy zy cx fx zx;generalize ((((w1.setCell ⟨w.heap.size,0,none⟩ (.int .i64 0)).setCell ⟨w.heap.size,1,none⟩ (.int .i64 0)).setCell ⟨w.heap.size,2,none⟩ (.int .u64 0)).setCell ⟨w.heap.size,3,none⟩ (.string ⟨#[]⟩)) =wz at Y B⊢;have ce:=bC Y.out;have fe:=bF Y.out;have ze:=lB Y.out;exact bR (v:=.tuple #[.agg #[.int .i64 0,.int .i64 0,.int .u64 0,.string ⟨#[]⟩],.int .i64 e0]) (by simp only [results,Tryz.results16];go_simp) rfl (LtPost.no HE.out B.out)
 subst h1;have HR1:Hid (decL s=if t.length<4 then noL 9 else if t.take 4≠ [68,87,76,1] then noL 10 else dl0 (getB (t.drop 4)) (t.drop 4)):=LH (by rw [HRd.out];unfold dlW;exact if_neg (by simp));clear HRd;by_cases h2:t.length<4
 case pos=>
  have HE:=LH (HR1.out.trans (if_pos h2));have h2i: (t.length:Int) <4:=by omega
  have cy:=bC R1.out.y;have zy:=lB R1.out.y;have cx:=bC R1.out.x;have fx:=bF R1.out.x;have zx:=lB R1.out.x;have Y:=LH (lt_store R1.out.x (.int .i64 0) (.int .i64 0) (.int .u64 0) (.string ⟨#[]⟩));have B:=LH (lt_below R1.out.b (q:=w.heap.size) (Nat.le_refl _) (.int .i64 0) (.int .i64 0) (.int .u64 0) (.string ⟨#[]⟩));go_wp2_with fail;clear cy zy cx fx zx;generalize ((((w1.setCell ⟨w.heap.size,0,none⟩ (.int .i64 0)).setCell ⟨w.heap.size,1,none⟩ (.int .i64 0)).setCell ⟨w.heap.size,2,none⟩ (.int .u64 0)).setCell ⟨w.heap.size,3,none⟩ (.string ⟨#[]⟩)) =wz at Y B⊢;have ce:=bC Y.out;have fe:=bF Y.out;have ze:=lB Y.out;exact bR (v:=.tuple #[.agg #[.int .i64 0,.int .i64 0,.int .u64 0,.string ⟨#[]⟩],.int .i64 9]) (by simp only [results,Tryz.results16];go_simp) rfl (LtPost.no HE.out B.out)
 have h2i: ¬(t.length:Int) <4:=by omega
 have h2j:decide ((t.length:Int) <4) =false:=by simp;omega
 have HR2:=LH (HR1.out.trans (if_neg h2));have htt:=text_take t 4;clear HR1;by_cases h3:t.take 4= [68,87,76,1]
 case neg=>
  have HE:=LH (HR2.out.trans (if_pos h3));have h3i: (t.take 4 == [68,87,76,1]) =false:=by simpa using h3
  generalize t.take 4=t4 at htt h3i;clear h3;have cy:=bC R1.out.y;have zy:=lB R1.out.y;have cx:=bC R1.out.x;have fx:=bF R1.out.x;have zx:=lB R1.out.x;have Y:=LH (lt_store R1.out.x (.int .i64 0) (.int .i64 0) (.int .u64 0) (.string ⟨#[]⟩));have B:=LH (lt_below R1.out.b (q:=w.heap.size) (Nat.le_refl _) (.int .i64 0) (.int .i64 0) (.int .u64 0) (.string ⟨#[]⟩));go_wp2_with fail;clear cy zy cx fx zx;generalize ((((w1.setCell ⟨w.heap.size,0,none⟩ (.int .i64 0)).setCell ⟨w.heap.size,1,none⟩ (.int .i64 0)).setCell ⟨w.heap.size,2,none⟩ (.int .u64 0)).setCell ⟨w.heap.size,3,none⟩ (.string ⟨#[]⟩)) =wz at Y B⊢;have ce:=bC Y.out;have fe:=bF Y.out;have ze:=lB Y.out;exact bR (v:=.tuple #[.agg #[.int .i64 0,.int .i64 0,.int .u64 0,.string ⟨#[]⟩],.int .i64 10]) (by simp only [results,Tryz.results16];go_simp) rfl (LtPost.no HE.out B.out)
 have HR3:=LH (HR2.out.trans (if_neg (fun h=>h h3)));rw [h3] at htt;clear HR2 h3;have htd:=text_drop t 4;have hdl: (t.drop 4).length≤8000000:=by rw [List.length_drop];omega
 generalize t.drop 4=s0 at htd hdl HR3;have A1:=LH (show ArAt (w1.alloc (.cells #[.int .i64 (0:Nat),.int .i64 (0:Nat),.int .i64 (0:Nat),.int .i64 (0:Nat)] 120)) w1.heap.size 0 0 0 0 from heap_alloc_new w1 _);have R2:=LH (R1.out.below ((Below.refl w1.heap.size w1).alloc (Nat.le_refl _) (.cells #[.int .i64 (0:Nat),.int .i64 (0:Nat),.int .i64 (0:Nat),.int .i64 (0:Nat)] 120)));have hpa:w.heap.size+2≤w1.heap.size:=by have:=lB R1.out.y;omega
 go_upto_region 11 with fail;obtain⟨pa,hpe⟩ : ∃q,q=w1.heap.size:=⟨_,rfl⟩;rw [←hpe] at A1 hpa⊢;have hz: (w1.alloc (.cells #[.int .i64 (0:Nat),.int .i64 (0:Nat),.int .i64 (0:Nat),.int .i64 (0:Nat)] 120)) = (w1.alloc (.cells #[.int .i64 0,.int .i64 0,.int .i64 0,.int .i64 0] 120)):=rfl;rw [hz] at A1 R2;generalize w1.alloc (.cells #[.int .i64 0,.int .i64 0,.int .i64 0,.int .i64 0] 120) =w2 at A1 R2⊢;clear hpe R1 hz;go_wp2_with fail
 go_loopw [5,8] (fun tv i W=>∃(q:Nat) (u:List UInt8) (a b c n:Nat),i=.int .i64 q∧tv=.string ⟨u.toArray⟩∧u.length≤8000000∧DcR w W∧ArAt W pa a b c n∧((q=0∧decL s=dl0 (getB u) u)∨(q=1∧decL s=dl1 a (getB u) u)∨(q=2∧b≤47∧decL s=dl2 a b (getB u) u)∨(q=3∧b≤47∧c≤281474976710655∧decL s=dl3 a b c (getB u) u)∨(q=4∧c≤281474976710655∧n≤1048576∧decL s=dl4 a b c n u))) (fun _ i _=>4 - (intOf i).toNat)
 case atStart=>exact⟨0,s0,0,0,0,0,rfl,rfl,hdl,R2.out,A1.out,.inl ⟨rfl,HR3.out⟩⟩
 case round=>
  obtain⟨q,u,a,b,c,n,rfl,rfl,hul,hR,hA,hq⟩:=hrel;have RR:=LH hR;have AA:=LH hA;clear hR hA HR3 A1 R2 htd hdl htt h2i h2j;have HGt:=LH (ref22_Get wr u (by omega));unfold GetPost at HGt;have HBd:=LH (getB_bounds u);have htd:=text_drop u;have hdl: ∀z,(u.drop z).length≤8000000:=fun z=>by rw [List.length_drop];omega
  have HD:=LH (And.intro htd hdl);clear htd hdl;generalize hG:getB u=G at HGt HBd hq;clear hG;obtain⟨v,z,er⟩:=G;dsimp only at HGt HBd;have hv9:=HBd.out.1;have hzl:=HBd.out.2.2.1;have ca:=bC AA.out;have fa:=bF AA.out;have za:=lB AA.out;rcases hq with ⟨rfl,hq⟩ |hq
  case inl=>
   have HQ:=LH hq;clear hq;go_wp2_with fail;refine HGt.out.mono ?_;rintro e w3 ⟨rfl,hb3⟩;have R3:=LH (RR.out.below hb3);have A3:=LH (AA.out.below hb3);clear hb3 HGt ca fa za RR AA;by_cases he:er=0
   case neg=>
    have HE:Hid (decL s=noL er):=LH (HQ.out.trans (if_pos he));have hei: (er == 0) =false:=by simpa using he
    have cy:=bC R3.out.y;have zy:=lB R3.out.y;have cx:=bC R3.out.x;have fx:=bF R3.out.x;have zx:=lB R3.out.x;have Y:=LH (lt_store R3.out.x (.int .i64 0) (.int .i64 0) (.int .u64 0) (.string ⟨#[]⟩));have B:=LH (lt_below R3.out.b (q:=w.heap.size) (Nat.le_refl _) (.int .i64 0) (.int .i64 0) (.int .u64 0) (.string ⟨#[]⟩));go_wp2_with fail;clear cy zy cx fx zx;generalize ((((w3.setCell ⟨w.heap.size,0,none⟩ (.int .i64 0)).setCell ⟨w.heap.size,1,none⟩ (.int .i64 0)).setCell ⟨w.heap.size,2,none⟩ (.int .u64 0)).setCell ⟨w.heap.size,3,none⟩ (.string ⟨#[]⟩)) =wz at Y B⊢;have ce:=bC Y.out;have fe:=bF Y.out;have ze:=lB Y.out;exact bR (v:=.tuple #[.agg #[.int .i64 0,.int .i64 0,.int .u64 0,.string ⟨#[]⟩],.int .i64 er]) (by simp only [results,Tryz.results16];go_simp) rfl (LtPost.no HE.out B.out)
   subst he;have HQ2:Hid (decL s=dl1 v (getB (u.drop z)) (u.drop z)):=LH (HQ.out.trans (if_neg (by simp)));clear HQ;have htd:=HD.out.1 z;have hdl:=HD.out.2 z;clear HD;generalize u.drop z=u2 at htd hdl HQ2;have ca:=bC A3.out;have fa:=bF A3.out;have za:=lB A3.out;have A4:Hid (ArAt (w3.setCell ⟨pa,0,none⟩ (.int .i64 v)) pa v b c n):=LH (zH (i:=0) A3.out _);have R4:=LH (R3.out.other (o:=0) hpa (.int .i64 v));go_upto_region 18 with fail;generalize w3.setCell ⟨pa,0,none⟩ (.int .i64 v) =w4 at A4 R4⊢;clear ca fa za A3 R3;go_wp2_with fail;go_roundw
   case rel=>exact⟨1,u2,v,b,c,n,by go_num,rfl,hdl,R4.out,A4.out,.inr (.inl ⟨rfl,HQ2.out⟩)⟩
   case measure=>simp [intOf]
  rcases hq with ⟨rfl,hq⟩ |hq
  case inl=>
   have HQ:=LH hq;clear hq;go_wp2_with fail;refine HGt.out.mono ?_;rintro e w3 ⟨rfl,hb3⟩;have R3:=LH (RR.out.below hb3);have A3:=LH (AA.out.below hb3);clear hb3 HGt ca fa za RR AA;by_cases he:er=0
   case neg=>
    have HE:Hid (decL s=noL er):=LH (HQ.out.trans (if_pos he));have hei: (er == 0) =false:=by simpa using he
    have cy:=bC R3.out.y;have zy:=lB R3.out.y;have cx:=bC R3.out.x;have fx:=bF R3.out.x;have zx:=lB R3.out.x;have Y:=LH (lt_store R3.out.x (.int .i64 0) (.int .i64 0) (.int .u64 0) (.string ⟨#[]⟩));have B:=LH (lt_below R3.out.b (q:=w.heap.size) (Nat.le_refl _) (.int .i64 0) (.int .i64 0) (.int .u64 0) (.string ⟨#[]⟩));go_wp2_with fail;clear cy zy cx fx zx;generalize ((((w3.setCell ⟨w.heap.size,0,none⟩ (.int .i64 0)).setCell ⟨w.heap.size,1,none⟩ (.int .i64 0)).setCell ⟨w.heap.size,2,none⟩ (.int .u64 0)).setCell ⟨w.heap.size,3,none⟩ (.string ⟨#[]⟩)) =wz at Y B⊢;have ce:=bC Y.out;have fe:=bF Y.out;have ze:=lB Y.out;exact bR (v:=.tuple #[.agg #[.int .i64 0,.int .i64 0,.int .u64 0,.string ⟨#[]⟩],.int .i64 er]) (by simp only [results,Tryz.results16];go_simp) rfl (LtPost.no HE.out B.out)
   subst he;have HQ2:Hid (decL s=if isCrew v=false then noL 10 else dl2 a v (getB (u.drop z)) (u.drop z)):=LH (HQ.out.trans (if_neg (by simp)));clear HQ;have htd:=HD.out.1 z;have hdl:=HD.out.2 z;clear HD;generalize u.drop z=u2 at htd hdl HQ2;have ca:=bC A3.out;have fa:=bF A3.out;have za:=lB A3.out;have A4:Hid (ArAt (w3.setCell ⟨pa,1,none⟩ (.int .i64 v)) pa a v c n):=LH (zH (i:=1) A3.out _);have R4:=LH (R3.out.other (o:=1) hpa (.int .i64 v));go_upto_region 18 with fail;generalize w3.setCell ⟨pa,1,none⟩ (.int .i64 v) =w4 at A4 R4⊢;clear ca fa za A3 R3;have HIs:=LH (ref27_Is (v:Int) w4)
   cases hc:isCrew (v:Int)
   ·rw [hc] at HIs
    have HE:=LH (HQ2.out.trans (if_pos hc));clear hc HQ2;go_wp2_with fail;refine HIs.out.mono ?_;rintro e w5 ⟨rfl,hb5⟩;have R5:=LH (R4.out.below hb5);clear hb5;have cy:=bC R5.out.y;have zy:=lB R5.out.y;have cx:=bC R5.out.x;have fx:=bF R5.out.x;have zx:=lB R5.out.x;have Y:=LH (lt_store R5.out.x (.int .i64 0) (.int .i64 0) (.int .u64 0) (.string ⟨#[]⟩));have B:=LH (lt_below R5.out.b (q:=w.heap.size) (Nat.le_refl _) (.int .i64 0) (.int .i64 0) (.int .u64 0) (.string ⟨#[]⟩));go_wp2_with fail;clear cy zy cx fx zx;generalize ((((w5.setCell ⟨w.heap.size,0,none⟩ (.int .i64 0)).setCell ⟨w.heap.size,1,none⟩ (.int .i64 0)).setCell ⟨w.heap.size,2,none⟩ (.int .u64 0)).setCell ⟨w.heap.size,3,none⟩ (.string ⟨#[]⟩)) =wz at Y B⊢;have ce:=bC Y.out;have fe:=bF Y.out;have ze:=lB Y.out;exact bR (v:=.tuple #[.agg #[.int .i64 0,.int .i64 0,.int .u64 0,.string ⟨#[]⟩],.int .i64 10]) (by simp only [results,Tryz.results16];go_simp) rfl (LtPost.no HE.out B.out)
   ·rw [hc] at HIs
    have HE:=LH (HQ2.out.trans (if_neg (by rw [hc];simp)));have hv47:v≤47:=by obtain⟨m,hm,hm2⟩:=isCrew_nat hc;omega
    clear hc HQ2;go_wp2_with fail;refine HIs.out.mono ?_;rintro e w5 ⟨rfl,hb5⟩;have R5:=LH (R4.out.below hb5);have A5:=LH (A4.out.below hb5);clear hb5;go_wp2_with fail;go_roundw
    case rel=>exact⟨2,u2,a,v,c,n,by go_num,rfl,hdl,R5.out,A5.out,.inr (.inr (.inl ⟨rfl,hv47,HE.out⟩))⟩
    case measure=>simp [intOf]
  rcases hq with ⟨rfl,hb47,hq⟩ |hq
  case inl=>
   have HQ:=LH hq;clear hq;go_wp2_with fail;refine HGt.out.mono ?_;rintro e w3 ⟨rfl,hb3⟩;have R3:=LH (RR.out.below hb3);have A3:=LH (AA.out.below hb3);clear hb3 HGt ca fa za RR AA;by_cases he:er=0
   case neg=>
    have HE:Hid (decL s=noL er):=LH (HQ.out.trans (if_pos he));have hei: (er == 0) =false:=by simpa using he
    have cy:=bC R3.out.y;have zy:=lB R3.out.y;have cx:=bC R3.out.x;have fx:=bF R3.out.x;have zx:=lB R3.out.x;have Y:=LH (lt_store R3.out.x (.int .i64 0) (.int .i64 0) (.int .u64 0) (.string ⟨#[]⟩));have B:=LH (lt_below R3.out.b (q:=w.heap.size) (Nat.le_refl _) (.int .i64 0) (.int .i64 0) (.int .u64 0) (.string ⟨#[]⟩));go_wp2_with fail;clear cy zy cx fx zx;generalize ((((w3.setCell ⟨w.heap.size,0,none⟩ (.int .i64 0)).setCell ⟨w.heap.size,1,none⟩ (.int .i64 0)).setCell ⟨w.heap.size,2,none⟩ (.int .u64 0)).setCell ⟨w.heap.size,3,none⟩ (.string ⟨#[]⟩)) =wz at Y B⊢;have ce:=bC Y.out;have fe:=bF Y.out;have ze:=lB Y.out;exact bR (v:=.tuple #[.agg #[.int .i64 0,.int .i64 0,.int .u64 0,.string ⟨#[]⟩],.int .i64 er]) (by simp only [results,Tryz.results16];go_simp) rfl (LtPost.no HE.out B.out)
   subst he;have HQ2:Hid (decL s=if (rightC v && hasC v b) =false then noL 10 else dl3 a b v (getB (u.drop z)) (u.drop z)):=LH (HQ.out.trans (if_neg (by simp)));clear HQ;have htd:=HD.out.1 z;have hdl:=HD.out.2 z;clear HD;generalize u.drop z=u2 at htd hdl HQ2;have ca:=bC A3.out;have fa:=bF A3.out;have za:=lB A3.out;have A4:Hid (ArAt (w3.setCell ⟨pa,2,none⟩ (.int .i64 v)) pa a b v n):=LH (zH (i:=2) A3.out _);have R4:=LH (R3.out.other (o:=2) hpa (.int .i64 v));go_upto_region 18 with fail;generalize w3.setCell ⟨pa,2,none⟩ (.int .i64 v) =w4 at A4 R4⊢;clear ca fa za A3 R3;have HRi:=LH (ref27_Right v w4);have HHs:=LH (fun W=>ref27_Has v (b:Int) (by omega) W);have hcv:IntKind.u64.wrap (v:Int) = (v:Int):=wrap_u64s (by omega) (by omega)
   cases hc:rightC v
   ·rw [hc] at HRi
    have HE:=LH (HQ2.out.trans (if_pos (by rw [hc];rfl)));clear hc HQ2;go_wp2_with fail;refine HRi.out.mono ?_;rintro e w5 ⟨rfl,hb5⟩;have R5:=LH (R4.out.below hb5);clear hb5;have cy:=bC R5.out.y;have zy:=lB R5.out.y;have cx:=bC R5.out.x;have fx:=bF R5.out.x;have zx:=lB R5.out.x;have Y:=LH (lt_store R5.out.x (.int .i64 0) (.int .i64 0) (.int .u64 0) (.string ⟨#[]⟩));have B:=LH (lt_below R5.out.b (q:=w.heap.size) (Nat.le_refl _) (.int .i64 0) (.int .i64 0) (.int .u64 0) (.string ⟨#[]⟩));go_wp2_with fail;clear cy zy cx fx zx;generalize ((((w5.setCell ⟨w.heap.size,0,none⟩ (.int .i64 0)).setCell ⟨w.heap.size,1,none⟩ (.int .i64 0)).setCell ⟨w.heap.size,2,none⟩ (.int .u64 0)).setCell ⟨w.heap.size,3,none⟩ (.string ⟨#[]⟩)) =wz at Y B⊢;have ce:=bC Y.out;have fe:=bF Y.out;have ze:=lB Y.out;exact bR (v:=.tuple #[.agg #[.int .i64 0,.int .i64 0,.int .u64 0,.string ⟨#[]⟩],.int .i64 10]) (by simp only [results,Tryz.results16];go_simp) rfl (LtPost.no HE.out B.out)
   ·rw [hc] at HRi
    have hv48:v≤281474976710655:=by unfold rightC at hc;simpa using hc
    rw [hc,Bool.true_and] at HQ2;clear hc;go_wp2_with fail;refine HRi.out.mono ?_;rintro e w5 ⟨rfl,hb5⟩;have R5:=LH (R4.out.below hb5);have A5:=LH (A4.out.below hb5);clear hb5 HRi R4 A4;have H5:=LH (HHs.out w5);have ca:=bC A5.out;have za:=lB A5.out
    cases hh:hasC v (b:Int)
    ·rw [hh] at H5
     have HE:=LH (HQ2.out.trans (if_pos hh));clear hh HQ2;go_wp2_with fail;refine H5.out.mono ?_;rintro e w6 ⟨rfl,hb6⟩;have R6:=LH (R5.out.below hb6);clear hb6 ca za;have cy:=bC R6.out.y;have zy:=lB R6.out.y;have cx:=bC R6.out.x;have fx:=bF R6.out.x;have zx:=lB R6.out.x;have Y:=LH (lt_store R6.out.x (.int .i64 0) (.int .i64 0) (.int .u64 0) (.string ⟨#[]⟩));have B:=LH (lt_below R6.out.b (q:=w.heap.size) (Nat.le_refl _) (.int .i64 0) (.int .i64 0) (.int .u64 0) (.string ⟨#[]⟩));go_wp2_with fail;clear cy zy cx fx zx;generalize ((((w6.setCell ⟨w.heap.size,0,none⟩ (.int .i64 0)).setCell ⟨w.heap.size,1,none⟩ (.int .i64 0)).setCell ⟨w.heap.size,2,none⟩ (.int .u64 0)).setCell ⟨w.heap.size,3,none⟩ (.string ⟨#[]⟩)) =wz at Y B⊢;have ce:=bC Y.out;have fe:=bF Y.out;have ze:=lB Y.out;exact bR (v:=.tuple #[.agg #[.int .i64 0,.int .i64 0,.int .u64 0,.string ⟨#[]⟩],.int .i64 10]) (by simp only [results,Tryz.results16];go_simp) rfl (LtPost.no HE.out B.out)
    ·rw [hh] at H5
     have HE:=LH (HQ2.out.trans (if_neg (by rw [hh];simp)));clear hh HQ2;go_wp2_with fail;refine H5.out.mono ?_;rintro e w6 ⟨rfl,hb6⟩;have R6:=LH (R5.out.below hb6);have A6:=LH (A5.out.below hb6);clear hb6 ca za;go_wp2_with fail;go_roundw
     case rel=>exact⟨3,u2,a,b,v,n,by go_num,rfl,hdl,R6.out,A6.out,.inr (.inr (.inr (.inl ⟨rfl,hb47,hv48,HE.out⟩)))⟩
     case measure=>simp [intOf]
  rcases hq with ⟨rfl,hb47,hc48,hq⟩ |hq
  case inl=>
   have HQ:=LH hq;clear hq;go_wp2_with fail;refine HGt.out.mono ?_;rintro e w3 ⟨rfl,hb3⟩;have R3:=LH (RR.out.below hb3);have A3:=LH (AA.out.below hb3);clear hb3 HGt ca fa za RR AA;by_cases he:er=0
   case neg=>
    have HE:Hid (decL s=noL er):=LH (HQ.out.trans (if_pos he));have hei: (er == 0) =false:=by simpa using he
    have cy:=bC R3.out.y;have zy:=lB R3.out.y;have cx:=bC R3.out.x;have fx:=bF R3.out.x;have zx:=lB R3.out.x;have Y:=LH (lt_store R3.out.x (.int .i64 0) (.int .i64 0) (.int .u64 0) (.string ⟨#[]⟩));have B:=LH (lt_below R3.out.b (q:=w.heap.size) (Nat.le_refl _) (.int .i64 0) (.int .i64 0) (.int .u64 0) (.string ⟨#[]⟩));go_wp2_with fail;clear cy zy cx fx zx;generalize ((((w3.setCell ⟨w.heap.size,0,none⟩ (.int .i64 0)).setCell ⟨w.heap.size,1,none⟩ (.int .i64 0)).setCell ⟨w.heap.size,2,none⟩ (.int .u64 0)).setCell ⟨w.heap.size,3,none⟩ (.string ⟨#[]⟩)) =wz at Y B⊢;have ce:=bC Y.out;have fe:=bF Y.out;have ze:=lB Y.out;exact bR (v:=.tuple #[.agg #[.int .i64 0,.int .i64 0,.int .u64 0,.string ⟨#[]⟩],.int .i64 er]) (by simp only [results,Tryz.results16];go_simp) rfl (LtPost.no HE.out B.out)
   subst he;have HQ2:Hid (decL s=if 1048576<v then noL 13 else dl4 a b c v (u.drop z)):=LH (HQ.out.trans (if_neg (by simp)));clear HQ;have htd:=HD.out.1 z;have hdl:=HD.out.2 z;clear HD;generalize u.drop z=u2 at htd hdl HQ2;have ca:=bC A3.out;have fa:=bF A3.out;have za:=lB A3.out;have A4:Hid (ArAt (w3.setCell ⟨pa,3,none⟩ (.int .i64 v)) pa a b c v):=LH (zH (i:=3) A3.out _);have R4:=LH (R3.out.other (o:=3) hpa (.int .i64 v));go_upto_region 18 with fail;generalize w3.setCell ⟨pa,3,none⟩ (.int .i64 v) =w4 at A4 R4⊢;clear ca fa za A3 R3;by_cases hm:1048576<v
   case pos=>
    have HE:=LH (HQ2.out.trans (if_pos hm));have hmi:decide ((1048576:Int) < (v:Int)) =true:=by simp;omega
    clear hm;have cy:=bC R4.out.y;have zy:=lB R4.out.y;have cx:=bC R4.out.x;have fx:=bF R4.out.x;have zx:=lB R4.out.x;have Y:=LH (lt_store R4.out.x (.int .i64 0) (.int .i64 0) (.int .u64 0) (.string ⟨#[]⟩));have B:=LH (lt_below R4.out.b (q:=w.heap.size) (Nat.le_refl _) (.int .i64 0) (.int .i64 0) (.int .u64 0) (.string ⟨#[]⟩));go_wp2_with fail;clear cy zy cx fx zx;generalize ((((w4.setCell ⟨w.heap.size,0,none⟩ (.int .i64 0)).setCell ⟨w.heap.size,1,none⟩ (.int .i64 0)).setCell ⟨w.heap.size,2,none⟩ (.int .u64 0)).setCell ⟨w.heap.size,3,none⟩ (.string ⟨#[]⟩)) =wz at Y B⊢;have ce:=bC Y.out;have fe:=bF Y.out;have ze:=lB Y.out;exact bR (v:=.tuple #[.agg #[.int .i64 0,.int .i64 0,.int .u64 0,.string ⟨#[]⟩],.int .i64 13]) (by simp only [results,Tryz.results16];go_simp) rfl (LtPost.no HE.out B.out)
   have HE:=LH (HQ2.out.trans (if_neg hm));have hmi:decide ((1048576:Int) < (v:Int)) =false:=by simp;omega
   have hv20:v≤1048576:=by omega
   clear hm HQ2;go_wp2_with fail;go_roundw
   case rel=>exact⟨4,u2,a,b,c,v,by go_num,rfl,hdl,R4.out,A4.out,.inr (.inr (.inr (.inr ⟨rfl,hc48,hv20,HE.out⟩)))⟩
   case measure=>simp [intOf]
  obtain⟨rfl,hc48,hn20,hq⟩:=hq;have HQ:=LH hq;clear hq HGt HBd HD hv9 hzl;by_cases h5:u.length<n
  case pos=>
   have HE:Hid (decL s=noL 9):=LH (HQ.out.trans (if_pos h5));have h5i:decide ((u.length:Int) < (n:Int)) =true:=by simp;omega
   have cy:=bC RR.out.y;have zy:=lB RR.out.y;have cx:=bC RR.out.x;have fx:=bF RR.out.x;have zx:=lB RR.out.x;have Y:=LH (lt_store RR.out.x (.int .i64 0) (.int .i64 0) (.int .u64 0) (.string ⟨#[]⟩));have B:=LH (lt_below RR.out.b (q:=w.heap.size) (Nat.le_refl _) (.int .i64 0) (.int .i64 0) (.int .u64 0) (.string ⟨#[]⟩));go_wp2_with fail;clear cy zy cx fx zx;generalize ((((wr.setCell ⟨w.heap.size,0,none⟩ (.int .i64 0)).setCell ⟨w.heap.size,1,none⟩ (.int .i64 0)).setCell ⟨w.heap.size,2,none⟩ (.int .u64 0)).setCell ⟨w.heap.size,3,none⟩ (.string ⟨#[]⟩)) =wz at Y B⊢;have ce:=bC Y.out;have fe:=bF Y.out;have ze:=lB Y.out;exact bR (v:=.tuple #[.agg #[.int .i64 0,.int .i64 0,.int .u64 0,.string ⟨#[]⟩],.int .i64 9]) (by simp only [results,Tryz.results16];go_simp) rfl (LtPost.no HE.out B.out)
  have HQ2:Hid (decL s=if n<u.length then noL 11 else (⟨a,b,c,u⟩,0)):=LH (HQ.out.trans (if_neg h5));have h5i:decide ((u.length:Int) < (n:Int)) =false:=by simp;omega
  clear HQ;by_cases h6:n<u.length
  case pos=>
   have HE:=LH (HQ2.out.trans (if_pos h6));have h6i:decide ((n:Int) < (u.length:Int)) =true:=by simp;omega
   have cy:=bC RR.out.y;have zy:=lB RR.out.y;have cx:=bC RR.out.x;have fx:=bF RR.out.x;have zx:=lB RR.out.x;have Y:=LH (lt_store RR.out.x (.int .i64 0) (.int .i64 0) (.int .u64 0) (.string ⟨#[]⟩));have B:=LH (lt_below RR.out.b (q:=w.heap.size) (Nat.le_refl _) (.int .i64 0) (.int .i64 0) (.int .u64 0) (.string ⟨#[]⟩));go_wp2_with fail;clear cy zy cx fx zx;generalize ((((wr.setCell ⟨w.heap.size,0,none⟩ (.int .i64 0)).setCell ⟨w.heap.size,1,none⟩ (.int .i64 0)).setCell ⟨w.heap.size,2,none⟩ (.int .u64 0)).setCell ⟨w.heap.size,3,none⟩ (.string ⟨#[]⟩)) =wz at Y B⊢;have ce:=bC Y.out;have fe:=bF Y.out;have ze:=lB Y.out;exact bR (v:=.tuple #[.agg #[.int .i64 0,.int .i64 0,.int .u64 0,.string ⟨#[]⟩],.int .i64 11]) (by simp only [results,Tryz.results16];go_simp) rfl (LtPost.no HE.out B.out)
  have HE:=LH (HQ2.out.trans (if_neg h6));have h6i:decide ((n:Int) < (u.length:Int)) =false:=by simp;omega
  clear HQ2;have hcv:IntKind.u64.wrap (c:Int) = (c:Int):=wrap_u64s (by omega) (by omega);have cx:=bC RR.out.x;have fx:=bF RR.out.x;have zx:=lB RR.out.x;have Y:=LH (lt_store RR.out.x (.int .i64 a) (.int .i64 b) (.int .u64 c) (.string ⟨u.toArray⟩));have B:=LH (lt_below RR.out.b (q:=w.heap.size) (Nat.le_refl _) (.int .i64 a) (.int .i64 b) (.int .u64 c) (.string ⟨u.toArray⟩));go_wp2_with fail;clear cx fx zx ca fa za;generalize ((((wr.setCell ⟨w.heap.size,0,none⟩ (.int .i64 a)).setCell ⟨w.heap.size,1,none⟩ (.int .i64 b)).setCell ⟨w.heap.size,2,none⟩ (.int .u64 c)).setCell ⟨w.heap.size,3,none⟩ (.string ⟨u.toArray⟩)) =wz at Y B⊢;have ce:=bC Y.out;have fe:=bF Y.out;have ze:=lB Y.out;exact bR (v:=.tuple #[.agg #[.int .i64 a,.int .i64 b,.int .u64 c,.string ⟨u.toArray⟩],.int .i64 0]) (by simp only [results,Tryz.results16];go_simp) rfl (LtPost.ok HE.out B.out)
theorem withC_or {s n:Nat} (hn:n<48) :withC s (n:Int) =s ||| 2^n:=by
 have hc:isCrew (n:Int) =true:=by unfold isCrew;simp;omega
 unfold withC;rw [if_pos hc,Int.toNat_natCast];have ht:hasN s n=s.testBit n:=by unfold hasN;rw [Nat.testBit_eq_decide_div_mod_eq]
 rw [ht]
 apply Nat.eq_of_testBit_eq
 intro j;rw [Nat.testBit_or,Nat.testBit_two_pow];by_cases hb:s.testBit n=true
 ·rw [if_pos hb]
  by_cases hij:n=j
  ·subst hij;simp [hb]
  ·simp [hij]
 ·rw [if_neg hb]
  have hb':s.testBit n=false:=by simpa using hb
  rw [Nat.add_comm,or_two_pow_add hb',Nat.testBit_or,Nat.testBit_two_pow]
theorem fold_with (s c:Nat) : ∀k,k≤48→(listN c k).foldl withC s=s ||| (c % 2^k):=by
 intro k
 induction k with
 |zero=>intro _;simp [listN,Nat.mod_one]
 |succ k ih=>
  intro hk;rw [listN_step,List.foldl_append,ih (by omega)];have ht:hasN c k=c.testBit k:=by unfold hasN;rw [Nat.testBit_eq_decide_div_mod_eq]
  rw [ht]
  cases hb:c.testBit k
  ·rw [if_neg (by simp)]
   show s ||| c % 2^k=_
   apply Nat.eq_of_testBit_eq
   intro j;rw [Nat.testBit_or,Nat.testBit_or,Nat.testBit_mod_two_pow,Nat.testBit_mod_two_pow];by_cases hj:j=k
   ·subst hj;simp [hb]
   ·have e:decide (j<k) =decide (j<k+1):=decide_eq_decide.2 (by omega)
    rw [e]
  ·rw [if_pos rfl]
   show withC (s ||| c % 2^k) (k:Int) =_
   rw [withC_or (by omega)]
   apply Nat.eq_of_testBit_eq
   intro j;rw [Nat.testBit_or,Nat.testBit_or,Nat.testBit_or,Nat.testBit_mod_two_pow,Nat.testBit_mod_two_pow,Nat.testBit_two_pow];by_cases hj:j=k
   ·subst hj;simp [hb]
   ·have e:decide (j<k) =decide (j<k+1):=decide_eq_decide.2 (by omega)
    have e2:decide (k=j) =false:=by simp;omega
    rw [e,e2,Bool.or_false]
theorem fold_all {s c:Nat} (hc:rightC c=true) : (listC c).foldl withC s=s ||| c:=by
 unfold rightC at hc;simp only [decide_eq_true_eq] at hc;unfold listC;rw [fold_with s c 48 (by omega),Nat.mod_eq_of_lt (by omega)]
theorem fold_take {s:Nat} {L:List Int} {q:Nat} (h:q<L.length) : (L.take (q+1)).foldl withC s=withC ((L.take q).foldl withC s) L[q]:=by
 rw [List.take_succ_eq_append_getElem h,List.foldl_append]
 rfl
theorem withC_63 {s:Nat} {i:Int} (h:s<2^48) :withC s i<2^48:=by
 unfold withC
 split
 ·rename_i hc
  obtain⟨n,rfl,hn⟩:=isCrew_nat hc;have e:=withC_or (s:=s) hn;unfold withC at e;rw [if_pos hc] at e;rw [e];exact Nat.or_lt_two_pow h (Nat.pow_lt_pow_right (by decide) hn)
 ·exact h
theorem fold_lt {s:Nat} (hs:s<2^48) : ∀(L:List Int),L.foldl withC s<2^48:=by
 intro L
 induction L generalizing s with
 |nil=>exact hs
 |cons x L ih=>exact ih (withC_63 hs)
theorem dl3_ok {a b c:Nat} (ha: (a:Int)≤9223372036854775807) (hb:isCrew b=true) (hc: (rightC c && hasC c b) =true) (n:Nat×Nat×Int) (s:List UInt8) (h: (dl3 a b c n s).2=0) :rightL (dl3 a b c n s).1=true:=by
 unfold dl3 at h⊢
 split at h
 ·rename_i h1;exact absurd h h1
 rename_i h1
 split at h
 ·exact absurd h (by decide)
 rename_i h2;rw [if_neg h1,if_neg h2];unfold dl4 at h⊢
 split at h
 ·exact absurd h (by decide)
 rename_i h3
 split at h
 ·exact absurd h (by decide)
 rename_i h4;rw [if_neg h3,if_neg h4];unfold rightL;simp only [Bool.and_eq_true,decide_eq_true_eq] at hc⊢;exact⟨⟨⟨by omega,hc.2⟩,hc.1⟩,by omega⟩
theorem decL_ok {s:List UInt8} (h: (decL s).2=0) :rightL (decL s).1=true:=by
 rw [decL_dl] at h⊢;generalize openT s=o at h⊢;unfold dlW at h⊢
 split at h
 ·rename_i h1;exact absurd h h1
 rename_i h1
 split at h
 ·exact absurd h (by decide)
 rename_i h2
 split at h
 ·exact absurd h (by decide)
 rename_i h3;rw [if_neg h1,if_neg h2,if_neg h3];generalize o.1.drop 4=s0 at h⊢;have g0:=getB_bounds s0;generalize getB s0=a at h g0⊢;unfold dl0 at h⊢
 split at h
 ·rename_i h1;exact absurd h h1
 rename_i h4;rw [if_neg h4];generalize s0.drop a.2.1=s1 at h⊢;generalize getB s1=b at h⊢;unfold dl1 at h⊢
 split at h
 ·rename_i h1;exact absurd h h1
 rename_i h5
 split at h
 ·exact absurd h (by decide)
 rename_i h6;rw [if_neg h5,if_neg h6];generalize s1.drop b.2.1=s2 at h⊢;generalize getB s2=c at h⊢;unfold dl2 at h⊢
 split at h
 ·rename_i h1;exact absurd h h1
 rename_i h7
 split at h
 ·exact absurd h (by decide)
 rename_i h8;rw [if_neg h7,if_neg h8];exact dl3_ok (by omega) (by simpa using h6) (by simpa using h8) _ _ h
theorem decL_len (s:List UInt8) : (decL s).1.b.length≤s.length:=by
 rw [decL_dl];have h0:=openT_len s;generalize openT s=o at h0⊢;unfold dlW
 split
 ·simp [noL,noLtr]
 split
 ·simp [noL,noLtr]
 split
 ·simp [noL,noLtr]
 have h1: (o.1.drop 4).length≤s.length:=by rw [List.length_drop];omega
 generalize o.1.drop 4=s0 at h1⊢;generalize getB s0=a;unfold dl0
 split
 ·simp [noL,noLtr]
 have h2: (s0.drop a.2.1).length≤s.length:=by rw [List.length_drop];omega
 generalize s0.drop a.2.1=s1 at h2⊢;generalize getB s1=b;unfold dl1
 split
 ·simp [noL,noLtr]
 split
 ·simp [noL,noLtr]
 have h3: (s1.drop b.2.1).length≤s.length:=by rw [List.length_drop];omega
 generalize s1.drop b.2.1=s2 at h3⊢;generalize getB s2=c;unfold dl2
 split
 ·simp [noL,noLtr]
 split
 ·simp [noL,noLtr]
 have h4: (s2.drop c.2.1).length≤s.length:=by rw [List.length_drop];omega
 generalize s2.drop c.2.1=s3 at h4⊢;generalize getB s3=n;unfold dl3
 split
 ·simp [noL,noLtr]
 split
 ·simp [noL,noLtr]
 have h5: (s3.drop n.2.1).length≤s.length:=by rw [List.length_drop];omega
 generalize s3.drop n.2.1=s4 at h5⊢;unfold dl4
 split
 ·simp [noL,noLtr]
 split
 ·simp [noL,noLtr]
 exact h5
def Hear31Post [Zone] (l:Nat) (s:Sen) (r:List Nd) (text:List UInt8) (w:World) (e:Ending) (w':World) :Prop:=
 ∃(s':Sen) (r':List Nd) (A':Option Addr) (c':Nat),e=.returned (.tuple #[refV s' A' r'.length c',.int .i64 (hearE l s r text)])∧HearTo l s r text s' r'∧SlZ w' 154 encN A' r'∧Below w.heap.size w w'
theorem Hear31Post.no [Zone] {l:Nat} {s:Sen} {r:List Nd} {text:List UInt8} {w w':World} {A:Option Addr} {c:Nat} {er:Int} (he:hearE l s r text=er) (h0:er≠0) (hs:SlZ w' 154 encN A r) (hb:Below w.heap.size w w') :
 Hear31Post l s r text w (.returned (.tuple #[refV s A r.length c,.int .i64 er])) w':=by
 refine⟨s,r,A,c,by rw [he],.inl ⟨by rw [he];exact h0,rfl,rfl⟩,hs,hb⟩
theorem Hear31Post.yes [Zone] {l:Nat} {s:Sen} {r r':List Nd} {text:List UInt8} {w w':World} {A:Option Addr} {c:Nat} (he:hearE l s r text=0) (hj:Joined l s.k r (readW (decL text).1.b).1.2.2.2 r') (hs:SlZ w' 154 encN A r') (hb:Below w.heap.size w w') :
 Hear31Post l s r text w (.returned (.tuple #[refV (heardS s (decL text).1) A r'.length c,.int .i64 0])) w':=
 ⟨_,r',A,c,by rw [he],.inr ⟨he,rfl,hj⟩,hs,hb⟩
theorem ref31_Hear_no [Zone] (w:World) (l:Nat) (s:Sen) (A:Option Addr) (c:Nat) (r:List Nd) (text:List UInt8) (hsl:s.l=l) (hl:1≤l∧l≤48) (ho:SenOk s) (hS:SlZ w 154 encN A r) (hf:Fits l r) (hL:lightOf l r s.k=true) (hlen:r.length≤999) (hk:1≤s.k) (hk2:s.k≤124) (ht:text.length≤8000000) (hno: (decL text).2=0→refusedE s (decL text).1≠0) :
 Calls Tryz.prog 12 #[refV s A r.length c,.string ⟨text.toArray⟩] w (Hear31Post l s r text w):=by
 have HNo:=LH hno;clear hno;obtain⟨sl,sk,sK,⟨me,kids,wait⟩,ep,ti,hd,cv,st⟩:=s;have hkd:kids<2^64:=ho.kids;have hcr:cv≤281474976710655:=by have:=ho.c;unfold rightC at this;simpa using this
 have hhr:hd≤281474976710655:=by have:=ho.h;unfold rightC at this;simpa using this
 dsimp only at hk hk2 hsl hL;obtain rfl:=hsl;have HDe:=LH (fun W=>ref29_Decode W text ht);unfold LtPost at HDe;have HOk:=LH (decL_ok (s:=text));have hbl:=decL_len text;have HX:Hid (hearE l ⟨l,sk,sK,⟨me,kids,wait⟩,ep,ti,hd,cv,st⟩ r text=if (decL text).2≠0 then (decL text).2 else if refusedE ⟨l,sk,sK,⟨me,kids,wait⟩,ep,ti,hd,cv,st⟩ (decL text).1≠0 then refusedE ⟨l,sk,sK,⟨me,kids,wait⟩,ep,ti,hd,cv,st⟩ (decL text).1 else moreE l sk r (readW (decL text).1.b)):=LH rfl;have HYes:=LH (fun (w':World) (A:Option Addr) (c:Nat) (r':List Nd)=>Hear31Post.yes (l:=l) (s:=⟨l,sk,sK,⟨me,kids,wait⟩,ep,ti,hd,cv,st⟩) (r:=r) (r':=r') (text:=text) (w:=w) (w':=w') (A:=A) (c:=c));generalize hdx:decL text=X at HDe HOk hbl HX HYes HNo;clear hdx;obtain⟨⟨xe,xf,xc,xb⟩,e0⟩:=X;dsimp only at HDe HOk hbl HX HYes HNo;have hfit:=LH hf;unfold refV refC;dsimp only at*;obtain⟨n,hn⟩ : ∃n,n=r.length:=⟨_,rfl⟩;rw [←hn];have HN:=LH hn;have S0:=LH (show SlZ ((w.alloc (.cells #[.int .i64 l,.int .i64 sk,.int .i64 sK,.int .i64 me,.int .i64 wait,.int .u64 kids,.int .i64 ep,.int .i64 ti,.int .u64 hd,.int .u64 cv,.bool st,.int .i64 sk,.int .i64 l,.slice A n c] 37)).alloc (.cells #[.int .i64 0,.int .i64 0,.int .i64 0,.int .i64 0,.int .i64 0,.int .u64 0,.int .i64 0,.int .i64 0,.int .u64 0,.int .u64 0,.bool false,.int .i64 0,.int .i64 0,.slice none 0 0] 37)) 154 encN A r from(hS.alloc _).alloc _);have HLi:=LH hL;have hsum:=hf.sum;have hs0:=sumR_nonneg hf.roll;clear hn hS hf ho hL ht;have R0:=LH (SnR.first w #[.int .i64 l,.int .i64 sk,.int .i64 sK,.int .i64 me,.int .i64 wait,.int .u64 kids,.int .i64 ep,.int .i64 ti,.int .u64 hd,.int .u64 cv,.bool st,.int .i64 sk,.int .i64 l,.slice A n c])
 go_enter Tryz.func12,Tryz.ntmps12
 go_upto_region 1 with fail;generalize ((w.alloc (.cells #[.int .i64 l,.int .i64 sk,.int .i64 sK,.int .i64 me,.int .i64 wait,.int .u64 kids,.int .i64 ep,.int .i64 ti,.int .u64 hd,.int .u64 cv,.bool st,.int .i64 sk,.int .i64 l,.slice A n c] 37)).alloc (.cells #[.int .i64 0,.int .i64 0,.int .i64 0,.int .i64 0,.int .i64 0,.int .u64 0,.int .i64 0,.int .i64 0,.int .u64 0,.int .u64 0,.bool false,.int .i64 0,.int .i64 0,.slice none 0 0] 37)) =W0 at R0 S0⊢;go_wp2_with fail;refine(HDe.out W0).mono ?_;rintro e w1 ⟨rfl,hb1⟩;have al:=hb1.trans (((Below.refl w1.heap.size w1).alloc (Nat.le_refl _) (.cells #[.int .i64 xe,.int .i64 xf,.int .u64 xc,.string ⟨xb.toArray⟩] 64)).mono hb1.size);have R2:=LH (R0.out.below al);have S2:=LH (S0.out.below al);have L2:=LH (LtR.new w1 xe xf xc xb);have hp2:w.heap.size+2≤w1.heap.size:=by have h1:=lB R0.out.z;have h2:=hb1.size;omega
 clear hb1 al R0 S0 HDe;go_upto_region 2 with fail;obtain⟨pl,hpl⟩ : ∃q,q=w1.heap.size:=⟨_,rfl⟩;rw [←hpl] at L2 hp2⊢;generalize w1.alloc (.cells #[.int .i64 xe,.int .i64 xf,.int .u64 xc,.string ⟨xb.toArray⟩] 64) =w2 at R2 S2 L2⊢;clear hpl;by_cases h1:e0=0
 case neg=>
  have HE:=LH (HX.out.trans (if_pos h1));have H1:=LH h1;have h1i: (e0 == 0) =false:=by simpa using h1
  clear h1;go_upto_region 3 with fail;have cx:=bC R2.out.x;have zx:=lB R2.out.x;have cz:=bC R2.out.z;have fz:=bF R2.out.z;have zz:=lB R2.out.z;have Y:Hid ((q14 w2 (w.heap.size+1) (.int .i64 l) (.int .i64 sk) (.int .i64 sK) (.int .i64 me) (.int .i64 wait) (.int .u64 kids) (.int .i64 ep) (.int .i64 ti) (.int .u64 hd) (.int .u64 cv) (.bool st) (.int .i64 sk) (.int .i64 l) (.slice A n c)).heap[w.heap.size+1]? =some (.cells #[.int .i64 l,.int .i64 sk,.int .i64 sK,.int .i64 me,.int .i64 wait,.int .u64 kids,.int .i64 ep,.int .i64 ti,.int .u64 hd,.int .u64 cv,.bool st,.int .i64 sk,.int .i64 l,.slice A n c] 37 (0,0))):=LH (store14 R2.out.z (.int .i64 l) (.int .i64 sk) (.int .i64 sK) (.int .i64 me) (.int .i64 wait) (.int .u64 kids) (.int .i64 ep) (.int .i64 ti) (.int .u64 hd) (.int .u64 cv) (.bool st) (.int .i64 sk) (.int .i64 l) (.slice A n c));have B:Hid (Below w.heap.size w (q14 w2 (w.heap.size+1) (.int .i64 l) (.int .i64 sk) (.int .i64 sK) (.int .i64 me) (.int .i64 wait) (.int .u64 kids) (.int .i64 ep) (.int .i64 ti) (.int .u64 hd) (.int .u64 cv) (.bool st) (.int .i64 sk) (.int .i64 l) (.slice A n c))):=LH (store14_below R2.out.b (by simp) (.int .i64 l) (.int .i64 sk) (.int .i64 sK) (.int .i64 me) (.int .i64 wait) (.int .u64 kids) (.int .i64 ep) (.int .i64 ti) (.int .u64 hd) (.int .u64 cv) (.bool st) (.int .i64 sk) (.int .i64 l) (.slice A n c));have S:=LH (store14_slT R2.out.z S2.out (.int .i64 l) (.int .i64 sk) (.int .i64 sK) (.int .i64 me) (.int .i64 wait) (.int .u64 kids) (.int .i64 ep) (.int .i64 ti) (.int .u64 hd) (.int .u64 cv) (.bool st) (.int .i64 sk) (.int .i64 l) (.slice A n c));go_wp2_with fail;clear cx zx cz fz zz;rw [q14e];generalize (q14 w2 (w.heap.size+1) (.int .i64 l) (.int .i64 sk) (.int .i64 sK) (.int .i64 me) (.int .i64 wait) (.int .u64 kids) (.int .i64 ep) (.int .i64 ti) (.int .u64 hd) (.int .u64 cv) (.bool st) (.int .i64 sk) (.int .i64 l) (.slice A n c)) =wz at Y B S⊢;have ce:=bC Y.out;have fe:=bF Y.out;have ze:=lB Y.out;exact bR (v:=.tuple #[.agg #[.int .i64 l,.int .i64 sk,.int .i64 sK,.int .i64 me,.int .i64 wait,.int .u64 kids,.int .i64 ep,.int .i64 ti,.int .u64 hd,.int .u64 cv,.bool st,.int .i64 sk,.int .i64 l,.slice A n c],.int .i64 e0]) (by simp only [results,Tryz.results12];go_simp) rfl (show Hear31Post l ⟨l,sk,sK,⟨me,kids,wait⟩,ep,ti,hd,cv,st⟩ r text w _ _ by rw [HN.out];exact Hear31Post.no HE.out (H1.out) S.out B.out)
 subst h1;have HX2:=LH (HX.out.trans (if_neg (by simp)));clear HX;have hxr:=HOk.out rfl;have HXR:=LH hxr;simp only [rightL,Bool.and_eq_true,decide_eq_true_eq] at hxr;obtain⟨⟨⟨hx1,hx2⟩,hx3⟩,hx4⟩:=hxr;have hxc:xc≤281474976710655:=by unfold rightC at hx3;simpa using hx3
 have HXC:=LH hx3;clear hx2 hx3 HOk;obtain⟨E,hE⟩ : ∃E,E=refusedE ⟨l,sk,sK,⟨me,kids,wait⟩,ep,ti,hd,cv,st⟩ ⟨xe,xf,xc,xb⟩:=⟨_,rfl⟩;rw [←hE] at HX2;have HEq:=LH hE;unfold refusedE at hE;dsimp only at hE;have HRe:=LH hE;clear hE;have cl:=bC L2.out;have zl:=lB L2.out;have cx:=bC R2.out.x;have zx:=lB R2.out.x;by_cases h2:xe=ep
 case neg=>
  have HE:Hid (hearE l ⟨l,sk,sK,⟨me,kids,wait⟩,ep,ti,hd,cv,st⟩ r text=17):=LH (by rw [HX2.out,HRe.out.trans (if_pos h2)];rfl);have h2i: (xe == ep) =false:=by simpa using h2
  clear h2;go_upto_region 5 with fail;clear cx zx;go_upto_region 5 with fail;have cx:=bC R2.out.x;have zx:=lB R2.out.x;have cz:=bC R2.out.z;have fz:=bF R2.out.z;have zz:=lB R2.out.z;have Y:Hid ((q14 w2 (w.heap.size+1) (.int .i64 l) (.int .i64 sk) (.int .i64 sK) (.int .i64 me) (.int .i64 wait) (.int .u64 kids) (.int .i64 ep) (.int .i64 ti) (.int .u64 hd) (.int .u64 cv) (.bool st) (.int .i64 sk) (.int .i64 l) (.slice A n c)).heap[w.heap.size+1]? =some (.cells #[.int .i64 l,.int .i64 sk,.int .i64 sK,.int .i64 me,.int .i64 wait,.int .u64 kids,.int .i64 ep,.int .i64 ti,.int .u64 hd,.int .u64 cv,.bool st,.int .i64 sk,.int .i64 l,.slice A n c] 37 (0,0))):=LH (store14 R2.out.z (.int .i64 l) (.int .i64 sk) (.int .i64 sK) (.int .i64 me) (.int .i64 wait) (.int .u64 kids) (.int .i64 ep) (.int .i64 ti) (.int .u64 hd) (.int .u64 cv) (.bool st) (.int .i64 sk) (.int .i64 l) (.slice A n c));have B:Hid (Below w.heap.size w (q14 w2 (w.heap.size+1) (.int .i64 l) (.int .i64 sk) (.int .i64 sK) (.int .i64 me) (.int .i64 wait) (.int .u64 kids) (.int .i64 ep) (.int .i64 ti) (.int .u64 hd) (.int .u64 cv) (.bool st) (.int .i64 sk) (.int .i64 l) (.slice A n c))):=LH (store14_below R2.out.b (by simp) (.int .i64 l) (.int .i64 sk) (.int .i64 sK) (.int .i64 me) (.int .i64 wait) (.int .u64 kids) (.int .i64 ep) (.int .i64 ti) (.int .u64 hd) (.int .u64 cv) (.bool st) (.int .i64 sk) (.int .i64 l) (.slice A n c));have S:=LH (store14_slT R2.out.z S2.out (.int .i64 l) (.int .i64 sk) (.int .i64 sK) (.int .i64 me) (.int .i64 wait) (.int .u64 kids) (.int .i64 ep) (.int .i64 ti) (.int .u64 hd) (.int .u64 cv) (.bool st) (.int .i64 sk) (.int .i64 l) (.slice A n c));go_wp2_with fail;clear cx zx cz fz zz;rw [q14e];generalize (q14 w2 (w.heap.size+1) (.int .i64 l) (.int .i64 sk) (.int .i64 sK) (.int .i64 me) (.int .i64 wait) (.int .u64 kids) (.int .i64 ep) (.int .i64 ti) (.int .u64 hd) (.int .u64 cv) (.bool st) (.int .i64 sk) (.int .i64 l) (.slice A n c)) =wz at Y B S⊢;have ce:=bC Y.out;have fe:=bF Y.out;have ze:=lB Y.out;exact bR (v:=.tuple #[.agg #[.int .i64 l,.int .i64 sk,.int .i64 sK,.int .i64 me,.int .i64 wait,.int .u64 kids,.int .i64 ep,.int .i64 ti,.int .u64 hd,.int .u64 cv,.bool st,.int .i64 sk,.int .i64 l,.slice A n c],.int .i64 17]) (by simp only [results,Tryz.results12];go_simp) rfl (show Hear31Post l ⟨l,sk,sK,⟨me,kids,wait⟩,ep,ti,hd,cv,st⟩ r text w _ _ by rw [HN.out];exact Hear31Post.no HE.out (by decide) S.out B.out)
 subst h2;rw [if_neg (by simp)] at HRe;have HH1:=LH (fun W=>ref27_Has kids xf hkd W);have HH2:=LH (fun W=>ref27_Has hd xf (by omega) W);have HMt:=LH (fun W=>ref31_meets W cv xc (by omega) (by omega));have HWs:=LH (fun W=>ref27_With hd xf (by omega) W);generalize hasC kids xf=z1 at HH1 HRe;generalize hasC hd xf=z2 at HH2 HRe;generalize apartC cv xc=z3 at HMt HRe
 cases z1
 case false=>
  have HE:Hid (hearE l ⟨l,sk,sK,⟨me,kids,wait⟩,xe,ti,hd,cv,st⟩ r text=16):=LH (by rw [HX2.out,HRe.out.trans (if_pos rfl)];rfl);go_wp2_with fail;refine(HH1.out w2).mono ?_;rintro e w3 ⟨rfl,hb3⟩;have R3:=LH (R2.out.below hb3);have S3:=LH (S2.out.below hb3);clear hb3 cx zx cl zl;go_upto_region 7 with fail;have cx:=bC R3.out.x;have zx:=lB R3.out.x;have cz:=bC R3.out.z;have fz:=bF R3.out.z;have zz:=lB R3.out.z;have Y:Hid ((q14 w3 (w.heap.size+1) (.int .i64 l) (.int .i64 sk) (.int .i64 sK) (.int .i64 me) (.int .i64 wait) (.int .u64 kids) (.int .i64 xe) (.int .i64 ti) (.int .u64 hd) (.int .u64 cv) (.bool st) (.int .i64 sk) (.int .i64 l) (.slice A n c)).heap[w.heap.size+1]? =some (.cells #[.int .i64 l,.int .i64 sk,.int .i64 sK,.int .i64 me,.int .i64 wait,.int .u64 kids,.int .i64 xe,.int .i64 ti,.int .u64 hd,.int .u64 cv,.bool st,.int .i64 sk,.int .i64 l,.slice A n c] 37 (0,0))):=LH (store14 R3.out.z (.int .i64 l) (.int .i64 sk) (.int .i64 sK) (.int .i64 me) (.int .i64 wait) (.int .u64 kids) (.int .i64 xe) (.int .i64 ti) (.int .u64 hd) (.int .u64 cv) (.bool st) (.int .i64 sk) (.int .i64 l) (.slice A n c));have B:Hid (Below w.heap.size w (q14 w3 (w.heap.size+1) (.int .i64 l) (.int .i64 sk) (.int .i64 sK) (.int .i64 me) (.int .i64 wait) (.int .u64 kids) (.int .i64 xe) (.int .i64 ti) (.int .u64 hd) (.int .u64 cv) (.bool st) (.int .i64 sk) (.int .i64 l) (.slice A n c))):=LH (store14_below R3.out.b (by simp) (.int .i64 l) (.int .i64 sk) (.int .i64 sK) (.int .i64 me) (.int .i64 wait) (.int .u64 kids) (.int .i64 xe) (.int .i64 ti) (.int .u64 hd) (.int .u64 cv) (.bool st) (.int .i64 sk) (.int .i64 l) (.slice A n c));have S:=LH (store14_slT R3.out.z S3.out (.int .i64 l) (.int .i64 sk) (.int .i64 sK) (.int .i64 me) (.int .i64 wait) (.int .u64 kids) (.int .i64 xe) (.int .i64 ti) (.int .u64 hd) (.int .u64 cv) (.bool st) (.int .i64 sk) (.int .i64 l) (.slice A n c));go_wp2_with fail;clear cx zx cz fz zz;rw [q14e];generalize (q14 w3 (w.heap.size+1) (.int .i64 l) (.int .i64 sk) (.int .i64 sK) (.int .i64 me) (.int .i64 wait) (.int .u64 kids) (.int .i64 xe) (.int .i64 ti) (.int .u64 hd) (.int .u64 cv) (.bool st) (.int .i64 sk) (.int .i64 l) (.slice A n c)) =wz at Y B S⊢;have ce:=bC Y.out;have fe:=bF Y.out;have ze:=lB Y.out;exact bR (v:=.tuple #[.agg #[.int .i64 l,.int .i64 sk,.int .i64 sK,.int .i64 me,.int .i64 wait,.int .u64 kids,.int .i64 xe,.int .i64 ti,.int .u64 hd,.int .u64 cv,.bool st,.int .i64 sk,.int .i64 l,.slice A n c],.int .i64 16]) (by simp only [results,Tryz.results12];go_simp) rfl (show Hear31Post l ⟨l,sk,sK,⟨me,kids,wait⟩,xe,ti,hd,cv,st⟩ r text w _ _ by rw [HN.out];exact Hear31Post.no HE.out (by decide) S.out B.out)
 case true=>
  rw [if_neg (by simp)] at HRe;go_wp2_with fail;refine(HH1.out w2).mono ?_;rintro e w3 ⟨rfl,hb3⟩;have R3:=LH (R2.out.below hb3);have S3:=LH (S2.out.below hb3);have L3:=LH (L2.out.below hb3);clear hb3 cx zx cl zl R2 S2 L2 HH1;have cl:=bC L3.out;have zl:=lB L3.out;have cx:=bC R3.out.x;have zx:=lB R3.out.x
  cases st
  case true=>
   have HE:Hid (hearE l ⟨l,sk,sK,⟨me,kids,wait⟩,xe,ti,hd,cv,true⟩ r text=18):=LH (by rw [HX2.out,HRe.out.trans (if_pos rfl)];rfl);go_upto_region 9 with fail;clear cx zx;go_upto_region 9 with fail;have cx:=bC R3.out.x;have zx:=lB R3.out.x;have cz:=bC R3.out.z;have fz:=bF R3.out.z;have zz:=lB R3.out.z;have Y:Hid ((q14 w3 (w.heap.size+1) (.int .i64 l) (.int .i64 sk) (.int .i64 sK) (.int .i64 me) (.int .i64 wait) (.int .u64 kids) (.int .i64 xe) (.int .i64 ti) (.int .u64 hd) (.int .u64 cv) (.bool true) (.int .i64 sk) (.int .i64 l) (.slice A n c)).heap[w.heap.size+1]? =some (.cells #[.int .i64 l,.int .i64 sk,.int .i64 sK,.int .i64 me,.int .i64 wait,.int .u64 kids,.int .i64 xe,.int .i64 ti,.int .u64 hd,.int .u64 cv,.bool true,.int .i64 sk,.int .i64 l,.slice A n c] 37 (0,0))):=LH (store14 R3.out.z (.int .i64 l) (.int .i64 sk) (.int .i64 sK) (.int .i64 me) (.int .i64 wait) (.int .u64 kids) (.int .i64 xe) (.int .i64 ti) (.int .u64 hd) (.int .u64 cv) (.bool true) (.int .i64 sk) (.int .i64 l) (.slice A n c));have B:Hid (Below w.heap.size w (q14 w3 (w.heap.size+1) (.int .i64 l) (.int .i64 sk) (.int .i64 sK) (.int .i64 me) (.int .i64 wait) (.int .u64 kids) (.int .i64 xe) (.int .i64 ti) (.int .u64 hd) (.int .u64 cv) (.bool true) (.int .i64 sk) (.int .i64 l) (.slice A n c))):=LH (store14_below R3.out.b (by simp) (.int .i64 l) (.int .i64 sk) (.int .i64 sK) (.int .i64 me) (.int .i64 wait) (.int .u64 kids) (.int .i64 xe) (.int .i64 ti) (.int .u64 hd) (.int .u64 cv) (.bool true) (.int .i64 sk) (.int .i64 l) (.slice A n c));have S:=LH (store14_slT R3.out.z S3.out (.int .i64 l) (.int .i64 sk) (.int .i64 sK) (.int .i64 me) (.int .i64 wait) (.int .u64 kids) (.int .i64 xe) (.int .i64 ti) (.int .u64 hd) (.int .u64 cv) (.bool true) (.int .i64 sk) (.int .i64 l) (.slice A n c));go_wp2_with fail;clear cx zx cz fz zz;rw [q14e];generalize (q14 w3 (w.heap.size+1) (.int .i64 l) (.int .i64 sk) (.int .i64 sK) (.int .i64 me) (.int .i64 wait) (.int .u64 kids) (.int .i64 xe) (.int .i64 ti) (.int .u64 hd) (.int .u64 cv) (.bool true) (.int .i64 sk) (.int .i64 l) (.slice A n c)) =wz at Y B S⊢;have ce:=bC Y.out;have fe:=bF Y.out;have ze:=lB Y.out;exact bR (v:=.tuple #[.agg #[.int .i64 l,.int .i64 sk,.int .i64 sK,.int .i64 me,.int .i64 wait,.int .u64 kids,.int .i64 xe,.int .i64 ti,.int .u64 hd,.int .u64 cv,.bool true,.int .i64 sk,.int .i64 l,.slice A n c],.int .i64 18]) (by simp only [results,Tryz.results12];go_simp) rfl (show Hear31Post l ⟨l,sk,sK,⟨me,kids,wait⟩,xe,ti,hd,cv,true⟩ r text w _ _ by rw [HN.out];exact Hear31Post.no HE.out (by decide) S.out B.out)
  case false=>
   rw [if_neg (by simp)] at HRe
   cases z2
   case true=>
    have HE:Hid (hearE l ⟨l,sk,sK,⟨me,kids,wait⟩,xe,ti,hd,cv,false⟩ r text=19):=LH (by rw [HX2.out,HRe.out.trans (if_pos (.inl rfl))];rfl);go_wp2_with fail;refine(HH2.out w3).mono ?_;rintro e w4 ⟨rfl,hb4⟩;have R4:=LH (R3.out.below hb4);have S4:=LH (S3.out.below hb4);clear hb4 cx zx cl zl;go_upto_region 11 with fail;have cx:=bC R4.out.x;have zx:=lB R4.out.x;have cz:=bC R4.out.z;have fz:=bF R4.out.z;have zz:=lB R4.out.z;have Y:Hid ((q14 w4 (w.heap.size+1) (.int .i64 l) (.int .i64 sk) (.int .i64 sK) (.int .i64 me) (.int .i64 wait) (.int .u64 kids) (.int .i64 xe) (.int .i64 ti) (.int .u64 hd) (.int .u64 cv) (.bool false) (.int .i64 sk) (.int .i64 l) (.slice A n c)).heap[w.heap.size+1]? =some (.cells #[.int .i64 l,.int .i64 sk,.int .i64 sK,.int .i64 me,.int .i64 wait,.int .u64 kids,.int .i64 xe,.int .i64 ti,.int .u64 hd,.int .u64 cv,.bool false,.int .i64 sk,.int .i64 l,.slice A n c] 37 (0,0))):=LH (store14 R4.out.z (.int .i64 l) (.int .i64 sk) (.int .i64 sK) (.int .i64 me) (.int .i64 wait) (.int .u64 kids) (.int .i64 xe) (.int .i64 ti) (.int .u64 hd) (.int .u64 cv) (.bool false) (.int .i64 sk) (.int .i64 l) (.slice A n c));have B:Hid (Below w.heap.size w (q14 w4 (w.heap.size+1) (.int .i64 l) (.int .i64 sk) (.int .i64 sK) (.int .i64 me) (.int .i64 wait) (.int .u64 kids) (.int .i64 xe) (.int .i64 ti) (.int .u64 hd) (.int .u64 cv) (.bool false) (.int .i64 sk) (.int .i64 l) (.slice A n c))):=LH (store14_below R4.out.b (by simp) (.int .i64 l) (.int .i64 sk) (.int .i64 sK) (.int .i64 me) (.int .i64 wait) (.int .u64 kids) (.int .i64 xe) (.int .i64 ti) (.int .u64 hd) (.int .u64 cv) (.bool false) (.int .i64 sk) (.int .i64 l) (.slice A n c));have S:=LH (store14_slT R4.out.z S4.out (.int .i64 l) (.int .i64 sk) (.int .i64 sK) (.int .i64 me) (.int .i64 wait) (.int .u64 kids) (.int .i64 xe) (.int .i64 ti) (.int .u64 hd) (.int .u64 cv) (.bool false) (.int .i64 sk) (.int .i64 l) (.slice A n c));go_wp2_with fail;clear cx zx cz fz zz;rw [q14e];generalize (q14 w4 (w.heap.size+1) (.int .i64 l) (.int .i64 sk) (.int .i64 sK) (.int .i64 me) (.int .i64 wait) (.int .u64 kids) (.int .i64 xe) (.int .i64 ti) (.int .u64 hd) (.int .u64 cv) (.bool false) (.int .i64 sk) (.int .i64 l) (.slice A n c)) =wz at Y B S⊢;have ce:=bC Y.out;have fe:=bF Y.out;have ze:=lB Y.out;exact bR (v:=.tuple #[.agg #[.int .i64 l,.int .i64 sk,.int .i64 sK,.int .i64 me,.int .i64 wait,.int .u64 kids,.int .i64 xe,.int .i64 ti,.int .u64 hd,.int .u64 cv,.bool false,.int .i64 sk,.int .i64 l,.slice A n c],.int .i64 19]) (by simp only [results,Tryz.results12];go_simp) rfl (show Hear31Post l ⟨l,sk,sK,⟨me,kids,wait⟩,xe,ti,hd,cv,false⟩ r text w _ _ by rw [HN.out];exact Hear31Post.no HE.out (by decide) S.out B.out)
   case false=>
    go_wp2_with fail;refine(HH2.out w3).mono ?_;rintro e w4 ⟨rfl,hb4⟩;have R4:=LH (R3.out.below hb4);have S4:=LH (S3.out.below hb4);have L4:=LH (L3.out.below hb4);clear hb4 cx zx cl zl R3 S3 L3 HH2;have cl:=bC L4.out;have zl:=lB L4.out;have cx:=bC R4.out.x;have zx:=lB R4.out.x
    cases z3
    case false=>
     have HE:Hid (hearE l ⟨l,sk,sK,⟨me,kids,wait⟩,xe,ti,hd,cv,false⟩ r text=19):=LH (by rw [HX2.out,HRe.out.trans (if_pos (.inr rfl))];rfl);go_wp2_with fail;refine(HMt.out w4).mono ?_;rintro e w5 ⟨rfl,hb5⟩;have R5:=LH (R4.out.below hb5);have S5:=LH (S4.out.below hb5);clear hb5 cx zx cl zl;go_upto_region 11 with fail;have cx:=bC R5.out.x;have zx:=lB R5.out.x;have cz:=bC R5.out.z;have fz:=bF R5.out.z;have zz:=lB R5.out.z;have Y:Hid ((q14 w5 (w.heap.size+1) (.int .i64 l) (.int .i64 sk) (.int .i64 sK) (.int .i64 me) (.int .i64 wait) (.int .u64 kids) (.int .i64 xe) (.int .i64 ti) (.int .u64 hd) (.int .u64 cv) (.bool false) (.int .i64 sk) (.int .i64 l) (.slice A n c)).heap[w.heap.size+1]? =some (.cells #[.int .i64 l,.int .i64 sk,.int .i64 sK,.int .i64 me,.int .i64 wait,.int .u64 kids,.int .i64 xe,.int .i64 ti,.int .u64 hd,.int .u64 cv,.bool false,.int .i64 sk,.int .i64 l,.slice A n c] 37 (0,0))):=LH (store14 R5.out.z (.int .i64 l) (.int .i64 sk) (.int .i64 sK) (.int .i64 me) (.int .i64 wait) (.int .u64 kids) (.int .i64 xe) (.int .i64 ti) (.int .u64 hd) (.int .u64 cv) (.bool false) (.int .i64 sk) (.int .i64 l) (.slice A n c));have B:Hid (Below w.heap.size w (q14 w5 (w.heap.size+1) (.int .i64 l) (.int .i64 sk) (.int .i64 sK) (.int .i64 me) (.int .i64 wait) (.int .u64 kids) (.int .i64 xe) (.int .i64 ti) (.int .u64 hd) (.int .u64 cv) (.bool false) (.int .i64 sk) (.int .i64 l) (.slice A n c))):=LH (store14_below R5.out.b (by simp) (.int .i64 l) (.int .i64 sk) (.int .i64 sK) (.int .i64 me) (.int .i64 wait) (.int .u64 kids) (.int .i64 xe) (.int .i64 ti) (.int .u64 hd) (.int .u64 cv) (.bool false) (.int .i64 sk) (.int .i64 l) (.slice A n c));have S:=LH (store14_slT R5.out.z S5.out (.int .i64 l) (.int .i64 sk) (.int .i64 sK) (.int .i64 me) (.int .i64 wait) (.int .u64 kids) (.int .i64 xe) (.int .i64 ti) (.int .u64 hd) (.int .u64 cv) (.bool false) (.int .i64 sk) (.int .i64 l) (.slice A n c));go_wp2_with fail;clear cx zx cz fz zz;rw [q14e];generalize (q14 w5 (w.heap.size+1) (.int .i64 l) (.int .i64 sk) (.int .i64 sK) (.int .i64 me) (.int .i64 wait) (.int .u64 kids) (.int .i64 xe) (.int .i64 ti) (.int .u64 hd) (.int .u64 cv) (.bool false) (.int .i64 sk) (.int .i64 l) (.slice A n c)) =wz at Y B S⊢;have ce:=bC Y.out;have fe:=bF Y.out;have ze:=lB Y.out;exact bR (v:=.tuple #[.agg #[.int .i64 l,.int .i64 sk,.int .i64 sK,.int .i64 me,.int .i64 wait,.int .u64 kids,.int .i64 xe,.int .i64 ti,.int .u64 hd,.int .u64 cv,.bool false,.int .i64 sk,.int .i64 l,.slice A n c],.int .i64 19]) (by simp only [results,Tryz.results12];go_simp) rfl (show Hear31Post l ⟨l,sk,sK,⟨me,kids,wait⟩,xe,ti,hd,cv,false⟩ r text w _ _ by rw [HN.out];exact Hear31Post.no HE.out (by decide) S.out B.out)
    case true=>
     exact absurd (HEq.out.symm.trans (HRe.out.trans (if_neg (by simp)))) (HNo.out (by simp))
structure OpX where
 kd:Int
 x:Int
 y:Int
 b:Nt
 A:Option Addr
 c:Nat
def noNt:Nt:=⟨0,0,0,0,0, [],0,0⟩
instance:Inhabited OpX:=⟨⟨0,0,0,noNt,none,0⟩⟩
structure Al (l:Nat) (s:Sen) (r:List Nd) :Prop where
 sl:s.l=l
 l1:1≤l∧l≤48
 k:1≤s.k∧s.k≤124
 ok:SenOk s
 fits:Fits l r
 light:lightOf l r s.k=true
 room: (r.length:Int)≤8*s.k
theorem Al.len {l:Nat} {s:Sen} {r:List Nd} (h:Al l s r) :r.length≤992:=by
 have:=h.room;have:=h.k;omega
theorem Al.new {a:Nat} {k K:Int} {p:Plc} {ep:Int} (h:newS a k K p ep=true) (hk:k≤124) :Al a (senNew a k K p ep) []:=by
 have ho:=SenOk.new h;simp only [newS,isDig,isPool,Bool.and_eq_true,decide_eq_true_eq] at h;refine⟨rfl,by omega,⟨(by show 1≤k;omega),hk⟩,ho,Fits.nil a,?_,?_⟩
 ·exact(Held.nil a k).light
 ·show (([] :List Nd).length:Int)≤8*k
  simp;omega
def SendTo (l:Nat) (s:Sen) (r:List Nd) (t:List UInt8) (e:Int) (s':Sen) (r':List Nd) :Prop:=
 (s.sent=true∧t= []∧e=18∧s'=s∧r'=r)∨(s.sent=false∧readyS s=false∧t= []∧e=22∧s'=s∧r'=r)∨
 (s.sent=false∧readyS s=true∧∃ps,RunTo l (sumR r / s.k) r ps r'∧t=ltrT (senL l s r')∧e=0∧s'=sentS s)
def nextR (s:Sen) (r:List Nd) :List Nd:=if s.ep=1099511627776 then r else []
def StepTo (l:Nat) (s:Sen) (r:List Nd) (o:OpX) (t:List UInt8) (e:Int) (s':Sen) (r':List Nd) :Prop:=
 (o.kd=0∧t= []∧e=putErr l s r o.x o.y∧s'=s∧PutTo l s r o.x o.y r')∨
 (o.kd=1∧t= []∧∃tx,TextTo s.ep o.b tx∧e=hearE l s r tx∧HearTo l s r tx s' r')∨
 (o.kd=3∧SendTo l s r t e s' r')∨
 (o.kd=4∧t= []∧e=nextE s∧s'=nextS s∧r'=nextR s r)∨
 ((o.kd≠0∧o.kd≠1∧o.kd≠3∧o.kd≠4)∧t= []∧e=0∧s'=tickedS s∧r'=r)
theorem PutTo.same {l:Nat} {s:Sen} {r:List Nd} {x c:Int} {a b:List Nd} (h1:PutTo l s r x c a) (h2:PutTo l s r x c b) :b=a:=by
 rcases h1 with ⟨e1,rfl⟩ | ⟨e1,i1⟩
 ·rcases h2 with ⟨_,rfl⟩ | ⟨e2,_⟩
  ·rfl
  ·rw [e1] at e2;cases e2
 ·rcases h2 with ⟨e2,_⟩ | ⟨_,i2⟩
  ·rw [e1] at e2;cases e2
  ·exact i1.unique i2
theorem SendTo.unique {l:Nat} {s:Sen} {r:List Nd} {t t2:List UInt8} {e e2:Int} {s1 s2:Sen} {r1 r2:List Nd} (h1:SendTo l s r t e s1 r1) (h2:SendTo l s r t2 e2 s2 r2) :t2=t∧e2=e∧s2=s1∧r2=r1:=by
 rcases h1 with ⟨a1,rfl,rfl,rfl,rfl⟩ | ⟨a1,b1,rfl,rfl,rfl,rfl⟩ | ⟨a1,b1,ps,c1,rfl,rfl,rfl⟩
 ·rcases h2 with ⟨a2,rfl,rfl,rfl,rfl⟩ | ⟨a2,b2,_⟩ | ⟨a2,b2,_⟩
  ·exact⟨rfl,rfl,rfl,rfl⟩
  ·rw [a1] at a2;cases a2
  ·rw [a1] at a2;cases a2
 ·rcases h2 with ⟨a2,_⟩ | ⟨a2,b2,rfl,rfl,rfl,rfl⟩ | ⟨a2,b2,_⟩
  ·rw [a1] at a2;cases a2
  ·exact⟨rfl,rfl,rfl,rfl⟩
  ·rw [b1] at b2;cases b2
 ·rcases h2 with ⟨a2,_⟩ | ⟨a2,b2,_⟩ | ⟨a2,b2,qs,c2,rfl,rfl,rfl⟩
  ·rw [a1] at a2;cases a2
  ·rw [b1] at b2;cases b2
  ·obtain⟨_,rfl⟩:=c1.unique c2
   exact⟨rfl,rfl,rfl,rfl⟩
theorem StepTo.unique {l:Nat} {s:Sen} {r:List Nd} {o:OpX} {t t2:List UInt8} {e e2:Int} {s1 s2:Sen} {r1 r2:List Nd} (h1:StepTo l s r o t e s1 r1) (h2:StepTo l s r o t2 e2 s2 r2) :t2=t∧e2=e∧s2=s1∧r2=r1:=by
 rcases h1 with ⟨a1,rfl,rfl,rfl,b1⟩ | ⟨a1,rfl,tx,b1,rfl,c1⟩ | ⟨a1,b1⟩ | ⟨a1,rfl,rfl,rfl,rfl⟩ | ⟨⟨a1,a2,a3,a4⟩,rfl,rfl,rfl,rfl⟩
 all_goals rcases h2 with ⟨c1,rfl,rfl,rfl,d1⟩ | ⟨c1,rfl,ty,d1,rfl,d2⟩ | ⟨c1,d1⟩ | ⟨c1,rfl,rfl,rfl,rfl⟩ | ⟨⟨c1,c2,c3,c4⟩,rfl,rfl,rfl,rfl⟩
 all_goals first
  | (exfalso;omega)
  |exact⟨rfl,rfl,rfl,rfl⟩
  |exact⟨rfl,rfl,rfl,b1.same d1⟩
  |exact b1.unique d1
  |skip
 ·obtain rfl:=b1.unique d1
  obtain⟨rfl,rfl⟩:=d2.unique ‹HearTo l s r _ s1 r1›;exact⟨rfl,rfl,rfl,rfl⟩
theorem withC_right {c:Nat} {i:Int} (h:rightC c=true) :rightC (withC c i) =true:=by
 unfold withC
 split
 ·rename_i h1
  split
  ·exact h
  ·rename_i h2
   obtain⟨n,rfl,hn⟩:=isCrew_nat h1
   have h3:c.testBit n=false:=by
    rw [Nat.testBit_eq_decide_div_mod_eq]
    simpa [hasN] using h2
   unfold rightC at h⊢;simp only [decide_eq_true_eq,Int.toNat_natCast] at h⊢;have e:=or_two_pow_add h3;have h4:c ||| 2^n<2^48:=Nat.or_lt_two_pow (by omega) (Nat.pow_lt_pow_right (by decide) hn);omega
 ·exact h
theorem right_or {a b:Nat} (ha:rightC a=true) (hb:rightC b=true) :rightC (a ||| b) =true:=by
 unfold rightC at ha hb⊢;simp only [decide_eq_true_eq] at ha hb⊢;have:a ||| b<2^48:=Nat.or_lt_two_pow (by omega) (by omega);omega
theorem has_or {a b:Nat} {i:Int} (h:hasC a i=true) :hasC (a ||| b) i=true:=by
 unfold hasC hasN at h⊢;rw [←Nat.testBit_eq_decide_div_mod_eq,Nat.testBit_or];rw [←Nat.testBit_eq_decide_div_mod_eq,Bool.and_eq_true] at h;rw [h.1,h.2];rfl
theorem SenOk.heard {s:Sen} {x:Ltr} (h:SenOk s) (hx:rightL x=true) :SenOk (heardS s x):=by
 unfold rightL at hx;simp only [Bool.and_eq_true,decide_eq_true_eq] at hx;exact⟨h.p,h.e0,h.e1,h.t0,h.t1,right_or h.c hx.1.2,has_or h.me,withC_right h.h⟩
theorem right_lt {c:Nat} (h:rightC c=true) :c<2^64:=by
 unfold rightC at h;simp only [decide_eq_true_eq] at h;omega
theorem decL_bad {s:List UInt8} (h: (decL s).2≠0) : (decL s).1=noLtr:=by
 rw [decL_dl] at h⊢;generalize openT s=o at h⊢;unfold dlW at h⊢
 split at h
 ·rename_i h1;rw [if_pos h1];rfl
 rename_i h1;rw [if_neg h1]
 split at h
 ·rename_i h2;rw [if_pos h2];rfl
 rename_i h2;rw [if_neg h2]
 split at h
 ·rename_i h3;rw [if_pos h3];rfl
 rename_i h3;rw [if_neg h3];generalize getB (o.1.drop 4) =a at h⊢;generalize o.1.drop 4=s0 at h⊢;unfold dl0 at h⊢
 split at h
 ·rename_i h1;rw [if_pos h1];rfl
 rename_i h1;rw [if_neg h1];generalize s0.drop a.2.1=s1 at h⊢;generalize getB s1=b at h⊢;unfold dl1 at h⊢
 split at h
 ·rename_i h1;rw [if_pos h1];rfl
 rename_i h1;rw [if_neg h1]
 split at h
 ·rename_i h2;rw [if_pos h2];rfl
 rename_i h2;rw [if_neg h2];generalize s1.drop b.2.1=s2 at h⊢;generalize getB s2=c at h⊢;unfold dl2 at h⊢
 split at h
 ·rename_i h1;rw [if_pos h1];rfl
 rename_i h1;rw [if_neg h1]
 split at h
 ·rename_i h2;rw [if_pos h2];rfl
 rename_i h2;rw [if_neg h2];generalize s2.drop c.2.1=s3 at h⊢;generalize getB s3=n at h⊢;unfold dl3 at h⊢
 split at h
 ·rename_i h1;rw [if_pos h1];rfl
 rename_i h1;rw [if_neg h1]
 split at h
 ·rename_i h2;rw [if_pos h2];rfl
 rename_i h2;rw [if_neg h2];unfold dl4 at h⊢
 split at h
 ·rename_i h1;rw [if_pos h1];rfl
 rename_i h1;rw [if_neg h1]
 split at h
 ·rename_i h2;rw [if_pos h2];rfl
 ·exact absurd rfl h
theorem decL_crew (s:List UInt8) : (decL s).1.c<2^64:=by
 by_cases h: (decL s).2=0
 ·have:=decL_ok h
  unfold rightL at this;simp only [Bool.and_eq_true,decide_eq_true_eq] at this;exact right_lt this.1.2
 ·rw [decL_bad h];exact Nat.two_pow_pos 64
theorem InsTo.keeps {l:Nat} {k:Int} {r r':List Nd} {x c:Int} (h:InsTo l k r x c r') (hl:1≤l∧l≤48) (hk:1≤k) (hf:Fits l r) (hL:lightOf l r k=true) (hr: (r.length:Int)≤8*k) :Fits l r'∧lightOf l r' k=true∧(r'.length:Int)≤8*k:=by
 have hroom:=DoTo.room (o:=(0,x,c)) (n:=insErr l r x c) (.inr (.inr ⟨(by show (0:Int)≠1;decide),(by show (0:Int)≠2;decide),h,rfl⟩)) hf hl hk hr;refine⟨?_,?_,hroom⟩
 ·rcases h with ⟨_,rfl⟩ | ⟨e,s,hp,rfl⟩
  ·exact hf
  ·obtain⟨h1,h2,h3⟩:=ins_ok e
   have hp':=pow_pos' l;simp only [isVal,Bool.and_eq_true,decide_eq_true_eq] at h1;rcases hp with ⟨_,_,ps,q⟩ | ⟨_,rfl⟩
   ·exact(q.folded.fits hf).add (by omega) (by omega) h2 (by rw [q.folded.sum hf];exact h3)
   ·exact hf.add (by omega) (by omega) h2 h3
 ·rcases h with ⟨_,rfl⟩ | ⟨e,s,hp,rfl⟩
  ·exact hL
  ·obtain⟨h1,h2,h3⟩:=ins_ok e
   simp only [isVal,Bool.and_eq_true,decide_eq_true_eq] at h1;rcases hp with ⟨_,_,ps,q⟩ | ⟨_,rfl⟩
   ·exact add_light (q.folded.fits hf).roll hk (q.folded.light hf hL) h2 (leaf_inner (by omega))
   ·exact add_light hf.roll hk hL h2 (leaf_inner (by omega))
theorem SenOk.next {s:Sen} (h:SenOk s) (he:s.ep≠1099511627776) :SenOk (senNew s.l s.k s.kd s.p (s.ep+1)):=by
 have h1:=h.wait;have hm:=withC_me h1.2.2.1;have:=h.e0;have:=h.e1;exact⟨h.p,by show 0≤s.ep+1;omega,by show s.ep+1≤1099511627776;omega,Int.le_refl _,by show (0:Int)≤s.p.wait;omega,hm.1,hm.2,rfl⟩
theorem HearTo.keeps {l:Nat} {s s':Sen} {r r':List Nd} {tx:List UInt8} (h:HearTo l s r tx s' r') (a:Al l s r) :Al l s' r':=by
 rcases h with ⟨_,rfl,rfl⟩ | ⟨h0,rfl,hj⟩
 ·exact a
 ·have hd: (decL tx).2=0:=by
   unfold hearE at h0
   split at h0
   ·rename_i h1;exact absurd h0 h1
   ·rename_i h1;simpa using h1
  exact⟨a.sl,a.l1,a.k,a.ok.heard (decL_ok hd),hj.fits,hj.light,hj.room⟩
theorem StepTo.keeps {l:Nat} {s s':Sen} {r r':List Nd} {o:OpX} {t:List UInt8} {e:Int} (h:StepTo l s r o t e s' r') (a:Al l s r) :Al l s' r':=by
 rcases h with ⟨_,_,_,rfl,hp⟩ | ⟨_,_,tx,_,_,hh⟩ | ⟨_,hs⟩ | ⟨_,_,_,rfl,rfl⟩ | ⟨_,_,_,rfl,rfl⟩
 ·rcases hp with ⟨_,rfl⟩ | ⟨_,hi⟩
  ·exact a
  ·obtain⟨h1,h2,h3⟩:=hi.keeps a.l1 a.k.1 a.fits a.light a.room
   exact⟨a.sl,a.l1,a.k,a.ok,h1,h2,h3⟩
 ·exact hh.keeps a
 ·rcases hs with ⟨_,_,_,rfl,rfl⟩ | ⟨_,_,_,_,rfl,rfl⟩ | ⟨_,_,ps,hr,_,_,rfl⟩
  ·exact a
  ·exact a
  ·have hroom:=DoTo.room (o:=(1,0,0)) (n:=ps.length) (.inl ⟨rfl,ps,hr,rfl⟩) a.fits a.l1 a.k.1 a.room
   exact⟨a.sl,a.l1,a.k,a.ok.toSent,hr.folded.fits a.fits,hr.folded.light a.fits a.light,hroom⟩
 ·unfold nextS nextR
  split
  ·exact a
  ·rename_i he
   have hk:=a.k.1;have hroom: (([] :List Nd).length:Int)≤8*s.k:=by simp;omega
   exact⟨a.sl,a.l1,a.k,a.ok.next he,Fits.nil l,(Held.nil l s.k).light,hroom⟩
 ·have e1: (tickedS s).l=s.l∧(tickedS s).k=s.k:=by unfold tickedS tickS;split <;> exact⟨rfl,rfl⟩
  exact⟨e1.1.trans a.sl,a.l1,by rw [e1.2];exact a.k,a.ok.tick,a.fits,by rw [e1.2];exact a.light,by rw [e1.2];exact a.room⟩
theorem spoil_len (t:List UInt8) (a:Nat) (b:Int) : (spoilT ⟨t.toArray⟩ a b).data.toList.length=t.length:=by
 unfold spoilT;rw [strOfNums_data,List.length_map,List.length_set,nums_len]
 rfl
theorem turn_len (t:List UInt8) (p:Int) (y:UInt8) : (turnT t p y).length=t.length:=by
 unfold turnT
 split
 ·exact spoil_len _ _ _
 ·rfl
theorem ltrT_len {x:Ltr} (h:rightL x=true) (he:x.e≤9223372036854775807) : (ltrT x).length≤1048700:=by
 unfold rightL at h;simp only [Bool.and_eq_true,decide_eq_true_eq] at h
 have hf:x.f<48:=by
  have:=h.1.1.2;unfold hasC isCrew at this;simp only [Bool.and_eq_true,decide_eq_true_eq] at this;omega
 have hc:=h.1.2;unfold rightC at hc;simp only [decide_eq_true_eq] at hc
 have h1:=putB_len (L:=ltrL x) (by
  intro z hz;unfold ltrL at hz;simp only [List.mem_cons,List.not_mem_nil,or_false] at hz;rcases hz with rfl|rfl|rfl|rfl <;> omega)
 have h2: (ltrL x).length=4:=rfl;unfold ltrT;rw [sealT_len];simp only [List.length_append,List.length_cons,List.length_nil];omega
theorem TextTo.len {ep:Int} {B:Nt} {t:List UInt8} (h:TextTo ep B t) :t.length≤1048700:=by
 rcases h with ⟨_,rfl⟩ | ⟨_,d,_,rfl⟩
 ·simp
 ·unfold textL
  split
  ·simp
  ·rw [turn_len]
   unfold enc29
   split
   ·rename_i h1
    exact ltrT_len h1 (by show wrap64 _≤_;unfold wrap64;omega)
   ·simp
theorem ref31_Hear_more [Zone] (w:World) (l:Nat) (s:Sen) (A:Option Addr) (c:Nat) (r:List Nd) (text:List UInt8) (hsl:s.l=l) (hl:1≤l∧l≤48) (ho:SenOk s) (hS:SlZ w 154 encN A r) (hf:Fits l r) (hL:lightOf l r s.k=true) (hlen:r.length≤999) (hk:1≤s.k) (hk2:s.k≤124) (ht:text.length≤8000000) (ha: (decL text).2=0) (hr:refusedE s (decL text).1=0) :
 Calls Tryz.prog 12 #[refV s A r.length c,.string ⟨text.toArray⟩] w (Hear31Post l s r text w):=by
 have HA0:=LH ha;have HR0:=LH hr;clear ha hr;obtain⟨sl,sk,sK,⟨me,kids,wait⟩,ep,ti,hd,cv,st⟩:=s;have hkd:kids<2^64:=ho.kids;have hcr:cv≤281474976710655:=by have:=ho.c;unfold rightC at this;simpa using this
 have hhr:hd≤281474976710655:=by have:=ho.h;unfold rightC at this;simpa using this
 dsimp only at hk hk2 hsl hL;obtain rfl:=hsl;have HDe:=LH (fun W=>ref29_Decode W text ht);unfold LtPost at HDe;have HOk:=LH (decL_ok (s:=text));have hbl:=decL_len text;have HX:Hid (hearE l ⟨l,sk,sK,⟨me,kids,wait⟩,ep,ti,hd,cv,st⟩ r text=if (decL text).2≠0 then (decL text).2 else if refusedE ⟨l,sk,sK,⟨me,kids,wait⟩,ep,ti,hd,cv,st⟩ (decL text).1≠0 then refusedE ⟨l,sk,sK,⟨me,kids,wait⟩,ep,ti,hd,cv,st⟩ (decL text).1 else moreE l sk r (readW (decL text).1.b)):=LH rfl;have HYes:=LH (fun (w':World) (A:Option Addr) (c:Nat) (r':List Nd)=>Hear31Post.yes (l:=l) (s:=⟨l,sk,sK,⟨me,kids,wait⟩,ep,ti,hd,cv,st⟩) (r:=r) (r':=r') (text:=text) (w:=w) (w':=w') (A:=A) (c:=c));generalize hdx:decL text=X at HDe HOk hbl HX HYes HA0 HR0;clear hdx;obtain⟨⟨xe,xf,xc,xb⟩,e0⟩:=X;dsimp only at HDe HOk hbl HX HYes HA0 HR0;have hfit:=LH hf;unfold refV refC;dsimp only at*;obtain⟨n,hn⟩ : ∃n,n=r.length:=⟨_,rfl⟩;rw [←hn];have HN:=LH hn;have S0:=LH (show SlZ ((w.alloc (.cells #[.int .i64 l,.int .i64 sk,.int .i64 sK,.int .i64 me,.int .i64 wait,.int .u64 kids,.int .i64 ep,.int .i64 ti,.int .u64 hd,.int .u64 cv,.bool st,.int .i64 sk,.int .i64 l,.slice A n c] 37)).alloc (.cells #[.int .i64 0,.int .i64 0,.int .i64 0,.int .i64 0,.int .i64 0,.int .u64 0,.int .i64 0,.int .i64 0,.int .u64 0,.int .u64 0,.bool false,.int .i64 0,.int .i64 0,.slice none 0 0] 37)) 154 encN A r from(hS.alloc _).alloc _);have HLi:=LH hL;have hsum:=hf.sum;have hs0:=sumR_nonneg hf.roll;clear hn hS hf ho hL ht;have R0:=LH (SnR.first w #[.int .i64 l,.int .i64 sk,.int .i64 sK,.int .i64 me,.int .i64 wait,.int .u64 kids,.int .i64 ep,.int .i64 ti,.int .u64 hd,.int .u64 cv,.bool st,.int .i64 sk,.int .i64 l,.slice A n c])
 go_enter Tryz.func12,Tryz.ntmps12
 go_upto_region 1 with fail;generalize ((w.alloc (.cells #[.int .i64 l,.int .i64 sk,.int .i64 sK,.int .i64 me,.int .i64 wait,.int .u64 kids,.int .i64 ep,.int .i64 ti,.int .u64 hd,.int .u64 cv,.bool st,.int .i64 sk,.int .i64 l,.slice A n c] 37)).alloc (.cells #[.int .i64 0,.int .i64 0,.int .i64 0,.int .i64 0,.int .i64 0,.int .u64 0,.int .i64 0,.int .i64 0,.int .u64 0,.int .u64 0,.bool false,.int .i64 0,.int .i64 0,.slice none 0 0] 37)) =W0 at R0 S0⊢;go_wp2_with fail;refine(HDe.out W0).mono ?_;rintro e w1 ⟨rfl,hb1⟩;have al:=hb1.trans (((Below.refl w1.heap.size w1).alloc (Nat.le_refl _) (.cells #[.int .i64 xe,.int .i64 xf,.int .u64 xc,.string ⟨xb.toArray⟩] 64)).mono hb1.size);have R2:=LH (R0.out.below al);have S2:=LH (S0.out.below al);have L2:=LH (LtR.new w1 xe xf xc xb);have hp2:w.heap.size+2≤w1.heap.size:=by have h1:=lB R0.out.z;have h2:=hb1.size;omega
 clear hb1 al R0 S0 HDe;go_upto_region 2 with fail;obtain⟨pl,hpl⟩ : ∃q,q=w1.heap.size:=⟨_,rfl⟩;rw [←hpl] at L2 hp2⊢;generalize w1.alloc (.cells #[.int .i64 xe,.int .i64 xf,.int .u64 xc,.string ⟨xb.toArray⟩] 64) =w2 at R2 S2 L2⊢;clear hpl;by_cases h1:e0=0
 case neg=>
  exact absurd HA0.out h1
 subst h1;have HX2:=LH (HX.out.trans (if_neg (by simp)));clear HX;have hxr:=HOk.out rfl;have HXR:=LH hxr;simp only [rightL,Bool.and_eq_true,decide_eq_true_eq] at hxr;obtain⟨⟨⟨hx1,hx2⟩,hx3⟩,hx4⟩:=hxr;have hxc:xc≤281474976710655:=by unfold rightC at hx3;simpa using hx3
 have HXC:=LH hx3;clear hx2 hx3 HOk;obtain⟨E,hE⟩ : ∃E,E=refusedE ⟨l,sk,sK,⟨me,kids,wait⟩,ep,ti,hd,cv,st⟩ ⟨xe,xf,xc,xb⟩:=⟨_,rfl⟩;rw [←hE] at HX2;have HEq:=LH hE;unfold refusedE at hE;dsimp only at hE;have HRe:=LH hE;clear hE;have HE0:Hid (E=0):=LH (HEq.out.trans HR0.out);have cl:=bC L2.out;have zl:=lB L2.out;have cx:=bC R2.out.x;have zx:=lB R2.out.x;by_cases h2:xe=ep
 case neg=>
  exact absurd (HE0.out.symm.trans (HRe.out.trans (if_pos h2))) (by decide)
 subst h2;rw [if_neg (by simp)] at HRe;have HH1:=LH (fun W=>ref27_Has kids xf hkd W);have HH2:=LH (fun W=>ref27_Has hd xf (by omega) W);have HMt:=LH (fun W=>ref31_meets W cv xc (by omega) (by omega));have HWs:=LH (fun W=>ref27_With hd xf (by omega) W);generalize hasC kids xf=z1 at HH1 HRe;generalize hasC hd xf=z2 at HH2 HRe;generalize apartC cv xc=z3 at HMt HRe
 cases z1
 case false=>
  exact absurd (HE0.out.symm.trans (HRe.out.trans (if_pos rfl))) (by decide)
 case true=>
  rw [if_neg (by simp)] at HRe;go_wp2_with fail;refine(HH1.out w2).mono ?_;rintro e w3 ⟨rfl,hb3⟩;have R3:=LH (R2.out.below hb3);have S3:=LH (S2.out.below hb3);have L3:=LH (L2.out.below hb3);clear hb3 cx zx cl zl R2 S2 L2 HH1;have cl:=bC L3.out;have zl:=lB L3.out;have cx:=bC R3.out.x;have zx:=lB R3.out.x
  cases st
  case true=>
   exact absurd (HE0.out.symm.trans (HRe.out.trans (if_pos rfl))) (by decide)
  case false=>
   rw [if_neg (by simp)] at HRe
   cases z2
   case true=>
    exact absurd (HE0.out.symm.trans (HRe.out.trans (if_pos (.inl rfl)))) (by decide)
   case false=>
    go_wp2_with fail;refine(HH2.out w3).mono ?_;rintro e w4 ⟨rfl,hb4⟩;have R4:=LH (R3.out.below hb4);have S4:=LH (S3.out.below hb4);have L4:=LH (L3.out.below hb4);clear hb4 cx zx cl zl R3 S3 L3 HH2;have cl:=bC L4.out;have zl:=lB L4.out;have cx:=bC R4.out.x;have zx:=lB R4.out.x
    cases z3
    case false=>
     exact absurd (HE0.out.symm.trans (HRe.out.trans (if_pos (.inr rfl)))) (by decide)
    case true=>
     have HX3:Hid (hearE l ⟨l,sk,sK,⟨me,kids,wait⟩,xe,ti,hd,cv,false⟩ r text=moreE l sk r (readW xb)):=LH (by rw [HX2.out,HRe.out.trans (if_neg (by simp)),if_neg (by simp)]);clear HX2 HRe;have HRd:=LH (fun W hz=>ref24_Read W xb (by omega) hz);unfold RdPost at HRd;have HRk:=LH (readW_ok xb);go_wp2_with fail;refine(HMt.out w4).mono ?_;rintro e w5 ⟨rfl,hb5⟩;have R5:=LH (R4.out.below hb5);have S5:=LH (S4.out.below hb5);have L5:=LH (L4.out.below hb5);clear hb5 cx zx cl zl R4 S4 L4 HMt;have cl:=bC L5.out;have zl:=lB L5.out;generalize hrm:readW xb=M at HX3 HRd HRk HYes;clear hrm;obtain⟨⟨l2,k2,n2,r2⟩,e2⟩:=M;dsimp only at HX3 HRd HRk HYes;go_wp2_with fail;refine(HRd.out w5 S5.out.n).mono ?_;rintro e w6 ⟨A2,c2,rfl,hs2,hb6⟩;have al:=hb6.trans (((Below.refl w6.heap.size w6).alloc (Nat.le_refl _) (.cells #[.int .i64 k2,.int .i64 l2,.slice A2 r2.length c2] 35)).mono hb6.size);have R7:=LH (R5.out.below al);have S7:=LH (S5.out.below al);have L7:=LH (L5.out.below al);have D7:=LH (heap_alloc_new w6 (.cells #[.int .i64 k2,.int .i64 l2,.slice A2 r2.length c2] 35));have T7:=LH (hs2.alloc (.cells #[.int .i64 k2,.int .i64 l2,.slice A2 r2.length c2] 35));have hp6:w.heap.size+2≤w6.heap.size:=by have h1:=lB R5.out.z;have h2:=hb6.size;omega
     clear hb6 al hs2 R5 S5 L5 cl zl HRd;go_upto_region 13 with fail;obtain⟨pd,hpd⟩ : ∃q,q=w6.heap.size:=⟨_,rfl⟩;rw [←hpd] at D7 hp6⊢;generalize w6.alloc (.cells #[.int .i64 k2,.int .i64 l2,.slice A2 r2.length c2] 35) =w7 at R7 S7 L7 D7 T7⊢;clear hpd;unfold moreE at HX3;dsimp only at HX3;by_cases h3:e2=0
     case neg=>
      have HE:=LH (HX3.out.trans (if_pos h3));have H3:=LH h3;have h3i: (e2 == 0) =false:=by simpa using h3
      clear h3;go_upto_region 14 with fail;have cx:=bC R7.out.x;have zx:=lB R7.out.x;have cz:=bC R7.out.z;have fz:=bF R7.out.z;have zz:=lB R7.out.z;have Y:Hid ((q14 w7 (w.heap.size+1) (.int .i64 l) (.int .i64 sk) (.int .i64 sK) (.int .i64 me) (.int .i64 wait) (.int .u64 kids) (.int .i64 xe) (.int .i64 ti) (.int .u64 hd) (.int .u64 cv) (.bool false) (.int .i64 sk) (.int .i64 l) (.slice A n c)).heap[w.heap.size+1]? =some (.cells #[.int .i64 l,.int .i64 sk,.int .i64 sK,.int .i64 me,.int .i64 wait,.int .u64 kids,.int .i64 xe,.int .i64 ti,.int .u64 hd,.int .u64 cv,.bool false,.int .i64 sk,.int .i64 l,.slice A n c] 37 (0,0))):=LH (store14 R7.out.z (.int .i64 l) (.int .i64 sk) (.int .i64 sK) (.int .i64 me) (.int .i64 wait) (.int .u64 kids) (.int .i64 xe) (.int .i64 ti) (.int .u64 hd) (.int .u64 cv) (.bool false) (.int .i64 sk) (.int .i64 l) (.slice A n c));have B:Hid (Below w.heap.size w (q14 w7 (w.heap.size+1) (.int .i64 l) (.int .i64 sk) (.int .i64 sK) (.int .i64 me) (.int .i64 wait) (.int .u64 kids) (.int .i64 xe) (.int .i64 ti) (.int .u64 hd) (.int .u64 cv) (.bool false) (.int .i64 sk) (.int .i64 l) (.slice A n c))):=LH (store14_below R7.out.b (by simp) (.int .i64 l) (.int .i64 sk) (.int .i64 sK) (.int .i64 me) (.int .i64 wait) (.int .u64 kids) (.int .i64 xe) (.int .i64 ti) (.int .u64 hd) (.int .u64 cv) (.bool false) (.int .i64 sk) (.int .i64 l) (.slice A n c));have S:=LH (store14_slT R7.out.z S7.out (.int .i64 l) (.int .i64 sk) (.int .i64 sK) (.int .i64 me) (.int .i64 wait) (.int .u64 kids) (.int .i64 xe) (.int .i64 ti) (.int .u64 hd) (.int .u64 cv) (.bool false) (.int .i64 sk) (.int .i64 l) (.slice A n c));go_wp2_with fail;clear cx zx cz fz zz;rw [q14e];generalize (q14 w7 (w.heap.size+1) (.int .i64 l) (.int .i64 sk) (.int .i64 sK) (.int .i64 me) (.int .i64 wait) (.int .u64 kids) (.int .i64 xe) (.int .i64 ti) (.int .u64 hd) (.int .u64 cv) (.bool false) (.int .i64 sk) (.int .i64 l) (.slice A n c)) =wz at Y B S⊢;have ce:=bC Y.out;have fe:=bF Y.out;have ze:=lB Y.out;exact bR (v:=.tuple #[.agg #[.int .i64 l,.int .i64 sk,.int .i64 sK,.int .i64 me,.int .i64 wait,.int .u64 kids,.int .i64 xe,.int .i64 ti,.int .u64 hd,.int .u64 cv,.bool false,.int .i64 sk,.int .i64 l,.slice A n c],.int .i64 e2]) (by simp only [results,Tryz.results12];go_simp) rfl (show Hear31Post l ⟨l,sk,sK,⟨me,kids,wait⟩,xe,ti,hd,cv,false⟩ r text w _ _ by rw [HN.out];exact Hear31Post.no HE.out (H3.out) S.out B.out)
     subst h3;have HX4:=LH (HX3.out.trans (if_neg (by simp)));clear HX3;have hrk:=HRk.out rfl;clear HRk;have cd:=bC D7.out;have zd:=lB D7.out;have cx:=bC R7.out.x;have zx:=lB R7.out.x;by_cases h4:l2=l
     case neg=>
      have HE:=LH (HX4.out.trans (if_pos (.inl h4)));have h4i: ((l2:Int) == (l:Int)) =false:=by simp;omega
      clear h4;go_upto_region 16 with fail;clear cx zx;go_upto_region 16 with fail;have cx:=bC R7.out.x;have zx:=lB R7.out.x;have cz:=bC R7.out.z;have fz:=bF R7.out.z;have zz:=lB R7.out.z;have Y:Hid ((q14 w7 (w.heap.size+1) (.int .i64 l) (.int .i64 sk) (.int .i64 sK) (.int .i64 me) (.int .i64 wait) (.int .u64 kids) (.int .i64 xe) (.int .i64 ti) (.int .u64 hd) (.int .u64 cv) (.bool false) (.int .i64 sk) (.int .i64 l) (.slice A n c)).heap[w.heap.size+1]? =some (.cells #[.int .i64 l,.int .i64 sk,.int .i64 sK,.int .i64 me,.int .i64 wait,.int .u64 kids,.int .i64 xe,.int .i64 ti,.int .u64 hd,.int .u64 cv,.bool false,.int .i64 sk,.int .i64 l,.slice A n c] 37 (0,0))):=LH (store14 R7.out.z (.int .i64 l) (.int .i64 sk) (.int .i64 sK) (.int .i64 me) (.int .i64 wait) (.int .u64 kids) (.int .i64 xe) (.int .i64 ti) (.int .u64 hd) (.int .u64 cv) (.bool false) (.int .i64 sk) (.int .i64 l) (.slice A n c));have B:Hid (Below w.heap.size w (q14 w7 (w.heap.size+1) (.int .i64 l) (.int .i64 sk) (.int .i64 sK) (.int .i64 me) (.int .i64 wait) (.int .u64 kids) (.int .i64 xe) (.int .i64 ti) (.int .u64 hd) (.int .u64 cv) (.bool false) (.int .i64 sk) (.int .i64 l) (.slice A n c))):=LH (store14_below R7.out.b (by simp) (.int .i64 l) (.int .i64 sk) (.int .i64 sK) (.int .i64 me) (.int .i64 wait) (.int .u64 kids) (.int .i64 xe) (.int .i64 ti) (.int .u64 hd) (.int .u64 cv) (.bool false) (.int .i64 sk) (.int .i64 l) (.slice A n c));have S:=LH (store14_slT R7.out.z S7.out (.int .i64 l) (.int .i64 sk) (.int .i64 sK) (.int .i64 me) (.int .i64 wait) (.int .u64 kids) (.int .i64 xe) (.int .i64 ti) (.int .u64 hd) (.int .u64 cv) (.bool false) (.int .i64 sk) (.int .i64 l) (.slice A n c));go_wp2_with fail;clear cx zx cz fz zz;rw [q14e];generalize (q14 w7 (w.heap.size+1) (.int .i64 l) (.int .i64 sk) (.int .i64 sK) (.int .i64 me) (.int .i64 wait) (.int .u64 kids) (.int .i64 xe) (.int .i64 ti) (.int .u64 hd) (.int .u64 cv) (.bool false) (.int .i64 sk) (.int .i64 l) (.slice A n c)) =wz at Y B S⊢;have ce:=bC Y.out;have fe:=bF Y.out;have ze:=lB Y.out;exact bR (v:=.tuple #[.agg #[.int .i64 l,.int .i64 sk,.int .i64 sK,.int .i64 me,.int .i64 wait,.int .u64 kids,.int .i64 xe,.int .i64 ti,.int .u64 hd,.int .u64 cv,.bool false,.int .i64 sk,.int .i64 l,.slice A n c],.int .i64 6]) (by simp only [results,Tryz.results12];go_simp) rfl (show Hear31Post l ⟨l,sk,sK,⟨me,kids,wait⟩,xe,ti,hd,cv,false⟩ r text w _ _ by rw [HN.out];exact Hear31Post.no HE.out (by decide) S.out B.out)
     subst h4;by_cases h5:k2=sk
     case neg=>
      have HE:=LH (HX4.out.trans (if_pos (.inr h5)));have h5i: (k2 == sk) =false:=by simpa using h5
      clear h5;go_upto_region 16 with fail;clear cx zx;go_upto_region 16 with fail;have cx:=bC R7.out.x;have zx:=lB R7.out.x;have cz:=bC R7.out.z;have fz:=bF R7.out.z;have zz:=lB R7.out.z;have Y:Hid ((q14 w7 (w.heap.size+1) (.int .i64 l2) (.int .i64 sk) (.int .i64 sK) (.int .i64 me) (.int .i64 wait) (.int .u64 kids) (.int .i64 xe) (.int .i64 ti) (.int .u64 hd) (.int .u64 cv) (.bool false) (.int .i64 sk) (.int .i64 l2) (.slice A n c)).heap[w.heap.size+1]? =some (.cells #[.int .i64 l2,.int .i64 sk,.int .i64 sK,.int .i64 me,.int .i64 wait,.int .u64 kids,.int .i64 xe,.int .i64 ti,.int .u64 hd,.int .u64 cv,.bool false,.int .i64 sk,.int .i64 l2,.slice A n c] 37 (0,0))):=LH (store14 R7.out.z (.int .i64 l2) (.int .i64 sk) (.int .i64 sK) (.int .i64 me) (.int .i64 wait) (.int .u64 kids) (.int .i64 xe) (.int .i64 ti) (.int .u64 hd) (.int .u64 cv) (.bool false) (.int .i64 sk) (.int .i64 l2) (.slice A n c));have B:Hid (Below w.heap.size w (q14 w7 (w.heap.size+1) (.int .i64 l2) (.int .i64 sk) (.int .i64 sK) (.int .i64 me) (.int .i64 wait) (.int .u64 kids) (.int .i64 xe) (.int .i64 ti) (.int .u64 hd) (.int .u64 cv) (.bool false) (.int .i64 sk) (.int .i64 l2) (.slice A n c))):=LH (store14_below R7.out.b (by simp) (.int .i64 l2) (.int .i64 sk) (.int .i64 sK) (.int .i64 me) (.int .i64 wait) (.int .u64 kids) (.int .i64 xe) (.int .i64 ti) (.int .u64 hd) (.int .u64 cv) (.bool false) (.int .i64 sk) (.int .i64 l2) (.slice A n c));have S:=LH (store14_slT R7.out.z S7.out (.int .i64 l2) (.int .i64 sk) (.int .i64 sK) (.int .i64 me) (.int .i64 wait) (.int .u64 kids) (.int .i64 xe) (.int .i64 ti) (.int .u64 hd) (.int .u64 cv) (.bool false) (.int .i64 sk) (.int .i64 l2) (.slice A n c));go_wp2_with fail;clear cx zx cz fz zz;rw [q14e];generalize (q14 w7 (w.heap.size+1) (.int .i64 l2) (.int .i64 sk) (.int .i64 sK) (.int .i64 me) (.int .i64 wait) (.int .u64 kids) (.int .i64 xe) (.int .i64 ti) (.int .u64 hd) (.int .u64 cv) (.bool false) (.int .i64 sk) (.int .i64 l2) (.slice A n c)) =wz at Y B S⊢;have ce:=bC Y.out;have fe:=bF Y.out;have ze:=lB Y.out;exact bR (v:=.tuple #[.agg #[.int .i64 l2,.int .i64 sk,.int .i64 sK,.int .i64 me,.int .i64 wait,.int .u64 kids,.int .i64 xe,.int .i64 ti,.int .u64 hd,.int .u64 cv,.bool false,.int .i64 sk,.int .i64 l2,.slice A n c],.int .i64 6]) (by simp only [results,Tryz.results12];go_simp) rfl (show Hear31Post l2 ⟨l2,sk,sK,⟨me,kids,wait⟩,xe,ti,hd,cv,false⟩ r text w _ _ by rw [HN.out];exact Hear31Post.no HE.out (by decide) S.out B.out)
     subst h5;have HX5:=LH (HX4.out.trans (if_neg (by simp)));clear HX4;have hf2:=hrk.fits;have hl2:=hrk.light;have hn2:=hrk.len;dsimp only at hf2 hl2 hn2;have q2:=hf2.sum;have q3:=sumR_nonneg hf2.roll;have HW1:=LH (fun W h=>ref13_Weight W k2 l2 A c r h (fits_ints hfit.out hl.2) (by unfold maxLen;omega));rw [tot_roll hfit.out.roll hfit.out.sum] at HW1;have HW2:=LH (fun W h=>ref13_Weight W k2 l2 A2 c2 r2 h (fits_ints hf2 hl.2) (by unfold maxLen;omega));rw [tot_roll hf2.roll hf2.sum] at HW2;have HMg:=LH (fun W h1 h2 (hs:sumR r+sumR r2≤72057594037927935)=>ref14_Merge W l2 k2 k2 k2 A A2 c c2 r r2 hl h1 h2 hfit.out hf2 HLi.out hl2 hlen (by omega) hk (by omega) hk (by omega) (by rw [if_neg (by omega)]) hs);unfold Mrg14Post at HMg;rw [←HN.out] at HW1 HMg;clear hrk hl2 hf2 hn2;obtain⟨ta,hta⟩ : ∃x,x=sumR r:=⟨_,rfl⟩;obtain⟨tb,htb⟩ : ∃x,x=sumR r2:=⟨_,rfl⟩;rw [←hta] at HW1 HX5 HMg hsum hs0;rw [←htb] at HW2 HX5 HMg q2 q3;clear hta htb;have hw1:wrap64 (72057594037927935 - ta) =72057594037927935 - ta:=by unfold wrap64;omega
     go_upto_region 17 with fail;refine rX (by kernel_rfl) (by kernel_rfl) ?_
     repeat (go_big_quiet_step (first
      | (go_at_call_of 52 (Value.agg #[.int .i64 k2,.int .i64 l2,.slice A2 r2.length c2]);exact quiet_ext (HW2.out _ ((T7.out.below (ext_below _ _)).sl)))
      | (go_at_call_of 52 (Value.agg #[.int .i64 k2,.int .i64 l2,.slice A n c]);exact quiet_ext (HW1.out _ ((S7.out.below (ext_below _ _)).sl)))))
     refine wpQuiet_nil ?_;intro w8 hb8;replace hb8:=bX hb8;have R8:=LH (R7.out.below hb8);have S8:=LH (S7.out.below hb8);have L8:=LH (L7.out.below hb8);have D8:=LH (bB D7.out hb8);have T8:=LH (T7.out.below hb8);clear hb8 R7 S7 L7 D7 T7 cd zd cx zx HW1 HW2;by_cases h6:72057594037927935<ta+tb
     case pos=>
      have HE:=LH (HX5.out.trans (if_pos h6));have h6i:decide (72057594037927935 - ta<tb) =true:=by simp;omega
      have h6j:72057594037927935 - ta<tb:=by omega
      clear h6;go_upto_region 18 with fail;have cx:=bC R8.out.x;have zx:=lB R8.out.x;have cz:=bC R8.out.z;have fz:=bF R8.out.z;have zz:=lB R8.out.z;have Y:Hid ((q14 w8 (w.heap.size+1) (.int .i64 l2) (.int .i64 k2) (.int .i64 sK) (.int .i64 me) (.int .i64 wait) (.int .u64 kids) (.int .i64 xe) (.int .i64 ti) (.int .u64 hd) (.int .u64 cv) (.bool false) (.int .i64 k2) (.int .i64 l2) (.slice A n c)).heap[w.heap.size+1]? =some (.cells #[.int .i64 l2,.int .i64 k2,.int .i64 sK,.int .i64 me,.int .i64 wait,.int .u64 kids,.int .i64 xe,.int .i64 ti,.int .u64 hd,.int .u64 cv,.bool false,.int .i64 k2,.int .i64 l2,.slice A n c] 37 (0,0))):=LH (store14 R8.out.z (.int .i64 l2) (.int .i64 k2) (.int .i64 sK) (.int .i64 me) (.int .i64 wait) (.int .u64 kids) (.int .i64 xe) (.int .i64 ti) (.int .u64 hd) (.int .u64 cv) (.bool false) (.int .i64 k2) (.int .i64 l2) (.slice A n c));have B:Hid (Below w.heap.size w (q14 w8 (w.heap.size+1) (.int .i64 l2) (.int .i64 k2) (.int .i64 sK) (.int .i64 me) (.int .i64 wait) (.int .u64 kids) (.int .i64 xe) (.int .i64 ti) (.int .u64 hd) (.int .u64 cv) (.bool false) (.int .i64 k2) (.int .i64 l2) (.slice A n c))):=LH (store14_below R8.out.b (by simp) (.int .i64 l2) (.int .i64 k2) (.int .i64 sK) (.int .i64 me) (.int .i64 wait) (.int .u64 kids) (.int .i64 xe) (.int .i64 ti) (.int .u64 hd) (.int .u64 cv) (.bool false) (.int .i64 k2) (.int .i64 l2) (.slice A n c));have S:=LH (store14_slT R8.out.z S8.out (.int .i64 l2) (.int .i64 k2) (.int .i64 sK) (.int .i64 me) (.int .i64 wait) (.int .u64 kids) (.int .i64 xe) (.int .i64 ti) (.int .u64 hd) (.int .u64 cv) (.bool false) (.int .i64 k2) (.int .i64 l2) (.slice A n c));go_wp2_with fail;clear cx zx cz fz zz;rw [q14e];generalize (q14 w8 (w.heap.size+1) (.int .i64 l2) (.int .i64 k2) (.int .i64 sK) (.int .i64 me) (.int .i64 wait) (.int .u64 kids) (.int .i64 xe) (.int .i64 ti) (.int .u64 hd) (.int .u64 cv) (.bool false) (.int .i64 k2) (.int .i64 l2) (.slice A n c)) =wz at Y B S⊢;have ce:=bC Y.out;have fe:=bF Y.out;have ze:=lB Y.out;exact bR (v:=.tuple #[.agg #[.int .i64 l2,.int .i64 k2,.int .i64 sK,.int .i64 me,.int .i64 wait,.int .u64 kids,.int .i64 xe,.int .i64 ti,.int .u64 hd,.int .u64 cv,.bool false,.int .i64 k2,.int .i64 l2,.slice A n c],.int .i64 5]) (by simp only [results,Tryz.results12];go_simp) rfl (show Hear31Post l2 ⟨l2,k2,sK,⟨me,kids,wait⟩,xe,ti,hd,cv,false⟩ r text w _ _ by rw [HN.out];exact Hear31Post.no HE.out (by decide) S.out B.out)
     have HE:=LH (HX5.out.trans (if_neg h6));have h6i:decide (72057594037927935 - ta<tb) =false:=by simp;omega
     have h6j: ¬(72057594037927935 - ta<tb):=by omega
     clear HX5;have HMg2:=LH (fun W h1 h2=>HMg.out W h1 h2 (by omega));clear HMg h6;have cd:=bC D8.out;have zd:=lB D8.out;have cx:=bC R8.out.x;have zx:=lB R8.out.x;have fx:=bF R8.out.x;go_wp2_with fail;refine(HMg2.out w8 S8.out T8.out).mono ?_;rintro e w9 ⟨rc,A3,c3,rfl,hj,hs9,hb9⟩;have R9:=LH (R8.out.below hb9);have L9:=LH (L8.out.below hb9);have S9:=LH hs9;have HJ:=LH hj;clear hb9 hs9 hj R8 S8 L8 D8 T8 cd zd cx zx fx HMg2;have cx:=bC R9.out.x;have zx:=lB R9.out.x;have fx:=bF R9.out.x;go_upto_region 20 with fail;have R10:Hid (SnR w #[.int .i64 l2,.int .i64 k2,.int .i64 sK,.int .i64 me,.int .i64 wait,.int .u64 kids,.int .i64 xe,.int .i64 ti,.int .u64 hd,.int .u64 cv,.bool false,.int .i64 k2,.int .i64 l2,.slice A3 rc.length c3] (((w9.setCell ⟨w.heap.size,11,none⟩ (.int .i64 k2)).setCell ⟨w.heap.size,12,none⟩ (.int .i64 l2)).setCell ⟨w.heap.size,13,none⟩ (.slice A3 rc.length c3))):=LH (((R9.out.put 11 (.int .i64 k2)).put 12 (.int .i64 l2)).put 13 (.slice A3 rc.length c3));have S10:Hid (SlZ (((w9.setCell ⟨w.heap.size,11,none⟩ (.int .i64 k2)).setCell ⟨w.heap.size,12,none⟩ (.int .i64 l2)).setCell ⟨w.heap.size,13,none⟩ (.slice A3 rc.length c3)) 154 encN A3 rc):=LH (((R9.out.put 11 (.int .i64 k2)).put 12 (.int .i64 l2)).slT ((R9.out.put 11 (.int .i64 k2)).slT (R9.out.slT S9.out _ _) _ _) _ _);have L10:Hid (LtR (((w9.setCell ⟨w.heap.size,11,none⟩ (.int .i64 k2)).setCell ⟨w.heap.size,12,none⟩ (.int .i64 l2)).setCell ⟨w.heap.size,13,none⟩ (.slice A3 rc.length c3)) pl xe xf xc xb):=LH (by unfold LtR;rw [Below.heap_setCell _ _ _ _ (by simp;omega),Below.heap_setCell _ _ _ _ (by simp;omega),Below.heap_setCell _ _ _ _ (by simp;omega)];exact L9.out);generalize (((w9.setCell ⟨w.heap.size,11,none⟩ (.int .i64 k2)).setCell ⟨w.heap.size,12,none⟩ (.int .i64 l2)).setCell ⟨w.heap.size,13,none⟩ (.slice A3 rc.length c3)) =w10 at R10 S10 L10⊢;clear cx zx fx R9 S9 L9;have HLs:=LH (fun W=>ref27_List W xc (by omega));have HFo:=LH (fold_all (s:=cv) HXC.out);have hll: (listC xc).length≤48:=listN_len xc 48;generalize listC xc=LC at HLs HFo hll;have cl:=bC L10.out;have zl:=lB L10.out;go_wp2_with fail;refine(HLs.out w10).mono ?_;rintro e w11 ⟨vL,rfl,hoL,hb11⟩;obtain⟨AL,cL,rfl,_⟩:=hoL.form;have R11:=LH (R10.out.below hb11);have S11:=LH (S10.out.below hb11);have L11:=LH (L10.out.below hb11);have Z11:=LH hoL.slT;clear hb11 hoL R10 S10 L10 cl zl HLs;go_wp2_with fail
     go_loopw [11] (fun i W=>∃q:Nat,i=.int .i64 q∧q≤LC.length∧SnR w #[.int .i64 l2,.int .i64 k2,.int .i64 sK,.int .i64 me,.int .i64 wait,.int .u64 kids,.int .i64 xe,.int .i64 ti,.int .u64 hd,.int .u64 (((LC.take q).foldl withC cv:Nat) :Int),.bool false,.int .i64 k2,.int .i64 l2,.slice A3 rc.length c3] W∧SlZ W 154 encN A3 rc∧LtR W pl xe xf xc xb∧SlT W 3 encZ AL LC) (fun i _=>LC.length - (intOf i).toNat)
     case atStart=>exact⟨0,rfl,Nat.zero_le _,R11.out,S11.out,L11.out,Z11.out⟩
     case round=>
      obtain⟨q,rfl,hq,hR,hS,hL,hZ⟩:=hrel;have RR:=LH hR;have SS:=LH hS;have LL:=LH hL;have ZZ:=LH hZ;clear hR hS hL hZ R11 S11 L11 Z11;have hfl:=fold_lt (s:=cv) (by omega) (LC.take q);by_cases hlt:q<LC.length
      case pos=>
       have hqi: (q:Int) < (LC.length:Int):=by omega
       have HFt:=LH (fold_take (s:=cv) hlt);obtain⟨b,off,rfl,hbt,hc⟩:=ZZ.out.at_ hlt;have d0:=hc 0 (.int .i64 LC[q]) rfl;simp only [Nat.mul_one,Nat.add_zero] at d0;generalize LC[q] =y at d0 HFt;generalize (LC.take q).foldl withC cv=cq at RR hfl HFt;have HWq:=LH (fun W=>ref27_With cq y (by omega) W);rw [←HFt.out] at HWq;obtain⟨cn,hcn⟩ : ∃x,x= (LC.take (q+1)).foldl withC cv:=⟨_,rfl⟩;rw [←hcn] at HWq;have HCn:=LH hcn;clear hcn HFt hc;go_upto_region 24 with fail;have Rd:=LH (RR.out.below (Below.drew (Below.refl _ _)));have Sd:=LH SS.out.drew;have Ld:=LH (LL.out.below (Below.drew (Below.refl _ _)));have Zd:=LH ZZ.out.drew;have HS:Hid (wr.drew.heap[w.heap.size]? =some (.cells #[.int .i64 l2,.int .i64 k2,.int .i64 sK,.int .i64 me,.int .i64 wait,.int .u64 kids,.int .i64 xe,.int .i64 ti,.int .u64 hd,.int .u64 cq,.bool false,.int .i64 k2,.int .i64 l2,.slice A3 rc.length c3] 37 (0,0))∧wr.drew.cell? ⟨b,off+q,none⟩ =some (.int .i64 y)):=LH ⟨RR.out.x,d0⟩;refine wp_region_noPanic ?_;refine wp_region_N (fun W'=>W'.heap[w.heap.size]? =some (.cells #[.int .i64 l2,.int .i64 k2,.int .i64 sK,.int .i64 me,.int .i64 wait,.int .u64 kids,.int .i64 xe,.int .i64 ti,.int .u64 hd,.int .u64 cq,.bool false,.int .i64 k2,.int .i64 l2,.slice A3 rc.length c3] 37 (0,0))∧W'.cell? ⟨b,off+q,none⟩ =some (.int .i64 y)) [8] (by kernel_rfl) (HS.out) (fun hHeld=> ?_);generalize wr.drew=Wd at Rd Sd Ld Zd HS hHeld⊢;refine nP 0 (Value.pointer (some ⟨w.heap.size,9,none⟩)) (h:= ?_)
       (try simp only [zA,zB,zC,Act.put,zD,zE,zF])
       refine nT 1 (Value.int .u64 cq) (y:=Or.inl ⟨by rfl,fun W hW=>by have q1:=bC hW.1;have q2:=lB hW.1;go_simp⟩) (s:=HS.out) (h:= ?_)
       (try simp only [zA,zB,zC,Act.put,zD,zE,zF])
       refine nP 2 (Value.slice (some ⟨b,off,none⟩) LC.length cL) (h:= ?_)
       (try simp only [zA,zB,zC,Act.put,zD,zE,zF])
       refine nP 3 (Value.int .i64 q) (h:= ?_)
       (try simp only [zA,zB,zC,Act.put,zD,zE,zF])
       refine nP 4 (Value.pointer (some ⟨b,off+q,none⟩)) (h:= ?_)
       (try simp only [zA,zB,zC,Act.put,zD,zE,zF])
       refine nT 5 (Value.int .i64 y) (y:=Or.inl ⟨by rfl,fun W hW=>by have q1:=hW.2;have q2:=cell_lt hW.2;go_simp⟩) (s:=HS.out) (h:= ?_)
       (try simp only [zA,zB,zC,Act.put,zD,zE,zF])
       refine nO (i:=6) (by kernel_rfl) rfl (fun K hK=> ?_);go_simp;refine(HWq.out Wd).mono ?_;rintro e w12 ⟨rfl,hb12⟩;refine hK.out _ _ (fun _ hS=>⟨bB hS.1 hb12,(hb12.cell (p:=⟨b,_,none⟩) (cell_lt hS.2)).trans hS.2⟩) ?_;clear hK K
       (try simp only [zA,zB,zC,Act.put,zD,zE,zF])
       have R12:=LH (Rd.out.below hb12);have S12:=LH (Sd.out.below hb12);have L12:=LH (Ld.out.below hb12);have Z12:=LH (Zd.out.below hb12);clear hb12 HS hHeld Rd Sd Ld Zd RR SS LL ZZ;refine nP 7 (Value.pointer (some ⟨w.heap.size,9,none⟩)) (h:= ?_)
       (try simp only [zA,zB,zC,Act.put,zD,zE,zF])
       have cx:=bC R12.out.x;have zx:=lB R12.out.x;have fx:=bF R12.out.x;refine nO (i:=8) (by kernel_rfl) rfl (fun K hK=> ?_);go_simp;refine hK.out _ _ (fun h=>absurd (by decide) h) ?_;clear hK K
       (try simp only [zA,zB,zC,Act.put,zD,zE,zF])
       refine nD (by kernel_rfl) ?_ _;refine NoPanic.normal ?_;have R13:Hid (SnR w #[.int .i64 l2,.int .i64 k2,.int .i64 sK,.int .i64 me,.int .i64 wait,.int .u64 kids,.int .i64 xe,.int .i64 ti,.int .u64 hd,.int .u64 cn,.bool false,.int .i64 k2,.int .i64 l2,.slice A3 rc.length c3] (w12.setCell ⟨w.heap.size,9,none⟩ (.int .u64 cn))):=LH (R12.out.put 9 (.int .u64 cn));have S13:=LH (R12.out.slT S12.out 9 (.int .u64 cn));have L13:Hid (LtR (w12.setCell ⟨w.heap.size,9,none⟩ (.int .u64 cn)) pl xe xf xc xb):=LH ((Below.heap_setCell _ _ _ _ (by simp;omega)).trans L12.out);have Z13:Hid (SlT (w12.setCell ⟨w.heap.size,9,none⟩ (.int .u64 cn)) 3 encZ (some ⟨b,off,none⟩) LC):=LH (Z12.out.setCellT (t:=37) (.of R12.out.x) (by decide));clear cx zx fx R12 S12 L12 Z12;generalize w12.setCell ⟨w.heap.size,9,none⟩ (.int .u64 cn) =w13 at R13 S13 L13 Z13⊢;go_wp2_with fail;go_roundw
       case rel=>exact⟨q+1,by go_num,by omega,by rw [←HCn.out];exact R13.out,S13.out,L13.out,Z13.out⟩
       case measure=>simp [intOf];omega
      obtain rfl:q=LC.length:=by omega
      have hqi:decide ((LC.length:Int) < (LC.length:Int)) =false:=by simp
      rw [List.take_length,HFo.out] at RR;have cl:=bC LL.out;have zl:=lB LL.out;have cx:=bC RR.out.x;have zx:=lB RR.out.x;go_wp2_with fail;refine(HWs.out wr).mono ?_;rintro e w12 ⟨rfl,hb12⟩;have R12:=LH (RR.out.below hb12);have S12:=LH (SS.out.below hb12);clear hb12 RR SS LL ZZ cl zl cx zx hfl;have cx:=bC R12.out.x;have zx:=lB R12.out.x;have fx:=bF R12.out.x;go_upto_region 26 with fail;have R13:Hid (SnR w #[.int .i64 l2,.int .i64 k2,.int .i64 sK,.int .i64 me,.int .i64 wait,.int .u64 kids,.int .i64 xe,.int .i64 ti,.int .u64 ((withC hd xf:Nat) :Int),.int .u64 ((cv ||| xc:Nat) :Int),.bool false,.int .i64 k2,.int .i64 l2,.slice A3 rc.length c3] (w12.setCell ⟨w.heap.size,8,none⟩ (.int .u64 ((withC hd xf:Nat) :Int)))):=LH (R12.out.put 8 (.int .u64 ((withC hd xf:Nat) :Int)));have S13:=LH (R12.out.slT S12.out 8 (.int .u64 ((withC hd xf:Nat) :Int)));generalize w12.setCell ⟨w.heap.size,8,none⟩ (.int .u64 ((withC hd xf:Nat) :Int)) =w13 at R13 S13⊢;clear cx zx fx R12 S12;have cx:=bC R13.out.x;have zx:=lB R13.out.x;have cz:=bC R13.out.z;have fz:=bF R13.out.z;have zz:=lB R13.out.z;have Y:Hid ((q14 w13 (w.heap.size+1) (.int .i64 l2) (.int .i64 k2) (.int .i64 sK) (.int .i64 me) (.int .i64 wait) (.int .u64 kids) (.int .i64 xe) (.int .i64 ti) (.int .u64 ((withC hd xf:Nat) :Int)) (.int .u64 ((cv ||| xc:Nat) :Int)) (.bool false) (.int .i64 k2) (.int .i64 l2) (.slice A3 rc.length c3)).heap[w.heap.size+1]? =some (.cells #[.int .i64 l2,.int .i64 k2,.int .i64 sK,.int .i64 me,.int .i64 wait,.int .u64 kids,.int .i64 xe,.int .i64 ti,.int .u64 ((withC hd xf:Nat) :Int),.int .u64 ((cv ||| xc:Nat) :Int),.bool false,.int .i64 k2,.int .i64 l2,.slice A3 rc.length c3] 37 (0,0))):=LH (store14 R13.out.z (.int .i64 l2) (.int .i64 k2) (.int .i64 sK) (.int .i64 me) (.int .i64 wait) (.int .u64 kids) (.int .i64 xe) (.int .i64 ti) (.int .u64 ((withC hd xf:Nat) :Int)) (.int .u64 ((cv ||| xc:Nat) :Int)) (.bool false) (.int .i64 k2) (.int .i64 l2) (.slice A3 rc.length c3));have B:Hid (Below w.heap.size w (q14 w13 (w.heap.size+1) (.int .i64 l2) (.int .i64 k2) (.int .i64 sK) (.int .i64 me) (.int .i64 wait) (.int .u64 kids) (.int .i64 xe) (.int .i64 ti) (.int .u64 ((withC hd xf:Nat) :Int)) (.int .u64 ((cv ||| xc:Nat) :Int)) (.bool false) (.int .i64 k2) (.int .i64 l2) (.slice A3 rc.length c3))):=LH (store14_below R13.out.b (by simp) (.int .i64 l2) (.int .i64 k2) (.int .i64 sK) (.int .i64 me) (.int .i64 wait) (.int .u64 kids) (.int .i64 xe) (.int .i64 ti) (.int .u64 ((withC hd xf:Nat) :Int)) (.int .u64 ((cv ||| xc:Nat) :Int)) (.bool false) (.int .i64 k2) (.int .i64 l2) (.slice A3 rc.length c3));have S:=LH (store14_slT R13.out.z S13.out (.int .i64 l2) (.int .i64 k2) (.int .i64 sK) (.int .i64 me) (.int .i64 wait) (.int .u64 kids) (.int .i64 xe) (.int .i64 ti) (.int .u64 ((withC hd xf:Nat) :Int)) (.int .u64 ((cv ||| xc:Nat) :Int)) (.bool false) (.int .i64 k2) (.int .i64 l2) (.slice A3 rc.length c3));go_wp2_with fail;clear cx zx cz fz zz;rw [q14e];generalize (q14 w13 (w.heap.size+1) (.int .i64 l2) (.int .i64 k2) (.int .i64 sK) (.int .i64 me) (.int .i64 wait) (.int .u64 kids) (.int .i64 xe) (.int .i64 ti) (.int .u64 ((withC hd xf:Nat) :Int)) (.int .u64 ((cv ||| xc:Nat) :Int)) (.bool false) (.int .i64 k2) (.int .i64 l2) (.slice A3 rc.length c3)) =wz at Y B S⊢;have ce:=bC Y.out;have fe:=bF Y.out;have ze:=lB Y.out;exact bR (v:=.tuple #[.agg #[.int .i64 l2,.int .i64 k2,.int .i64 sK,.int .i64 me,.int .i64 wait,.int .u64 kids,.int .i64 xe,.int .i64 ti,.int .u64 ((withC hd xf:Nat) :Int),.int .u64 ((cv ||| xc:Nat) :Int),.bool false,.int .i64 k2,.int .i64 l2,.slice A3 rc.length c3],.int .i64 0]) (by simp only [results,Tryz.results12];go_simp) rfl (HYes.out _ A3 c3 rc HE.out HJ.out S.out B.out)
theorem ref31_Hear [Zone] (w:World) (l:Nat) (s:Sen) (A:Option Addr) (c:Nat) (r:List Nd) (text:List UInt8) (hsl:s.l=l) (hl:1≤l∧l≤48) (ho:SenOk s) (hS:SlZ w 154 encN A r) (hf:Fits l r) (hL:lightOf l r s.k=true) (hlen:r.length≤999) (hk:1≤s.k) (hk2:s.k≤124) (ht:text.length≤8000000) :
 Calls Tryz.prog 12 #[refV s A r.length c,.string ⟨text.toArray⟩] w (Hear31Post l s r text w):=by
 by_cases ha: (decL text).2=0
 ·by_cases hr:refusedE s (decL text).1=0
  ·exact ref31_Hear_more w l s A c r text hsl hl ho hS hf hL hlen hk hk2 ht ha hr
  ·exact ref31_Hear_no w l s A c r text hsl hl ho hS hf hL hlen hk hk2 ht fun _=>hr
 ·exact ref31_Hear_no w l s A c r text hsl hl ho hS hf hL hlen hk hk2 ht fun h=>absurd h ha
def noteV (B:Nt) (Ao:Option Addr) (co:Nat) :Value:=.agg #[.int .i64 B.on,.int .i64 B.fr,.int .i64 B.k,.int .i64 B.l,.int .u64 B.cover,.slice Ao B.ops.length co,.int .i64 B.at_,.int .u8 B.by_.toNat]
structure TxS (w:World) (s:Sen) (A:Option Addr) (n c:Nat) (B:Nt) (Ao:Option Addr) (co ps pb:Nat) (W:World) :Prop where
 s:W.heap[ps]? =some (.cells (refC s A n c) 37 (0,0))
 n:W.heap[pb]? =some (.cells #[.int .i64 B.on,.int .i64 B.fr,.int .i64 B.k,.int .i64 B.l,.int .u64 B.cover,.slice Ao B.ops.length co,.int .i64 B.at_,.int .u8 B.by_.toNat] 42 (0,0))
 o:Sl W w.heap.size encO Ao B.ops
 b:Below w.heap.size w W
theorem TxS.below {w W W':World} {s:Sen} {A:Option Addr} {n c:Nat} {B:Nt} {Ao:Option Addr} {co ps pb:Nat} (h:TxS w s A n c B Ao co ps pb W) (hb:Below W.heap.size W W') :TxS w s A n c B Ao co ps pb W':=
 ⟨bB h.s hb,bB h.n hb,h.o.below (hb.mono h.b.size),Below.then_ h.b hb⟩
theorem ref31_Text (w:World) (s:Sen) (A:Option Addr) (n c:Nat) (B:Nt) (Ao:Option Addr) (co:Nat) (hO:Sl w w.heap.size encO Ao B.ops) (hn:B.ops.length≤50000) (hk:isDig B.l B.k 2=true→B.k≤124) (hc:B.cover<2^64) :
 Calls Tryz.prog 17 #[refV s A n c,noteV B Ao co] w fun e w'=>∃t,e=.returned (.string ⟨t.toArray⟩)∧TextTo s.ep B t∧Below w.heap.size w w':=by
 have HIs:=LH (fun W=>ref13_Is W B.l B.k 2);have O0:=LH hO;have HK:=LH hk;clear hO hk;unfold refV refC noteV
 go_enter Tryz.func17,Tryz.ntmps17
 go_upto_region 1 with fail;obtain⟨wa,hwa⟩ : ∃W,W=w.alloc (.cells (refC s A n c) 37):=⟨_,rfl⟩;have hwa':=hwa;unfold refC at hwa';rw [←hwa'];clear hwa';have sza:wa.heap.size=w.heap.size+1:=by rw [hwa];first|rfl|exact Array.size_push _
 have sa:wa.heap[w.heap.size]? =some (.cells (refC s A n c) 37 (0,0)):=by rw [hwa];exact heap_alloc_new w _
 have ba:Below w.heap.size w wa:=by rw [hwa];exact(Below.refl w.heap.size w).alloc (Nat.le_refl _) _
 have al:=(Below.refl wa.heap.size wa).alloc (Nat.le_refl _) (.cells #[.int .i64 B.on,.int .i64 B.fr,.int .i64 B.k,.int .i64 B.l,.int .u64 B.cover,.slice Ao B.ops.length co,.int .i64 B.at_,.int .u8 B.by_.toNat] 42);have T0:Hid (TxS w s A n c B Ao co w.heap.size wa.heap.size (wa.alloc (.cells #[.int .i64 B.on,.int .i64 B.fr,.int .i64 B.k,.int .i64 B.l,.int .u64 B.cover,.slice Ao B.ops.length co,.int .i64 B.at_,.int .u8 B.by_.toNat] 42))):=LH ⟨bB sa al,heap_alloc_new wa _,O0.out.below (ba.trans (al.mono ba.size)),Below.then_ ba al⟩;rw [←sza];generalize wa.alloc (.cells #[.int .i64 B.on,.int .i64 B.fr,.int .i64 B.k,.int .i64 B.l,.int .u64 B.cover,.slice Ao B.ops.length co,.int .i64 B.at_,.int .u8 B.by_.toNat] 42) =w0 at T0⊢;generalize wa.heap.size=pb at T0⊢;obtain⟨ps,hps⟩ : ∃q,q=w.heap.size:=⟨_,rfl⟩;rw [←hps];have T1:Hid (TxS w s A n c B Ao co ps pb w0):=LH (by rw [hps];exact T0.out);clear hps T0 al ba sa sza hwa O0 wa;have cn:=bC T1.out.n;have zn:=lB T1.out.n;go_upto_region 2 with fail;clear cn zn;have al:=(Below.refl w0.heap.size w0).alloc (Nat.le_refl _) (.cells #[.int .i64 B.l,.int .i64 B.k,.int .i64 2] 23);have C2:=LH (heap_alloc_new w0 (.cells #[.int .i64 B.l,.int .i64 B.k,.int .i64 2] 23));have T2:=LH (T1.out.below al);clear al T1;generalize w0.heap.size=pc at C2⊢;generalize w0.alloc (.cells #[.int .i64 B.l,.int .i64 B.k,.int .i64 2] 23) =w1 at C2 T2⊢;have cc:=bC C2.out;have zc:=lB C2.out;have HT:Hid (∀t,((isDig B.l B.k 2=false∧t= [])∨(isDig B.l B.k 2=true∧∃d,OfTo B.l.toNat B.k [] B.ops d∧t=textL s.ep B d))→TextTo s.ep B t):=LH fun _ h=>h
 have HL:Hid (isDig B.l B.k 2=true→(1≤B.l.toNat∧B.l.toNat≤48)∧1≤B.k∧B.k≤1048576∧B.l= (B.l.toNat:Int)):=LH fun h=>by
  simp only [isDig,isPool,Bool.and_eq_true,decide_eq_true_eq] at h;omega
 generalize isDig B.l B.k 2=z at HIs HT HL HK;go_wp2_with fail;refine(HIs.out w1).mono ?_;rintro en w2 ⟨rfl,hb⟩;have T3:=LH (T2.out.below hb);clear hb cc zc C2 T2 HIs
 cases z
 case false=>
  go_wp2_with fail;exact bR (v:=.string ⟨#[]⟩) (by simp only [results,Tryz.results17];go_simp) rfl ⟨[],rfl,HT.out _ (.inl (by simp)),T3.out.b⟩
 case true=>
  obtain⟨hl,hk1,hk2,hlz⟩:=HL.out rfl;obtain⟨ln,hln⟩ : ∃q,q=B.l.toNat:=⟨_,rfl⟩;rw [←hln] at hl hlz HT;have HLN:=LH hln;clear hln;have hk124:=HK.out rfl;have HLZ:=LH hlz;have HOf:=LH (fun W h=>ref14_Of W ln B.k Ao co B.ops hl hk1 hk124 h (by unfold maxLen;omega) (Nat.zero_le _));rw [←HLZ.out] at HOf;clear hlz HL HK;have cn:=bC T3.out.n;have zn:=lB T3.out.n;go_upto_region 4 with fail;go_wp2_with fail;refine(HOf.out w2 (T3.out.o.keep T3.out.b.size (fun _ _=>rfl))).mono ?_;rintro en w3 ⟨d,Ad,cd,rfl,hd,hsd,hb⟩;have hfit:=(hd.fits hl hk1).1;have hroom: (d.length:Int)≤8*B.k:=OfTo.room hl hk1 (Held.nil ln B.k) (by simp;omega) hd;have al:=hb.trans (((Below.refl w3.heap.size w3).alloc (Nat.le_refl _) (.cells #[.int .i64 B.k,.int .i64 ln,.slice Ad d.length cd] 35)).mono hb.size);have T4:=LH (T3.out.below al);have D4:=LH (heap_alloc_new w3 (.cells #[.int .i64 B.k,.int .i64 ln,.slice Ad d.length cd] 35));have L4:=LH (hsd.alloc (.cells #[.int .i64 B.k,.int .i64 ln,.slice Ad d.length cd] 35));have HD:=LH hd;have H24:=LH (fun W h=>ref24_Encode W ln B.k Ad cd d hl h hfit (by omega) hk1 hk2);have HW:Hid (wrap64 (s.ep+B.on)≤9223372036854775807):=LH (by unfold wrap64;omega);have H29:=LH (fun W b=>ref29_Encode W (wrap64 (s.ep+B.on)) B.fr B.cover b hc HW.out);clear cn zn hb al T3 hd hsd HOf hfit hroom;go_upto_region 5 with fail;generalize w3.heap.size=pq at D4⊢;generalize w3.alloc (.cells #[.int .i64 B.k,.int .i64 ln,.slice Ad d.length cd] 35) =w5 at T4 D4 L4⊢;refine wp_region_noPanic ?_;refine wp_region_N (fun W=>Below w5.heap.size w5 W) [] (by kernel_rfl) (Below.drew (Below.refl _ _)) (fun hHeld=> ?_);clear hHeld;have BW:=LH (Below.drew (Below.refl w5.heap.size w5));generalize w5.drew=w6 at BW⊢;refine nP 0 (Value.pointer (some ⟨ps,6,none⟩)) (h:= ?_)
  (try simp only [zA,zB,zC,Act.put,zD,zE,zF])
  refine nT 1 (Value.int .i64 s.ep) (y:=Or.inl ⟨by rfl,fun W hW=>by have q0:=bC (bB T4.out.s hW);have q1:=lB (bB T4.out.s hW);unfold refC at q0;have q2:=bC (bB T4.out.n hW);have q3:=lB (bB T4.out.n hW);have q4:=bC (bB D4.out hW);have q5:=lB (bB D4.out hW);go_simp⟩) (s:=BW.out) (h:= ?_)
  (try simp only [zA,zB,zC,Act.put,zD,zE,zF])
  refine nP 2 (Value.pointer (some ⟨pb,0,none⟩)) (h:= ?_)
  (try simp only [zA,zB,zC,Act.put,zD,zE,zF])
  refine nT 3 (Value.int .i64 B.on) (y:=Or.inl ⟨by rfl,fun W hW=>by have q0:=bC (bB T4.out.s hW);have q1:=lB (bB T4.out.s hW);unfold refC at q0;have q2:=bC (bB T4.out.n hW);have q3:=lB (bB T4.out.n hW);have q4:=bC (bB D4.out hW);have q5:=lB (bB D4.out hW);go_simp⟩) (s:=BW.out) (h:= ?_)
  (try simp only [zA,zB,zC,Act.put,zD,zE,zF])
  refine wpAnyN_pure (i:=4) (v:=Value.int .i64 (wrap64 (s.ep+B.on))) rfl (by kernel_rfl) (by kernel_rfl) (by kernel_rfl) (fun _ _ _ h=>h) (Or.inl ⟨by rfl,fun W _=>by go_simp;rw [IntKind.wrap_i64];unfold wrap64;omega⟩) ?_
  (try simp only [zA,zB,zC,Act.put,zD,zE,zF])
  refine nP 5 (Value.pointer (some ⟨pb,1,none⟩)) (h:= ?_)
  (try simp only [zA,zB,zC,Act.put,zD,zE,zF])
  refine nT 6 (Value.int .i64 B.fr) (y:=Or.inl ⟨by rfl,fun W hW=>by have q0:=bC (bB T4.out.s hW);have q1:=lB (bB T4.out.s hW);unfold refC at q0;have q2:=bC (bB T4.out.n hW);have q3:=lB (bB T4.out.n hW);have q4:=bC (bB D4.out hW);have q5:=lB (bB D4.out hW);go_simp⟩) (s:=BW.out) (h:= ?_)
  (try simp only [zA,zB,zC,Act.put,zD,zE,zF])
  refine nP 7 (Value.pointer (some ⟨pb,4,none⟩)) (h:= ?_)
  (try simp only [zA,zB,zC,Act.put,zD,zE,zF])
  refine nT 8 (Value.int .u64 B.cover) (y:=Or.inl ⟨by rfl,fun W hW=>by have q0:=bC (bB T4.out.s hW);have q1:=lB (bB T4.out.s hW);unfold refC at q0;have q2:=bC (bB T4.out.n hW);have q3:=lB (bB T4.out.n hW);have q4:=bC (bB D4.out hW);have q5:=lB (bB D4.out hW);go_simp⟩) (s:=BW.out) (h:= ?_)
  (try simp only [zA,zB,zC,Act.put,zD,zE,zF])
  refine nT 9 (Value.agg #[.int .i64 B.k,.int .i64 ln,.slice Ad d.length cd]) (y:=Or.inl ⟨by rfl,fun W hW=>by have q0:=bC (bB T4.out.s hW);have q1:=lB (bB T4.out.s hW);unfold refC at q0;have q2:=bC (bB T4.out.n hW);have q3:=lB (bB T4.out.n hW);have q4:=bC (bB D4.out hW);have q5:=lB (bB D4.out hW);go_simp⟩) (s:=BW.out) (h:= ?_)
  (try simp only [zA,zB,zC,Act.put,zD,zE,zF])
  refine nO (i:=10) (by kernel_rfl) rfl (fun K hK=> ?_);go_simp;refine(H24.out w6 (L4.out.below BW.out).sl).mono ?_;rintro e w7 ⟨rfl,hb⟩;have BW2:=LH (Below.then_ BW.out hb);clear hb;refine hK.out _ _ (fun _ _=>BW2.out) ?_;clear hK K
  (try simp only [zA,zB,zC,Act.put,zD,zE,zF])
  refine nP 11 (Value.agg #[.int .i64 (wrap64 (s.ep+B.on)),.int .i64 B.fr,.int .u64 B.cover,.string ⟨(wireT ln B.k d).toArray⟩]) (h:= ?_)
  (try simp only [zA,zB,zC,Act.put,zD,zE,zF])
  refine nO (i:=12) (by kernel_rfl) rfl (fun K hK=> ?_);go_simp;refine(H29.out w7 (wireT ln B.k d)).mono ?_;rintro e w8 ⟨rfl,hb⟩;have BW3:=LH (Below.then_ BW2.out hb);clear hb;refine hK.out _ _ (fun _ _=>BW3.out) ?_;clear hK K
  (try simp only [zA,zB,zC,Act.put,zD,zE,zF])
  have HTL:Hid (textL s.ep B d=if (enc29 (wrap64 (s.ep+B.on)) B.fr B.cover (wireT ln B.k d)).2≠0 then [] else turnT (enc29 (wrap64 (s.ep+B.on)) B.fr B.cover (wireT ln B.k d)).1 B.at_ B.by_):=LH (by rw [HLN.out];rfl);generalize enc29 (wrap64 (s.ep+B.on)) B.fr B.cover (wireT ln B.k d) =EE at HTL⊢;obtain⟨et,ee⟩:=EE;dsimp only at HTL⊢;refine nP 13 (Value.tuple #[.string ⟨et.toArray⟩,.int .i64 ee]) (h:= ?_)
  (try simp only [zA,zB,zC,Act.put,zD,zE,zF])
  refine nP 14 (Value.string ⟨et.toArray⟩) (h:= ?_)
  (try simp only [zA,zB,zC,Act.put,zD,zE,zF])
  refine nP 15 (Value.int .i64 ee) (h:= ?_)
  (try simp only [zA,zB,zC,Act.put,zD,zE,zF])
  refine nP 16 (Value.string ⟨et.toArray⟩) (h:= ?_)
  (try simp only [zA,zB,zC,Act.put,zD,zE,zF])
  refine nO (i:=17) (by kernel_rfl) rfl (fun K hK=> ?_);go_simp;refine hK.out _ _ (fun _ _=>BW3.out) ?_;clear hK K
  (try simp only [zA,zB,zC,Act.put,zD,zE,zF])
  refine nD (by kernel_rfl) ?_ _;refine NoPanic.normal ?_;have B6:=LH (Below.then_ T4.out.b BW3.out);have T6:=LH (T4.out.below BW3.out);clear BW BW2 BW3 T4 D4 L4 H24 H29;by_cases z:ee=0
  case neg=>
   have zi: (ee == 0) =false:=by simpa using z
   have Z:=LH z;clear z;go_wp2_with fail;exact bR (v:=.string ⟨#[]⟩) (by simp only [results,Tryz.results17];go_simp) rfl ⟨[],rfl,HT.out _ (.inr ⟨by simp,d,HD.out,by rw [HTL.out,if_pos Z.out]⟩),B6.out⟩
  have zi: (ee == 0) =true:=by simpa using z
  have HTL2:Hid (textL s.ep B d=turnT et B.at_ B.by_):=LH (by rw [HTL.out,if_neg (by simpa using z)]);clear z HTL;go_upto_region 8 with fail;have HTE:Hid (∀a,textL s.ep B d=a→TextTo s.ep B a):=LH fun a ha=>HT.out a (.inr ⟨by simp,d,HD.out,ha.symm⟩);have cn:=bC T6.out.n;have zn:=lB T6.out.n;have HCv:=LH (fun W=>Lib.run_convert_string_bytes (P:=Tryz.prog) W _ _ _ ⟨et.toArray⟩ Tryz.underlying9 Tryz.underlying129 Tryz.underlying5);have hcv:=HCv.out;go_upto_region 9 with fail;have hsz:=Lib.bytesWorld_size w8 5 ⟨et.toArray⟩;have hold: ∀o,(Lib.bytesWorld w8 5 ⟨et.toArray⟩).cell? ⟨pb,o,none⟩ =w8.cell? ⟨pb,o,none⟩:=fun o=>Lib.bytesWorld_old w8 5 ⟨et.toArray⟩ ⟨pb,o,none⟩ zn;have hBk:=bytesBack et w8 (Lib.bytesWorld w8 5 ⟨et.toArray⟩) (grownCap w8 et.length 0 5) (fun _=>rfl);clear hcv;have HBW:Hid (Below w.heap.size w (Lib.bytesWorld w8 5 ⟨et.toArray⟩)):=LH (Below.then_ B6.out (bytes_below w8 _ _));by_cases hp:0≤B.at_
  case neg=>
   have HT0:=LH (HTE.out et (by rw [HTL2.out];unfold turnT;rw [if_neg (fun h=>hp h.1)]));go_wp2_with fail;exact bR (v:=.string ⟨et.toArray⟩) (by simp only [results,Tryz.results17];go_simp) rfl ⟨et,rfl,HT0.out,HBW.out⟩
  by_cases hq:B.at_<et.length
  case neg=>
   have HT0:=LH (HTE.out et (by rw [HTL2.out];unfold turnT;rw [if_neg (fun h=>hq h.2)]));go_wp2_with fail;exact bR (v:=.string ⟨et.toArray⟩) (by simp only [results,Tryz.results17];go_simp) rfl ⟨et,rfl,HT0.out,HBW.out⟩
  have HT0:=LH (HTE.out (spoilT ⟨et.toArray⟩ B.at_.toNat (B.by_.toNat:Int)).data.toList (by rw [HTL2.out];unfold turnT;rw [if_pos ⟨hp,hq⟩]));go_upto_region 10 with fail;obtain⟨a,ha⟩ : ∃a:Nat,B.at_=a:=Int.eq_ofNat_of_zero_le hp;rw [ha] at hp hq HT0⊢;have cn2:=hold;have cat:=(hold 6).trans (cn 6);have cby:=(hold 7).trans (cn 7);rw [ha] at cat;simp at cat cby
  have hal:a< (⟨et.toArray⟩ :ByteArray).size:=by show a<et.toArray.size;simpa using hq
  have HC:=bytesConv ⟨et.toArray⟩ a hal (B.by_.toNat:Int)
  try simp only [Int.toNat_natCast] at HT0
  generalize spoilT ⟨et.toArray⟩ a (B.by_.toNat:Int) =tt at HC HT0;generalize (nums ⟨et.toArray⟩).getD a 0=x at HC;have hxy:bits .xor .u8 x (B.by_.toNat:Int) =xorB x (B.by_.toNat:Int):=rfl;generalize xorB x (B.by_.toNat:Int) =y at HC hxy;have hcc:=HC.cell w8;have hcg:=HC.frozen w8;have hcb:=HC.back w8 (grownCap w8 et.length 0 5);have hcd:=HC.back1 w8 (grownCap w8 et.length 0 5);have HC0:=LH HC;clear HC hBk ha;have y4:pb≠w8.heap.size:=by omega
  have hnn: ¬(a:Int) <0:=by omega
  have hlz:w8.heap.size< (Lib.bytesWorld w8 5 ⟨et.toArray⟩).heap.size:=by rw [hsz];omega
  have BX:=LH (((Below.then_ B6.out (bytes_below w8 5 ⟨et.toArray⟩))).setCell (p:=⟨w8.heap.size,a,none⟩) B6.out.size (.int .u8 y));have HQ1:=LH hcb;have HQ2:=LH hcd;have HQ:=HC0.out.backAny w8;refine wp_region_noPanic ?_;refine wp_region_N (fun W=>W= (Lib.bytesWorld w8 5 ⟨et.toArray⟩).drew) [12] (by kernel_rfl) (rfl) (fun hHeld=> ?_);refine nP 0 (Value.slice (some ⟨w8.heap.size,0,none⟩) et.length (grownCap w8 et.length 0 5)) (h:= ?_)
  (try simp only [zA,zB,zC,Act.put,zD,zE,zF])
  refine nP 1 (Value.pointer (some ⟨pb,6,none⟩)) (h:= ?_)
  (try simp only [zA,zB,zC,Act.put,zD,zE,zF])
  refine nT 2 (Value.int .i64 (a:Int)) (y:=Or.inl ⟨by rfl,fun W hW=>by subst hW;clear hHeld cn cn2 hold;go_simp⟩) (s:=hHeld) (h:= ?_)
  (try simp only [zA,zB,zC,Act.put,zD,zE,zF])
  refine nP 3 (Value.slice (some ⟨w8.heap.size,0,none⟩) et.length (grownCap w8 et.length 0 5)) (h:= ?_)
  (try simp only [zA,zB,zC,Act.put,zD,zE,zF])
  refine nP 4 (Value.pointer (some ⟨pb,6,none⟩)) (h:= ?_)
  (try simp only [zA,zB,zC,Act.put,zD,zE,zF])
  refine nT 5 (Value.int .i64 (a:Int)) (y:=Or.inl ⟨by rfl,fun W hW=>by subst hW;clear hHeld cn cn2 hold;go_simp⟩) (s:=hHeld) (h:= ?_)
  (try simp only [zA,zB,zC,Act.put,zD,zE,zF])
  refine nP 6 (Value.pointer (some ⟨w8.heap.size,a,none⟩)) (h:= ?_)
  (try simp only [zA,zB,zC,Act.put,zD,zE,zF])
  refine nT 7 (Value.int .u8 x) (y:=Or.inl ⟨by rfl,fun W hW=>by subst hW;clear hHeld cn cn2 hold;go_simp⟩) (s:=hHeld) (h:= ?_)
  (try simp only [zA,zB,zC,Act.put,zD,zE,zF])
  refine nP 8 (Value.pointer (some ⟨pb,7,none⟩)) (h:= ?_)
  (try simp only [zA,zB,zC,Act.put,zD,zE,zF])
  refine nT 9 (Value.int .u8 (B.by_.toNat:Int)) (y:=Or.inl ⟨by rfl,fun W hW=>by subst hW;clear hHeld cn cn2 hold;go_simp⟩) (s:=hHeld) (h:= ?_)
  (try simp only [zA,zB,zC,Act.put,zD,zE,zF])
  refine nP 10 (Value.int .u8 y) (h:= ?_)
  (try simp only [zA,zB,zC,Act.put,zD,zE,zF])
  refine nP 11 (Value.pointer (some ⟨w8.heap.size,a,none⟩)) (h:= ?_)
  (try simp only [zA,zB,zC,Act.put,zD,zE,zF])
  refine nO (i:=12) (by kernel_rfl) rfl (fun K hK=> ?_);go_simp;refine hK.out _ _ (fun h=>absurd (by decide) h) ?_;clear hK K
  (try simp only [zA,zB,zC,Act.put,zD,zE,zF])
  refine nD (by kernel_rfl) ?_ _;refine NoPanic.normal ?_;obtain⟨tl,htl⟩ : ∃tl:List UInt8,tt= ⟨tl.toArray⟩:=⟨tt.data.toList,by simp⟩;have hcd2: (convert 129 9 (.slice (some ⟨w8.heap.size,0,none⟩) et.length (grownCap w8 et.length 0 5))).run Tryz.prog (World.setCell (Lib.bytesWorld w8 5 ⟨et.toArray⟩) ⟨w8.heap.size,a,none⟩ (.int .u8 y)).drew=.ok (.string ⟨tl.toArray⟩) (World.setCell (Lib.bytesWorld w8 5 ⟨et.toArray⟩) ⟨w8.heap.size,a,none⟩ (.int .u8 y)).drew:=by rw [←htl];exact HQ2.out
  have HT9:Hid (TextTo s.ep B tl):=LH (by have:=HT0.out;rw [htl] at this;simpa using this);have BY:Hid (Below w.heap.size w (World.setCell (Lib.bytesWorld w8 5 ⟨et.toArray⟩) ⟨w8.heap.size,a,none⟩ (.int .u8 y)).drew):=LH (Below.drew BX.out);clear htl hcb hcd HQ HC0 HQ1 HQ2 hold cn cn2 cat cby hcc hcg hxy y4 hnn hlz hHeld;generalize (World.setCell (Lib.bytesWorld w8 5 ⟨et.toArray⟩) ⟨w8.heap.size,a,none⟩ (.int .u8 y)).drew=wX at hcd2 BY⊢;go_wp2_with fail;exact bR (v:=.string ⟨tl.toArray⟩) (by simp only [results,Tryz.results17];go_simp) rfl ⟨tl,rfl,HT9.out,BY.out⟩
end Go.Proofs.YtandlhihcnadmaaGreat
