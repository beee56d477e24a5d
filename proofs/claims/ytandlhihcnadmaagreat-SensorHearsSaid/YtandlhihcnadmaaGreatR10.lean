/-
  Texts of this proof, one behind the other: Ref31C, Ref31D, VaryGet, LetDec, LetDecD, LetDecW, Reader, ReaderI, ReadP, WireRead, WireDec, Alive16, RankRisesW, Tells.
-/
import Derived.Test.YtandlhihcnadmaaGreatR1
import Derived.Test.YtandlhihcnadmaaGreatR2
import Derived.Test.YtandlhihcnadmaaGreatR3
import Derived.Test.YtandlhihcnadmaaGreatR5
import Derived.Test.YtandlhihcnadmaaGreatR6
import Derived.Test.YtandlhihcnadmaaGreatR7
import Derived.Test.YtandlhihcnadmaaGreatR8
import Derived.Test.YtandlhihcnadmaaGreatR9
set_option linter.unusedVariables false
set_option linter.unusedSimpArgs false
set_option maxRecDepth 100000
set_option maxHeartbeats 16000000
namespace Go.Proofs.YtandlhihcnadmaaGreat
open Go.ChangeShapes Go.WideShapes Go.ChangeAt Go.RowKit
def opC (o:OpX) :Array Value:= #[.int .i64 o.kd,.int .i64 o.x,.int .i64 o.y,.int .i64 o.b.on,.int .i64 o.b.fr,.int .i64 o.b.k,.int .i64 o.b.l,.int .u64 o.b.cover,.slice o.A o.b.ops.length o.c,.int .i64 o.b.at_,.int .u8 o.b.by_.toNat]
def opV (o:OpX) :Value:=.agg (opC o)
theorem store14_other {W:World} {b q:Nat} (h:q≠b) (v0 v1 v2 v3 v4 v5 v6 v7 v8 v9 v10 v11 v12 v13:Value) : (q14 W b v0 v1 v2 v3 v4 v5 v6 v7 v8 v9 v10 v11 v12 v13).heap[q]? =W.heap[q]? :=
 (Below.heap_setCell _ _ _ _ h).trans ((Below.heap_setCell _ _ _ _ h).trans ((Below.heap_setCell _ _ _ _ h).trans ((Below.heap_setCell _ _ _ _ h).trans ((Below.heap_setCell _ _ _ _ h).trans ((Below.heap_setCell _ _ _ _ h).trans ((Below.heap_setCell _ _ _ _ h).trans ((Below.heap_setCell _ _ _ _ h).trans ((Below.heap_setCell _ _ _ _ h).trans ((Below.heap_setCell _ _ _ _ h).trans ((Below.heap_setCell _ _ _ _ h).trans ((Below.heap_setCell _ _ _ _ h).trans ((Below.heap_setCell _ _ _ _ h).trans ((Below.heap_setCell _ _ _ _ h).trans (rfl))))))))))))))
structure D31 (w:World) (cs:Array Value) (o:OpX) (W:World) :Prop where
 x:W.heap[w.heap.size]? =some (.cells cs 37 (0,0))
 o:W.heap[w.heap.size+1]? =some (.cells (opC o) 44 (0,0))
 z:W.heap[w.heap.size+2]? =some (.cells #[.int .i64 0,.int .i64 0,.int .i64 0,.int .i64 0,.int .i64 0,.int .u64 0,.int .i64 0,.int .i64 0,.int .u64 0,.int .u64 0,.bool false,.int .i64 0,.int .i64 0,.slice none 0 0] 37 (0,0))
 b:Below w.heap.size w W
theorem D31.below {w W W':World} {cs:Array Value} {o:OpX} (h:D31 w cs o W) (hb:Below W.heap.size W W') :D31 w cs o W':=⟨bB h.x hb,bB h.o hb,bB h.z hb,Below.then_ h.b hb⟩
theorem D31.first (w:World) (cs:Array Value) (o:OpX) :D31 w cs o (((w.alloc (.cells cs 37)).alloc (.cells (opC o) 44)).alloc (.cells #[.int .i64 0,.int .i64 0,.int .i64 0,.int .i64 0,.int .i64 0,.int .u64 0,.int .i64 0,.int .i64 0,.int .u64 0,.int .u64 0,.bool false,.int .i64 0,.int .i64 0,.slice none 0 0] 37)):=by
 have a1:=(Below.refl w.heap.size w).alloc (Nat.le_refl _) (.cells cs 37);have s1: (w.alloc (.cells cs 37)).heap.size=w.heap.size+1:=by simp
 have h1: (w.alloc (.cells cs 37)).heap[w.heap.size]? =some (.cells cs 37 (0,0)):=heap_alloc_new w _;generalize w.alloc (.cells cs 37) =w1 at a1 s1 h1⊢;have a2:=(Below.refl w1.heap.size w1).alloc (Nat.le_refl _) (.cells (opC o) 44);have s2: (w1.alloc (.cells (opC o) 44)).heap.size=w1.heap.size+1:=by simp
 have h2: (w1.alloc (.cells (opC o) 44)).heap[w1.heap.size]? =some (.cells (opC o) 44 (0,0)):=heap_alloc_new w1 _;generalize w1.alloc (.cells (opC o) 44) =w2 at a2 s2 h2⊢;have a3:=(Below.refl w2.heap.size w2).alloc (Nat.le_refl _) (.cells #[.int .i64 0,.int .i64 0,.int .i64 0,.int .i64 0,.int .i64 0,.int .u64 0,.int .i64 0,.int .i64 0,.int .u64 0,.int .u64 0,.bool false,.int .i64 0,.int .i64 0,.slice none 0 0] 37);have h3: (w2.alloc (.cells #[.int .i64 0,.int .i64 0,.int .i64 0,.int .i64 0,.int .i64 0,.int .u64 0,.int .i64 0,.int .i64 0,.int .u64 0,.int .u64 0,.bool false,.int .i64 0,.int .i64 0,.slice none 0 0] 37)).heap[w2.heap.size]? =some (.cells #[.int .i64 0,.int .i64 0,.int .i64 0,.int .i64 0,.int .i64 0,.int .u64 0,.int .i64 0,.int .i64 0,.int .u64 0,.int .u64 0,.bool false,.int .i64 0,.int .i64 0,.slice none 0 0] 37 (0,0)):=heap_alloc_new w2 _;rw [s1] at h2;rw [s2,s1] at h3;exact⟨bB (bB h1 a2) a3,bB h2 a3,h3,Below.then_ (Below.then_ a1 a2) a3⟩
def Do31Post [Zone] (l:Nat) (s:Sen) (r:List Nd) (o:OpX) (w:World) (e:Ending) (w':World) :Prop:=
 ∃(t:List UInt8) (er:Int) (s':Sen) (r':List Nd) (A':Option Addr) (c':Nat),e=.returned (.tuple #[refV s' A' r'.length c',.string ⟨t.toArray⟩,.int .i64 er])∧StepTo l s r o t er s' r'∧SlZ w' 154 encN A' r'∧Below w.heap.size w w'
theorem Do31Post.of [Zone] {l:Nat} {s s':Sen} {r r':List Nd} {o:OpX} {w w':World} {t:List UInt8} {er:Int} {A':Option Addr} {c':Nat} (h:StepTo l s r o t er s' r') (hs:SlZ w' 154 encN A' r') (hb:Below w.heap.size w w') :
 Do31Post l s r o w (.returned (.tuple #[refV s' A' r'.length c',.string ⟨t.toArray⟩,.int .i64 er])) w':=⟨t,er,s',r',A',c',rfl,h,hs,hb⟩
theorem ref31_Do_put [Zone] (w:World) (l:Nat) (s:Sen) (A:Option Addr) (c:Nat) (r:List Nd) (o:OpX) (a:Al l s r) (hS:SlZ w 154 encN A r) (h0:o.kd=0) :
 Calls Tryz.prog 9 #[refV s A r.length c,opV o] w (Do31Post l s r o w):=by
 have hlen:=a.len;have hk1:=a.k.1;have hk2:=a.k.2;have HC:=LH (fun W h=>ref31_Put W l s A c r o.x o.y a.sl a.l1 h a.fits (by omega) hk1 (by omega) a.room);unfold Put31Post refV refC at HC;have HS:Hid (∀r',PutTo l s r o.x o.y r'→StepTo l s r o [] (putErr l s r o.x o.y) s r'):=LH fun r' h=>.inl ⟨h0,rfl,rfl,rfl,h⟩;generalize putErr l s r o.x o.y=er at HC HS;have hd0: (o.kd == 0) =true:=by simpa using h0
 clear h0 hlen;have S0:Hid (SlZ (((w.alloc (.cells (refC s A r.length c) 37)).alloc (.cells (opC o) 44)).alloc (.cells #[.int .i64 0,.int .i64 0,.int .i64 0,.int .i64 0,.int .i64 0,.int .u64 0,.int .i64 0,.int .i64 0,.int .u64 0,.int .u64 0,.bool false,.int .i64 0,.int .i64 0,.slice none 0 0] 37)) 154 encN A r):=LH (((hS.alloc _).alloc _).alloc _);have R0:=LH (D31.first w (refC s A r.length c) o);have HP:Hid (∀(t:List UInt8) (er:Int) (s':Sen) (r':List Nd) (A':Option Addr) (c':Nat) (W:World),StepTo l s r o t er s' r'→SlZ W 154 encN A' r'→Below w.heap.size w W→Do31Post l s r o w (.returned (.tuple #[refV s' A' r'.length c',.string ⟨t.toArray⟩,.int .i64 er])) W):=LH fun _ _ _ _ _ _ _ h1 h2 h3=>.of h1 h2 h3;clear a hS;unfold opV;unfold refV at HP⊢;unfold refC opC at R0 S0;unfold refC at HP⊢;unfold opC;generalize Do31Post l s r o w=PP at HP⊢
 go_enter Tryz.func9,Tryz.ntmps9
 go_upto_region 2 with fail;generalize ((w.alloc (.cells #[.int .i64 s.l,.int .i64 s.k,.int .i64 s.kd,.int .i64 s.p.me,.int .i64 s.p.wait,.int .u64 s.p.kids,.int .i64 s.ep,.int .i64 s.ti,.int .u64 s.heard,.int .u64 s.cover,.bool s.sent,.int .i64 s.k,.int .i64 s.l,.slice A r.length c] 37)).alloc (.cells #[.int .i64 o.kd,.int .i64 o.x,.int .i64 o.y,.int .i64 o.b.on,.int .i64 o.b.fr,.int .i64 o.b.k,.int .i64 o.b.l,.int .u64 o.b.cover,.slice o.A o.b.ops.length o.c,.int .i64 o.b.at_,.int .u8 o.b.by_.toNat] 44)).alloc (.cells #[.int .i64 0,.int .i64 0,.int .i64 0,.int .i64 0,.int .i64 0,.int .u64 0,.int .i64 0,.int .i64 0,.int .u64 0,.int .u64 0,.bool false,.int .i64 0,.int .i64 0,.slice none 0 0] 37) =W0 at R0 S0⊢;have cx:=bC R0.out.x;have zx:=lB R0.out.x;have fx:=bF R0.out.x;have co:=bC R0.out.o;have zo:=lB R0.out.o
 try unfold opC at co
 go_wp2_with fail;refine(HC.out W0 S0.out).mono ?_;rintro e w1 ⟨r',A',c',rfl,hp,hs,hb⟩;have HP1:=LH (HS.out r' hp);have R1:=LH (R0.out.below hb);have S1:=LH hs;clear hp hs hb R0 S0 HC HS;clear cx zx fx co zo;have cx:=bC R1.out.x;have zx:=lB R1.out.x;have fx:=bF R1.out.x;have co:=bC R1.out.o;have zo:=lB R1.out.o
 try unfold opC at co
 go_upto_region 12 with fail;have R2:Hid (D31 w #[.int .i64 s.l,.int .i64 s.k,.int .i64 s.kd,.int .i64 s.p.me,.int .i64 s.p.wait,.int .u64 s.p.kids,.int .i64 s.ep,.int .i64 s.ti,.int .u64 s.heard,.int .u64 s.cover,.bool s.sent,.int .i64 s.k,.int .i64 s.l,.slice A' r'.length c'] o (q14 w1 w.heap.size (.int .i64 s.l) (.int .i64 s.k) (.int .i64 s.kd) (.int .i64 s.p.me) (.int .i64 s.p.wait) (.int .u64 s.p.kids) (.int .i64 s.ep) (.int .i64 s.ti) (.int .u64 s.heard) (.int .u64 s.cover) (.bool s.sent) (.int .i64 s.k) (.int .i64 s.l) (.slice A' r'.length c'))):=LH ⟨store14 R1.out.x (.int .i64 s.l) (.int .i64 s.k) (.int .i64 s.kd) (.int .i64 s.p.me) (.int .i64 s.p.wait) (.int .u64 s.p.kids) (.int .i64 s.ep) (.int .i64 s.ti) (.int .u64 s.heard) (.int .u64 s.cover) (.bool s.sent) (.int .i64 s.k) (.int .i64 s.l) (.slice A' r'.length c'),(store14_other (by omega) (.int .i64 s.l) (.int .i64 s.k) (.int .i64 s.kd) (.int .i64 s.p.me) (.int .i64 s.p.wait) (.int .u64 s.p.kids) (.int .i64 s.ep) (.int .i64 s.ti) (.int .u64 s.heard) (.int .u64 s.cover) (.bool s.sent) (.int .i64 s.k) (.int .i64 s.l) (.slice A' r'.length c')).trans R1.out.o,(store14_other (by omega) (.int .i64 s.l) (.int .i64 s.k) (.int .i64 s.kd) (.int .i64 s.p.me) (.int .i64 s.p.wait) (.int .u64 s.p.kids) (.int .i64 s.ep) (.int .i64 s.ti) (.int .u64 s.heard) (.int .u64 s.cover) (.bool s.sent) (.int .i64 s.k) (.int .i64 s.l) (.slice A' r'.length c')).trans R1.out.z,store14_below R1.out.b (Nat.le_refl _) (.int .i64 s.l) (.int .i64 s.k) (.int .i64 s.kd) (.int .i64 s.p.me) (.int .i64 s.p.wait) (.int .u64 s.p.kids) (.int .i64 s.ep) (.int .i64 s.ti) (.int .u64 s.heard) (.int .u64 s.cover) (.bool s.sent) (.int .i64 s.k) (.int .i64 s.l) (.slice A' r'.length c')⟩;have S2:=LH (store14_slT R1.out.x S1.out (.int .i64 s.l) (.int .i64 s.k) (.int .i64 s.kd) (.int .i64 s.p.me) (.int .i64 s.p.wait) (.int .u64 s.p.kids) (.int .i64 s.ep) (.int .i64 s.ti) (.int .u64 s.heard) (.int .u64 s.cover) (.bool s.sent) (.int .i64 s.k) (.int .i64 s.l) (.slice A' r'.length c'));clear cx zx fx co zo;rw [q14e];generalize (q14 w1 w.heap.size (.int .i64 s.l) (.int .i64 s.k) (.int .i64 s.kd) (.int .i64 s.p.me) (.int .i64 s.p.wait) (.int .u64 s.p.kids) (.int .i64 s.ep) (.int .i64 s.ti) (.int .u64 s.heard) (.int .u64 s.cover) (.bool s.sent) (.int .i64 s.k) (.int .i64 s.l) (.slice A' r'.length c')) =w2 at R2 S2⊢;have cx:=bC R2.out.x;have zx:=lB R2.out.x;have fx:=bF R2.out.x;have co:=bC R2.out.o;have zo:=lB R2.out.o
 try unfold opC at co
 have cz:=bC R2.out.z;have fz:=bF R2.out.z;have zz:=lB R2.out.z;have Y:Hid ((q14 w2 (w.heap.size+2) (.int .i64 s.l) (.int .i64 s.k) (.int .i64 s.kd) (.int .i64 s.p.me) (.int .i64 s.p.wait) (.int .u64 s.p.kids) (.int .i64 s.ep) (.int .i64 s.ti) (.int .u64 s.heard) (.int .u64 s.cover) (.bool s.sent) (.int .i64 s.k) (.int .i64 s.l) (.slice A' r'.length c')).heap[w.heap.size+2]? =some (.cells #[.int .i64 s.l,.int .i64 s.k,.int .i64 s.kd,.int .i64 s.p.me,.int .i64 s.p.wait,.int .u64 s.p.kids,.int .i64 s.ep,.int .i64 s.ti,.int .u64 s.heard,.int .u64 s.cover,.bool s.sent,.int .i64 s.k,.int .i64 s.l,.slice A' r'.length c'] 37 (0,0))):=LH (store14 R2.out.z (.int .i64 s.l) (.int .i64 s.k) (.int .i64 s.kd) (.int .i64 s.p.me) (.int .i64 s.p.wait) (.int .u64 s.p.kids) (.int .i64 s.ep) (.int .i64 s.ti) (.int .u64 s.heard) (.int .u64 s.cover) (.bool s.sent) (.int .i64 s.k) (.int .i64 s.l) (.slice A' r'.length c'));have B:Hid (Below w.heap.size w (q14 w2 (w.heap.size+2) (.int .i64 s.l) (.int .i64 s.k) (.int .i64 s.kd) (.int .i64 s.p.me) (.int .i64 s.p.wait) (.int .u64 s.p.kids) (.int .i64 s.ep) (.int .i64 s.ti) (.int .u64 s.heard) (.int .u64 s.cover) (.bool s.sent) (.int .i64 s.k) (.int .i64 s.l) (.slice A' r'.length c'))):=LH (store14_below R2.out.b (by omega) (.int .i64 s.l) (.int .i64 s.k) (.int .i64 s.kd) (.int .i64 s.p.me) (.int .i64 s.p.wait) (.int .u64 s.p.kids) (.int .i64 s.ep) (.int .i64 s.ti) (.int .u64 s.heard) (.int .u64 s.cover) (.bool s.sent) (.int .i64 s.k) (.int .i64 s.l) (.slice A' r'.length c'));have S:=LH (store14_slT R2.out.z S2.out (.int .i64 s.l) (.int .i64 s.k) (.int .i64 s.kd) (.int .i64 s.p.me) (.int .i64 s.p.wait) (.int .u64 s.p.kids) (.int .i64 s.ep) (.int .i64 s.ti) (.int .u64 s.heard) (.int .u64 s.cover) (.bool s.sent) (.int .i64 s.k) (.int .i64 s.l) (.slice A' r'.length c'));go_wp2_with fail;clear cx zx fx co zo;clear cz fz zz;rw [q14e];generalize (q14 w2 (w.heap.size+2) (.int .i64 s.l) (.int .i64 s.k) (.int .i64 s.kd) (.int .i64 s.p.me) (.int .i64 s.p.wait) (.int .u64 s.p.kids) (.int .i64 s.ep) (.int .i64 s.ti) (.int .u64 s.heard) (.int .u64 s.cover) (.bool s.sent) (.int .i64 s.k) (.int .i64 s.l) (.slice A' r'.length c')) =wz at Y B S⊢;have ce:=bC Y.out;have fe:=bF Y.out;have ze:=lB Y.out;exact bR (v:=.tuple #[.agg #[.int .i64 s.l,.int .i64 s.k,.int .i64 s.kd,.int .i64 s.p.me,.int .i64 s.p.wait,.int .u64 s.p.kids,.int .i64 s.ep,.int .i64 s.ti,.int .u64 s.heard,.int .u64 s.cover,.bool s.sent,.int .i64 s.k,.int .i64 s.l,.slice A' r'.length c'],.string ⟨#[]⟩,.int .i64 er]) (by simp only [results,Tryz.results9];go_simp) rfl (HP.out [] er s r' A' c' wz HP1.out S.out B.out)
theorem ref31_Do_next [Zone] (w:World) (l:Nat) (s:Sen) (A:Option Addr) (c:Nat) (r:List Nd) (o:OpX) (a:Al l s r) (hS:SlZ w 154 encN A r) (h0:o.kd=4) :
 Calls Tryz.prog 9 #[refV s A r.length c,opV o] w (Do31Post l s r o w):=by
 have hlen:=a.len;have hk1:=a.k.1;have hk2:=a.k.2;have HC:=LH (fun W=>ref31_Next W s A r.length c a.ok.e0 a.ok.e1);unfold Next31Post refV refC at HC;have HS:Hid (StepTo l s r o [] (nextE s) (nextS s) (nextR s r)):=LH (.inr (.inr (.inr (.inl ⟨h0,rfl,rfl,rfl,rfl⟩))));unfold nextE nextS nextR at HS;have hd0: (o.kd == 0) =false:=by rw [h0];rfl
 have hd1: (o.kd == 1) =false:=by rw [h0];rfl
 have hd3: (o.kd == 3) =false:=by rw [h0];rfl
 have hd4: (o.kd == 4) =true:=by rw [h0];rfl
 clear h0 hlen;have S0:Hid (SlZ (((w.alloc (.cells (refC s A r.length c) 37)).alloc (.cells (opC o) 44)).alloc (.cells #[.int .i64 0,.int .i64 0,.int .i64 0,.int .i64 0,.int .i64 0,.int .u64 0,.int .i64 0,.int .i64 0,.int .u64 0,.int .u64 0,.bool false,.int .i64 0,.int .i64 0,.slice none 0 0] 37)) 154 encN A r):=LH (((hS.alloc _).alloc _).alloc _);have R0:=LH (D31.first w (refC s A r.length c) o);have HP:Hid (∀(t:List UInt8) (er:Int) (s':Sen) (r':List Nd) (A':Option Addr) (c':Nat) (W:World),StepTo l s r o t er s' r'→SlZ W 154 encN A' r'→Below w.heap.size w W→Do31Post l s r o w (.returned (.tuple #[refV s' A' r'.length c',.string ⟨t.toArray⟩,.int .i64 er])) W):=LH fun _ _ _ _ _ _ _ h1 h2 h3=>.of h1 h2 h3;clear a hS;unfold opV;unfold refV at HP⊢;unfold refC opC at R0 S0;unfold refC at HP⊢;unfold opC;generalize Do31Post l s r o w=PP at HP⊢
 go_enter Tryz.func9,Tryz.ntmps9
 go_upto_region 2 with fail;generalize ((w.alloc (.cells #[.int .i64 s.l,.int .i64 s.k,.int .i64 s.kd,.int .i64 s.p.me,.int .i64 s.p.wait,.int .u64 s.p.kids,.int .i64 s.ep,.int .i64 s.ti,.int .u64 s.heard,.int .u64 s.cover,.bool s.sent,.int .i64 s.k,.int .i64 s.l,.slice A r.length c] 37)).alloc (.cells #[.int .i64 o.kd,.int .i64 o.x,.int .i64 o.y,.int .i64 o.b.on,.int .i64 o.b.fr,.int .i64 o.b.k,.int .i64 o.b.l,.int .u64 o.b.cover,.slice o.A o.b.ops.length o.c,.int .i64 o.b.at_,.int .u8 o.b.by_.toNat] 44)).alloc (.cells #[.int .i64 0,.int .i64 0,.int .i64 0,.int .i64 0,.int .i64 0,.int .u64 0,.int .i64 0,.int .i64 0,.int .u64 0,.int .u64 0,.bool false,.int .i64 0,.int .i64 0,.slice none 0 0] 37) =W0 at R0 S0⊢;have cx:=bC R0.out.x;have zx:=lB R0.out.x;have fx:=bF R0.out.x;have co:=bC R0.out.o;have zo:=lB R0.out.o
 try unfold opC at co
 go_wp2_with fail;refine(HC.out W0).mono ?_;rintro e w1 ⟨hc,hb⟩;have R1:=LH (R0.out.below hb);have S1:=LH (S0.out.below hb);clear hb R0 S0 HC;clear cx zx fx co zo;have cx:=bC R1.out.x;have zx:=lB R1.out.x;have fx:=bF R1.out.x;have co:=bC R1.out.o;have zo:=lB R1.out.o
 try unfold opC at co
 rcases hc with ⟨he,rfl⟩ | ⟨he,rfl⟩
 ·rw [if_pos he,if_pos he,if_pos he] at HS
  clear he;go_upto_region 12 with fail;have R2:Hid (D31 w #[.int .i64 s.l,.int .i64 s.k,.int .i64 s.kd,.int .i64 s.p.me,.int .i64 s.p.wait,.int .u64 s.p.kids,.int .i64 s.ep,.int .i64 s.ti,.int .u64 s.heard,.int .u64 s.cover,.bool s.sent,.int .i64 s.k,.int .i64 s.l,.slice A r.length c] o (q14 w1 w.heap.size (.int .i64 s.l) (.int .i64 s.k) (.int .i64 s.kd) (.int .i64 s.p.me) (.int .i64 s.p.wait) (.int .u64 s.p.kids) (.int .i64 s.ep) (.int .i64 s.ti) (.int .u64 s.heard) (.int .u64 s.cover) (.bool s.sent) (.int .i64 s.k) (.int .i64 s.l) (.slice A r.length c))):=LH ⟨store14 R1.out.x (.int .i64 s.l) (.int .i64 s.k) (.int .i64 s.kd) (.int .i64 s.p.me) (.int .i64 s.p.wait) (.int .u64 s.p.kids) (.int .i64 s.ep) (.int .i64 s.ti) (.int .u64 s.heard) (.int .u64 s.cover) (.bool s.sent) (.int .i64 s.k) (.int .i64 s.l) (.slice A r.length c),(store14_other (by omega) (.int .i64 s.l) (.int .i64 s.k) (.int .i64 s.kd) (.int .i64 s.p.me) (.int .i64 s.p.wait) (.int .u64 s.p.kids) (.int .i64 s.ep) (.int .i64 s.ti) (.int .u64 s.heard) (.int .u64 s.cover) (.bool s.sent) (.int .i64 s.k) (.int .i64 s.l) (.slice A r.length c)).trans R1.out.o,(store14_other (by omega) (.int .i64 s.l) (.int .i64 s.k) (.int .i64 s.kd) (.int .i64 s.p.me) (.int .i64 s.p.wait) (.int .u64 s.p.kids) (.int .i64 s.ep) (.int .i64 s.ti) (.int .u64 s.heard) (.int .u64 s.cover) (.bool s.sent) (.int .i64 s.k) (.int .i64 s.l) (.slice A r.length c)).trans R1.out.z,store14_below R1.out.b (Nat.le_refl _) (.int .i64 s.l) (.int .i64 s.k) (.int .i64 s.kd) (.int .i64 s.p.me) (.int .i64 s.p.wait) (.int .u64 s.p.kids) (.int .i64 s.ep) (.int .i64 s.ti) (.int .u64 s.heard) (.int .u64 s.cover) (.bool s.sent) (.int .i64 s.k) (.int .i64 s.l) (.slice A r.length c)⟩;have S2:=LH (store14_slT R1.out.x S1.out (.int .i64 s.l) (.int .i64 s.k) (.int .i64 s.kd) (.int .i64 s.p.me) (.int .i64 s.p.wait) (.int .u64 s.p.kids) (.int .i64 s.ep) (.int .i64 s.ti) (.int .u64 s.heard) (.int .u64 s.cover) (.bool s.sent) (.int .i64 s.k) (.int .i64 s.l) (.slice A r.length c));clear cx zx fx co zo;rw [q14e];generalize (q14 w1 w.heap.size (.int .i64 s.l) (.int .i64 s.k) (.int .i64 s.kd) (.int .i64 s.p.me) (.int .i64 s.p.wait) (.int .u64 s.p.kids) (.int .i64 s.ep) (.int .i64 s.ti) (.int .u64 s.heard) (.int .u64 s.cover) (.bool s.sent) (.int .i64 s.k) (.int .i64 s.l) (.slice A r.length c)) =w2 at R2 S2⊢;have cx:=bC R2.out.x;have zx:=lB R2.out.x;have fx:=bF R2.out.x;have co:=bC R2.out.o;have zo:=lB R2.out.o
  try unfold opC at co
  have cz:=bC R2.out.z;have fz:=bF R2.out.z;have zz:=lB R2.out.z;have Y:Hid ((q14 w2 (w.heap.size+2) (.int .i64 s.l) (.int .i64 s.k) (.int .i64 s.kd) (.int .i64 s.p.me) (.int .i64 s.p.wait) (.int .u64 s.p.kids) (.int .i64 s.ep) (.int .i64 s.ti) (.int .u64 s.heard) (.int .u64 s.cover) (.bool s.sent) (.int .i64 s.k) (.int .i64 s.l) (.slice A r.length c)).heap[w.heap.size+2]? =some (.cells #[.int .i64 s.l,.int .i64 s.k,.int .i64 s.kd,.int .i64 s.p.me,.int .i64 s.p.wait,.int .u64 s.p.kids,.int .i64 s.ep,.int .i64 s.ti,.int .u64 s.heard,.int .u64 s.cover,.bool s.sent,.int .i64 s.k,.int .i64 s.l,.slice A r.length c] 37 (0,0))):=LH (store14 R2.out.z (.int .i64 s.l) (.int .i64 s.k) (.int .i64 s.kd) (.int .i64 s.p.me) (.int .i64 s.p.wait) (.int .u64 s.p.kids) (.int .i64 s.ep) (.int .i64 s.ti) (.int .u64 s.heard) (.int .u64 s.cover) (.bool s.sent) (.int .i64 s.k) (.int .i64 s.l) (.slice A r.length c));have B:Hid (Below w.heap.size w (q14 w2 (w.heap.size+2) (.int .i64 s.l) (.int .i64 s.k) (.int .i64 s.kd) (.int .i64 s.p.me) (.int .i64 s.p.wait) (.int .u64 s.p.kids) (.int .i64 s.ep) (.int .i64 s.ti) (.int .u64 s.heard) (.int .u64 s.cover) (.bool s.sent) (.int .i64 s.k) (.int .i64 s.l) (.slice A r.length c))):=LH (store14_below R2.out.b (by omega) (.int .i64 s.l) (.int .i64 s.k) (.int .i64 s.kd) (.int .i64 s.p.me) (.int .i64 s.p.wait) (.int .u64 s.p.kids) (.int .i64 s.ep) (.int .i64 s.ti) (.int .u64 s.heard) (.int .u64 s.cover) (.bool s.sent) (.int .i64 s.k) (.int .i64 s.l) (.slice A r.length c));have S:=LH (store14_slT R2.out.z S2.out (.int .i64 s.l) (.int .i64 s.k) (.int .i64 s.kd) (.int .i64 s.p.me) (.int .i64 s.p.wait) (.int .u64 s.p.kids) (.int .i64 s.ep) (.int .i64 s.ti) (.int .u64 s.heard) (.int .u64 s.cover) (.bool s.sent) (.int .i64 s.k) (.int .i64 s.l) (.slice A r.length c));go_wp2_with fail;clear cx zx fx co zo;clear cz fz zz;rw [q14e];generalize (q14 w2 (w.heap.size+2) (.int .i64 s.l) (.int .i64 s.k) (.int .i64 s.kd) (.int .i64 s.p.me) (.int .i64 s.p.wait) (.int .u64 s.p.kids) (.int .i64 s.ep) (.int .i64 s.ti) (.int .u64 s.heard) (.int .u64 s.cover) (.bool s.sent) (.int .i64 s.k) (.int .i64 s.l) (.slice A r.length c)) =wz at Y B S⊢;have ce:=bC Y.out;have fe:=bF Y.out;have ze:=lB Y.out;exact bR (v:=.tuple #[.agg #[.int .i64 s.l,.int .i64 s.k,.int .i64 s.kd,.int .i64 s.p.me,.int .i64 s.p.wait,.int .u64 s.p.kids,.int .i64 s.ep,.int .i64 s.ti,.int .u64 s.heard,.int .u64 s.cover,.bool s.sent,.int .i64 s.k,.int .i64 s.l,.slice A r.length c],.string ⟨#[]⟩,.int .i64 21]) (by simp only [results,Tryz.results9];go_simp) rfl (HP.out [] 21 s r A c wz HS.out S.out B.out)
 ·rw [if_neg he,if_neg he,if_neg he] at HS
  clear he;have S1n:=LH S1.out.none_;obtain⟨sn,hsn⟩ : ∃x,x=senNew s.l s.k s.kd s.p (s.ep+1):=⟨_,rfl⟩;rw [←hsn] at HS⊢;clear hsn;go_upto_region 12 with fail;have R2:Hid (D31 w #[.int .i64 sn.l,.int .i64 sn.k,.int .i64 sn.kd,.int .i64 sn.p.me,.int .i64 sn.p.wait,.int .u64 sn.p.kids,.int .i64 sn.ep,.int .i64 sn.ti,.int .u64 sn.heard,.int .u64 sn.cover,.bool sn.sent,.int .i64 sn.k,.int .i64 sn.l,.slice none 0 0] o (q14 w1 w.heap.size (.int .i64 sn.l) (.int .i64 sn.k) (.int .i64 sn.kd) (.int .i64 sn.p.me) (.int .i64 sn.p.wait) (.int .u64 sn.p.kids) (.int .i64 sn.ep) (.int .i64 sn.ti) (.int .u64 sn.heard) (.int .u64 sn.cover) (.bool sn.sent) (.int .i64 sn.k) (.int .i64 sn.l) (.slice none 0 0))):=LH ⟨store14 R1.out.x (.int .i64 sn.l) (.int .i64 sn.k) (.int .i64 sn.kd) (.int .i64 sn.p.me) (.int .i64 sn.p.wait) (.int .u64 sn.p.kids) (.int .i64 sn.ep) (.int .i64 sn.ti) (.int .u64 sn.heard) (.int .u64 sn.cover) (.bool sn.sent) (.int .i64 sn.k) (.int .i64 sn.l) (.slice none 0 0),(store14_other (by omega) (.int .i64 sn.l) (.int .i64 sn.k) (.int .i64 sn.kd) (.int .i64 sn.p.me) (.int .i64 sn.p.wait) (.int .u64 sn.p.kids) (.int .i64 sn.ep) (.int .i64 sn.ti) (.int .u64 sn.heard) (.int .u64 sn.cover) (.bool sn.sent) (.int .i64 sn.k) (.int .i64 sn.l) (.slice none 0 0)).trans R1.out.o,(store14_other (by omega) (.int .i64 sn.l) (.int .i64 sn.k) (.int .i64 sn.kd) (.int .i64 sn.p.me) (.int .i64 sn.p.wait) (.int .u64 sn.p.kids) (.int .i64 sn.ep) (.int .i64 sn.ti) (.int .u64 sn.heard) (.int .u64 sn.cover) (.bool sn.sent) (.int .i64 sn.k) (.int .i64 sn.l) (.slice none 0 0)).trans R1.out.z,store14_below R1.out.b (Nat.le_refl _) (.int .i64 sn.l) (.int .i64 sn.k) (.int .i64 sn.kd) (.int .i64 sn.p.me) (.int .i64 sn.p.wait) (.int .u64 sn.p.kids) (.int .i64 sn.ep) (.int .i64 sn.ti) (.int .u64 sn.heard) (.int .u64 sn.cover) (.bool sn.sent) (.int .i64 sn.k) (.int .i64 sn.l) (.slice none 0 0)⟩;have S2:=LH (store14_slT R1.out.x S1n.out (.int .i64 sn.l) (.int .i64 sn.k) (.int .i64 sn.kd) (.int .i64 sn.p.me) (.int .i64 sn.p.wait) (.int .u64 sn.p.kids) (.int .i64 sn.ep) (.int .i64 sn.ti) (.int .u64 sn.heard) (.int .u64 sn.cover) (.bool sn.sent) (.int .i64 sn.k) (.int .i64 sn.l) (.slice none 0 0));clear cx zx fx co zo;rw [q14e];generalize (q14 w1 w.heap.size (.int .i64 sn.l) (.int .i64 sn.k) (.int .i64 sn.kd) (.int .i64 sn.p.me) (.int .i64 sn.p.wait) (.int .u64 sn.p.kids) (.int .i64 sn.ep) (.int .i64 sn.ti) (.int .u64 sn.heard) (.int .u64 sn.cover) (.bool sn.sent) (.int .i64 sn.k) (.int .i64 sn.l) (.slice none 0 0)) =w2 at R2 S2⊢;have cx:=bC R2.out.x;have zx:=lB R2.out.x;have fx:=bF R2.out.x;have co:=bC R2.out.o;have zo:=lB R2.out.o
  try unfold opC at co
  have cz:=bC R2.out.z;have fz:=bF R2.out.z;have zz:=lB R2.out.z;have Y:Hid ((q14 w2 (w.heap.size+2) (.int .i64 sn.l) (.int .i64 sn.k) (.int .i64 sn.kd) (.int .i64 sn.p.me) (.int .i64 sn.p.wait) (.int .u64 sn.p.kids) (.int .i64 sn.ep) (.int .i64 sn.ti) (.int .u64 sn.heard) (.int .u64 sn.cover) (.bool sn.sent) (.int .i64 sn.k) (.int .i64 sn.l) (.slice none 0 0)).heap[w.heap.size+2]? =some (.cells #[.int .i64 sn.l,.int .i64 sn.k,.int .i64 sn.kd,.int .i64 sn.p.me,.int .i64 sn.p.wait,.int .u64 sn.p.kids,.int .i64 sn.ep,.int .i64 sn.ti,.int .u64 sn.heard,.int .u64 sn.cover,.bool sn.sent,.int .i64 sn.k,.int .i64 sn.l,.slice none 0 0] 37 (0,0))):=LH (store14 R2.out.z (.int .i64 sn.l) (.int .i64 sn.k) (.int .i64 sn.kd) (.int .i64 sn.p.me) (.int .i64 sn.p.wait) (.int .u64 sn.p.kids) (.int .i64 sn.ep) (.int .i64 sn.ti) (.int .u64 sn.heard) (.int .u64 sn.cover) (.bool sn.sent) (.int .i64 sn.k) (.int .i64 sn.l) (.slice none 0 0));have B:Hid (Below w.heap.size w (q14 w2 (w.heap.size+2) (.int .i64 sn.l) (.int .i64 sn.k) (.int .i64 sn.kd) (.int .i64 sn.p.me) (.int .i64 sn.p.wait) (.int .u64 sn.p.kids) (.int .i64 sn.ep) (.int .i64 sn.ti) (.int .u64 sn.heard) (.int .u64 sn.cover) (.bool sn.sent) (.int .i64 sn.k) (.int .i64 sn.l) (.slice none 0 0))):=LH (store14_below R2.out.b (by omega) (.int .i64 sn.l) (.int .i64 sn.k) (.int .i64 sn.kd) (.int .i64 sn.p.me) (.int .i64 sn.p.wait) (.int .u64 sn.p.kids) (.int .i64 sn.ep) (.int .i64 sn.ti) (.int .u64 sn.heard) (.int .u64 sn.cover) (.bool sn.sent) (.int .i64 sn.k) (.int .i64 sn.l) (.slice none 0 0));have S:=LH (store14_slT R2.out.z S2.out (.int .i64 sn.l) (.int .i64 sn.k) (.int .i64 sn.kd) (.int .i64 sn.p.me) (.int .i64 sn.p.wait) (.int .u64 sn.p.kids) (.int .i64 sn.ep) (.int .i64 sn.ti) (.int .u64 sn.heard) (.int .u64 sn.cover) (.bool sn.sent) (.int .i64 sn.k) (.int .i64 sn.l) (.slice none 0 0));go_wp2_with fail;clear cx zx fx co zo;clear cz fz zz;rw [q14e];generalize (q14 w2 (w.heap.size+2) (.int .i64 sn.l) (.int .i64 sn.k) (.int .i64 sn.kd) (.int .i64 sn.p.me) (.int .i64 sn.p.wait) (.int .u64 sn.p.kids) (.int .i64 sn.ep) (.int .i64 sn.ti) (.int .u64 sn.heard) (.int .u64 sn.cover) (.bool sn.sent) (.int .i64 sn.k) (.int .i64 sn.l) (.slice none 0 0)) =wz at Y B S⊢;have ce:=bC Y.out;have fe:=bF Y.out;have ze:=lB Y.out;exact bR (v:=.tuple #[.agg #[.int .i64 sn.l,.int .i64 sn.k,.int .i64 sn.kd,.int .i64 sn.p.me,.int .i64 sn.p.wait,.int .u64 sn.p.kids,.int .i64 sn.ep,.int .i64 sn.ti,.int .u64 sn.heard,.int .u64 sn.cover,.bool sn.sent,.int .i64 sn.k,.int .i64 sn.l,.slice none 0 0],.string ⟨#[]⟩,.int .i64 0]) (by simp only [results,Tryz.results9];go_simp) rfl (HP.out [] 0 sn [] none 0 wz HS.out S.out B.out)
theorem ref31_Do_tick [Zone] (w:World) (l:Nat) (s:Sen) (A:Option Addr) (c:Nat) (r:List Nd) (o:OpX) (a:Al l s r) (hS:SlZ w 154 encN A r) (h0:o.kd≠0) (h1:o.kd≠1) (h3:o.kd≠3) (h4:o.kd≠4) :
 Calls Tryz.prog 9 #[refV s A r.length c,opV o] w (Do31Post l s r o w):=by
 have hlen:=a.len;have hk1:=a.k.1;have hk2:=a.k.2;have hw:=a.ok.wait.1;have ht0:=a.ok.t0;have ht1:=a.ok.t1;have HC:=LH (fun W=>ref31_Tick W s A r.length c a.ok.t0 (by omega));unfold refV refC at HC;have HS:Hid (StepTo l s r o [] 0 (tickedS s) r):=LH (.inr (.inr (.inr (.inr ⟨⟨h0,h1,h3,h4⟩,rfl,rfl,rfl,rfl⟩))));generalize tickedS s=sn at HC HS;have hd0: (o.kd == 0) =false:=by simpa using h0
 have hd1: (o.kd == 1) =false:=by simpa using h1
 have hd3: (o.kd == 3) =false:=by simpa using h3
 have hd4: (o.kd == 4) =false:=by simpa using h4
 clear h0 h1 h3 h4 hlen hw ht0 ht1;have S0:Hid (SlZ (((w.alloc (.cells (refC s A r.length c) 37)).alloc (.cells (opC o) 44)).alloc (.cells #[.int .i64 0,.int .i64 0,.int .i64 0,.int .i64 0,.int .i64 0,.int .u64 0,.int .i64 0,.int .i64 0,.int .u64 0,.int .u64 0,.bool false,.int .i64 0,.int .i64 0,.slice none 0 0] 37)) 154 encN A r):=LH (((hS.alloc _).alloc _).alloc _);have R0:=LH (D31.first w (refC s A r.length c) o);have HP:Hid (∀(t:List UInt8) (er:Int) (s':Sen) (r':List Nd) (A':Option Addr) (c':Nat) (W:World),StepTo l s r o t er s' r'→SlZ W 154 encN A' r'→Below w.heap.size w W→Do31Post l s r o w (.returned (.tuple #[refV s' A' r'.length c',.string ⟨t.toArray⟩,.int .i64 er])) W):=LH fun _ _ _ _ _ _ _ h1 h2 h3=>.of h1 h2 h3;clear a hS;unfold opV;unfold refV at HP⊢;unfold refC opC at R0 S0;unfold refC at HP⊢;unfold opC;generalize Do31Post l s r o w=PP at HP⊢
 go_enter Tryz.func9,Tryz.ntmps9
 go_upto_region 2 with fail;generalize ((w.alloc (.cells #[.int .i64 s.l,.int .i64 s.k,.int .i64 s.kd,.int .i64 s.p.me,.int .i64 s.p.wait,.int .u64 s.p.kids,.int .i64 s.ep,.int .i64 s.ti,.int .u64 s.heard,.int .u64 s.cover,.bool s.sent,.int .i64 s.k,.int .i64 s.l,.slice A r.length c] 37)).alloc (.cells #[.int .i64 o.kd,.int .i64 o.x,.int .i64 o.y,.int .i64 o.b.on,.int .i64 o.b.fr,.int .i64 o.b.k,.int .i64 o.b.l,.int .u64 o.b.cover,.slice o.A o.b.ops.length o.c,.int .i64 o.b.at_,.int .u8 o.b.by_.toNat] 44)).alloc (.cells #[.int .i64 0,.int .i64 0,.int .i64 0,.int .i64 0,.int .i64 0,.int .u64 0,.int .i64 0,.int .i64 0,.int .u64 0,.int .u64 0,.bool false,.int .i64 0,.int .i64 0,.slice none 0 0] 37) =W0 at R0 S0⊢;have cx:=bC R0.out.x;have zx:=lB R0.out.x;have fx:=bF R0.out.x;have co:=bC R0.out.o;have zo:=lB R0.out.o
 try unfold opC at co
 go_wp2_with fail;refine(HC.out W0).mono ?_;rintro e w1 ⟨rfl,hb⟩;have R1:=LH (R0.out.below hb);have S1:=LH (S0.out.below hb);clear hb R0 S0 HC;clear cx zx fx co zo;have cx:=bC R1.out.x;have zx:=lB R1.out.x;have fx:=bF R1.out.x;have co:=bC R1.out.o;have zo:=lB R1.out.o
 try unfold opC at co
 go_upto_region 12 with fail;have R2:Hid (D31 w #[.int .i64 sn.l,.int .i64 sn.k,.int .i64 sn.kd,.int .i64 sn.p.me,.int .i64 sn.p.wait,.int .u64 sn.p.kids,.int .i64 sn.ep,.int .i64 sn.ti,.int .u64 sn.heard,.int .u64 sn.cover,.bool sn.sent,.int .i64 sn.k,.int .i64 sn.l,.slice A r.length c] o (q14 w1 w.heap.size (.int .i64 sn.l) (.int .i64 sn.k) (.int .i64 sn.kd) (.int .i64 sn.p.me) (.int .i64 sn.p.wait) (.int .u64 sn.p.kids) (.int .i64 sn.ep) (.int .i64 sn.ti) (.int .u64 sn.heard) (.int .u64 sn.cover) (.bool sn.sent) (.int .i64 sn.k) (.int .i64 sn.l) (.slice A r.length c))):=LH ⟨store14 R1.out.x (.int .i64 sn.l) (.int .i64 sn.k) (.int .i64 sn.kd) (.int .i64 sn.p.me) (.int .i64 sn.p.wait) (.int .u64 sn.p.kids) (.int .i64 sn.ep) (.int .i64 sn.ti) (.int .u64 sn.heard) (.int .u64 sn.cover) (.bool sn.sent) (.int .i64 sn.k) (.int .i64 sn.l) (.slice A r.length c),(store14_other (by omega) (.int .i64 sn.l) (.int .i64 sn.k) (.int .i64 sn.kd) (.int .i64 sn.p.me) (.int .i64 sn.p.wait) (.int .u64 sn.p.kids) (.int .i64 sn.ep) (.int .i64 sn.ti) (.int .u64 sn.heard) (.int .u64 sn.cover) (.bool sn.sent) (.int .i64 sn.k) (.int .i64 sn.l) (.slice A r.length c)).trans R1.out.o,(store14_other (by omega) (.int .i64 sn.l) (.int .i64 sn.k) (.int .i64 sn.kd) (.int .i64 sn.p.me) (.int .i64 sn.p.wait) (.int .u64 sn.p.kids) (.int .i64 sn.ep) (.int .i64 sn.ti) (.int .u64 sn.heard) (.int .u64 sn.cover) (.bool sn.sent) (.int .i64 sn.k) (.int .i64 sn.l) (.slice A r.length c)).trans R1.out.z,store14_below R1.out.b (Nat.le_refl _) (.int .i64 sn.l) (.int .i64 sn.k) (.int .i64 sn.kd) (.int .i64 sn.p.me) (.int .i64 sn.p.wait) (.int .u64 sn.p.kids) (.int .i64 sn.ep) (.int .i64 sn.ti) (.int .u64 sn.heard) (.int .u64 sn.cover) (.bool sn.sent) (.int .i64 sn.k) (.int .i64 sn.l) (.slice A r.length c)⟩;have S2:=LH (store14_slT R1.out.x S1.out (.int .i64 sn.l) (.int .i64 sn.k) (.int .i64 sn.kd) (.int .i64 sn.p.me) (.int .i64 sn.p.wait) (.int .u64 sn.p.kids) (.int .i64 sn.ep) (.int .i64 sn.ti) (.int .u64 sn.heard) (.int .u64 sn.cover) (.bool sn.sent) (.int .i64 sn.k) (.int .i64 sn.l) (.slice A r.length c));clear cx zx fx co zo;rw [q14e];generalize (q14 w1 w.heap.size (.int .i64 sn.l) (.int .i64 sn.k) (.int .i64 sn.kd) (.int .i64 sn.p.me) (.int .i64 sn.p.wait) (.int .u64 sn.p.kids) (.int .i64 sn.ep) (.int .i64 sn.ti) (.int .u64 sn.heard) (.int .u64 sn.cover) (.bool sn.sent) (.int .i64 sn.k) (.int .i64 sn.l) (.slice A r.length c)) =w2 at R2 S2⊢;have cx:=bC R2.out.x;have zx:=lB R2.out.x;have fx:=bF R2.out.x;have co:=bC R2.out.o;have zo:=lB R2.out.o
 try unfold opC at co
 have cz:=bC R2.out.z;have fz:=bF R2.out.z;have zz:=lB R2.out.z;have Y:Hid ((q14 w2 (w.heap.size+2) (.int .i64 sn.l) (.int .i64 sn.k) (.int .i64 sn.kd) (.int .i64 sn.p.me) (.int .i64 sn.p.wait) (.int .u64 sn.p.kids) (.int .i64 sn.ep) (.int .i64 sn.ti) (.int .u64 sn.heard) (.int .u64 sn.cover) (.bool sn.sent) (.int .i64 sn.k) (.int .i64 sn.l) (.slice A r.length c)).heap[w.heap.size+2]? =some (.cells #[.int .i64 sn.l,.int .i64 sn.k,.int .i64 sn.kd,.int .i64 sn.p.me,.int .i64 sn.p.wait,.int .u64 sn.p.kids,.int .i64 sn.ep,.int .i64 sn.ti,.int .u64 sn.heard,.int .u64 sn.cover,.bool sn.sent,.int .i64 sn.k,.int .i64 sn.l,.slice A r.length c] 37 (0,0))):=LH (store14 R2.out.z (.int .i64 sn.l) (.int .i64 sn.k) (.int .i64 sn.kd) (.int .i64 sn.p.me) (.int .i64 sn.p.wait) (.int .u64 sn.p.kids) (.int .i64 sn.ep) (.int .i64 sn.ti) (.int .u64 sn.heard) (.int .u64 sn.cover) (.bool sn.sent) (.int .i64 sn.k) (.int .i64 sn.l) (.slice A r.length c));have B:Hid (Below w.heap.size w (q14 w2 (w.heap.size+2) (.int .i64 sn.l) (.int .i64 sn.k) (.int .i64 sn.kd) (.int .i64 sn.p.me) (.int .i64 sn.p.wait) (.int .u64 sn.p.kids) (.int .i64 sn.ep) (.int .i64 sn.ti) (.int .u64 sn.heard) (.int .u64 sn.cover) (.bool sn.sent) (.int .i64 sn.k) (.int .i64 sn.l) (.slice A r.length c))):=LH (store14_below R2.out.b (by omega) (.int .i64 sn.l) (.int .i64 sn.k) (.int .i64 sn.kd) (.int .i64 sn.p.me) (.int .i64 sn.p.wait) (.int .u64 sn.p.kids) (.int .i64 sn.ep) (.int .i64 sn.ti) (.int .u64 sn.heard) (.int .u64 sn.cover) (.bool sn.sent) (.int .i64 sn.k) (.int .i64 sn.l) (.slice A r.length c));have S:=LH (store14_slT R2.out.z S2.out (.int .i64 sn.l) (.int .i64 sn.k) (.int .i64 sn.kd) (.int .i64 sn.p.me) (.int .i64 sn.p.wait) (.int .u64 sn.p.kids) (.int .i64 sn.ep) (.int .i64 sn.ti) (.int .u64 sn.heard) (.int .u64 sn.cover) (.bool sn.sent) (.int .i64 sn.k) (.int .i64 sn.l) (.slice A r.length c));go_wp2_with fail;clear cx zx fx co zo;clear cz fz zz;rw [q14e];generalize (q14 w2 (w.heap.size+2) (.int .i64 sn.l) (.int .i64 sn.k) (.int .i64 sn.kd) (.int .i64 sn.p.me) (.int .i64 sn.p.wait) (.int .u64 sn.p.kids) (.int .i64 sn.ep) (.int .i64 sn.ti) (.int .u64 sn.heard) (.int .u64 sn.cover) (.bool sn.sent) (.int .i64 sn.k) (.int .i64 sn.l) (.slice A r.length c)) =wz at Y B S⊢;have ce:=bC Y.out;have fe:=bF Y.out;have ze:=lB Y.out;exact bR (v:=.tuple #[.agg #[.int .i64 sn.l,.int .i64 sn.k,.int .i64 sn.kd,.int .i64 sn.p.me,.int .i64 sn.p.wait,.int .u64 sn.p.kids,.int .i64 sn.ep,.int .i64 sn.ti,.int .u64 sn.heard,.int .u64 sn.cover,.bool sn.sent,.int .i64 sn.k,.int .i64 sn.l,.slice A r.length c],.string ⟨#[]⟩,.int .i64 0]) (by simp only [results,Tryz.results9];go_simp) rfl (HP.out [] 0 sn r A c wz HS.out S.out B.out)
theorem ref31_Do_send [Zone] (w:World) (l:Nat) (s:Sen) (A:Option Addr) (c:Nat) (r:List Nd) (o:OpX) (a:Al l s r) (hS:SlZ w 154 encN A r) (h0:o.kd=3) :
 Calls Tryz.prog 9 #[refV s A r.length c,opV o] w (Do31Post l s r o w):=by
 have hlen:=a.len;have hk1:=a.k.1;have hk2:=a.k.2;have HC:=LH (fun W h=>ref31_Send W l s A c r a.sl a.l1 a.ok h a.fits (by omega) hk1 (by omega));unfold Send31Post refV refC at HC;have HS:Hid (∀t e s' r',SendTo l s r t e s' r'→StepTo l s r o t e s' r'):=LH fun _ _ _ _ h=>.inr (.inr (.inl ⟨h0,h⟩));have hd0: (o.kd == 0) =false:=by rw [h0];rfl
 have hd1: (o.kd == 1) =false:=by rw [h0];rfl
 have hd3: (o.kd == 3) =true:=by rw [h0];rfl
 clear h0 hlen;have S0:Hid (SlZ (((w.alloc (.cells (refC s A r.length c) 37)).alloc (.cells (opC o) 44)).alloc (.cells #[.int .i64 0,.int .i64 0,.int .i64 0,.int .i64 0,.int .i64 0,.int .u64 0,.int .i64 0,.int .i64 0,.int .u64 0,.int .u64 0,.bool false,.int .i64 0,.int .i64 0,.slice none 0 0] 37)) 154 encN A r):=LH (((hS.alloc _).alloc _).alloc _);have R0:=LH (D31.first w (refC s A r.length c) o);have HP:Hid (∀(t:List UInt8) (er:Int) (s':Sen) (r':List Nd) (A':Option Addr) (c':Nat) (W:World),StepTo l s r o t er s' r'→SlZ W 154 encN A' r'→Below w.heap.size w W→Do31Post l s r o w (.returned (.tuple #[refV s' A' r'.length c',.string ⟨t.toArray⟩,.int .i64 er])) W):=LH fun _ _ _ _ _ _ _ h1 h2 h3=>.of h1 h2 h3;clear a hS;unfold opV;unfold refV at HP⊢;unfold refC opC at R0 S0;unfold refC at HP⊢;unfold opC;generalize Do31Post l s r o w=PP at HP⊢
 go_enter Tryz.func9,Tryz.ntmps9
 go_upto_region 2 with fail;generalize ((w.alloc (.cells #[.int .i64 s.l,.int .i64 s.k,.int .i64 s.kd,.int .i64 s.p.me,.int .i64 s.p.wait,.int .u64 s.p.kids,.int .i64 s.ep,.int .i64 s.ti,.int .u64 s.heard,.int .u64 s.cover,.bool s.sent,.int .i64 s.k,.int .i64 s.l,.slice A r.length c] 37)).alloc (.cells #[.int .i64 o.kd,.int .i64 o.x,.int .i64 o.y,.int .i64 o.b.on,.int .i64 o.b.fr,.int .i64 o.b.k,.int .i64 o.b.l,.int .u64 o.b.cover,.slice o.A o.b.ops.length o.c,.int .i64 o.b.at_,.int .u8 o.b.by_.toNat] 44)).alloc (.cells #[.int .i64 0,.int .i64 0,.int .i64 0,.int .i64 0,.int .i64 0,.int .u64 0,.int .i64 0,.int .i64 0,.int .u64 0,.int .u64 0,.bool false,.int .i64 0,.int .i64 0,.slice none 0 0] 37) =W0 at R0 S0⊢;have cx:=bC R0.out.x;have zx:=lB R0.out.x;have fx:=bF R0.out.x;have co:=bC R0.out.o;have zo:=lB R0.out.o
 try unfold opC at co
 go_wp2_with fail;refine(HC.out W0 S0.out).mono ?_;intro e w1 hc;rcases hc with ⟨hs,⟨A',c',rfl,hA⟩,hb⟩ | ⟨hs,hr,⟨A',c',rfl,hA⟩,hb⟩ | ⟨hs,hr,⟨ps,r',A',c',hR,rfl,hA⟩,hb⟩
 ·have HS1:=LH (HS.out [] 18 s r (.inl ⟨hs,rfl,rfl,rfl,rfl⟩))
  have R1:=LH (R0.out.below hb);have S1:=LH hA;clear hs hb hA R0 S0 HC HS;clear cx zx fx co zo;have cz:=bC R1.out.z;have fz:=bF R1.out.z;have zz:=lB R1.out.z;have Y:Hid ((q14 w1 (w.heap.size+2) (.int .i64 s.l) (.int .i64 s.k) (.int .i64 s.kd) (.int .i64 s.p.me) (.int .i64 s.p.wait) (.int .u64 s.p.kids) (.int .i64 s.ep) (.int .i64 s.ti) (.int .u64 s.heard) (.int .u64 s.cover) (.bool s.sent) (.int .i64 s.k) (.int .i64 s.l) (.slice A' r.length c')).heap[w.heap.size+2]? =some (.cells #[.int .i64 s.l,.int .i64 s.k,.int .i64 s.kd,.int .i64 s.p.me,.int .i64 s.p.wait,.int .u64 s.p.kids,.int .i64 s.ep,.int .i64 s.ti,.int .u64 s.heard,.int .u64 s.cover,.bool s.sent,.int .i64 s.k,.int .i64 s.l,.slice A' r.length c'] 37 (0,0))):=LH (store14 R1.out.z (.int .i64 s.l) (.int .i64 s.k) (.int .i64 s.kd) (.int .i64 s.p.me) (.int .i64 s.p.wait) (.int .u64 s.p.kids) (.int .i64 s.ep) (.int .i64 s.ti) (.int .u64 s.heard) (.int .u64 s.cover) (.bool s.sent) (.int .i64 s.k) (.int .i64 s.l) (.slice A' r.length c'));have B:Hid (Below w.heap.size w (q14 w1 (w.heap.size+2) (.int .i64 s.l) (.int .i64 s.k) (.int .i64 s.kd) (.int .i64 s.p.me) (.int .i64 s.p.wait) (.int .u64 s.p.kids) (.int .i64 s.ep) (.int .i64 s.ti) (.int .u64 s.heard) (.int .u64 s.cover) (.bool s.sent) (.int .i64 s.k) (.int .i64 s.l) (.slice A' r.length c'))):=LH (store14_below R1.out.b (by omega) (.int .i64 s.l) (.int .i64 s.k) (.int .i64 s.kd) (.int .i64 s.p.me) (.int .i64 s.p.wait) (.int .u64 s.p.kids) (.int .i64 s.ep) (.int .i64 s.ti) (.int .u64 s.heard) (.int .u64 s.cover) (.bool s.sent) (.int .i64 s.k) (.int .i64 s.l) (.slice A' r.length c'));have S:=LH (store14_slT R1.out.z S1.out (.int .i64 s.l) (.int .i64 s.k) (.int .i64 s.kd) (.int .i64 s.p.me) (.int .i64 s.p.wait) (.int .u64 s.p.kids) (.int .i64 s.ep) (.int .i64 s.ti) (.int .u64 s.heard) (.int .u64 s.cover) (.bool s.sent) (.int .i64 s.k) (.int .i64 s.l) (.slice A' r.length c'));go_wp2_with fail;clear cz fz zz;rw [q14e];generalize (q14 w1 (w.heap.size+2) (.int .i64 s.l) (.int .i64 s.k) (.int .i64 s.kd) (.int .i64 s.p.me) (.int .i64 s.p.wait) (.int .u64 s.p.kids) (.int .i64 s.ep) (.int .i64 s.ti) (.int .u64 s.heard) (.int .u64 s.cover) (.bool s.sent) (.int .i64 s.k) (.int .i64 s.l) (.slice A' r.length c')) =wz at Y B S⊢;have ce:=bC Y.out;have fe:=bF Y.out;have ze:=lB Y.out;exact bR (v:=.tuple #[.agg #[.int .i64 s.l,.int .i64 s.k,.int .i64 s.kd,.int .i64 s.p.me,.int .i64 s.p.wait,.int .u64 s.p.kids,.int .i64 s.ep,.int .i64 s.ti,.int .u64 s.heard,.int .u64 s.cover,.bool s.sent,.int .i64 s.k,.int .i64 s.l,.slice A' r.length c'],.string ⟨#[]⟩,.int .i64 18]) (by simp only [results,Tryz.results9];go_simp) rfl (HP.out [] 18 s r A' c' wz HS1.out S.out B.out)
 ·have HS1:=LH (HS.out [] 22 s r (.inr (.inl ⟨hs,hr,rfl,rfl,rfl,rfl⟩)))
  have R1:=LH (R0.out.below hb);have S1:=LH hA;clear hs hr hb hA R0 S0 HC HS;clear cx zx fx co zo;have cz:=bC R1.out.z;have fz:=bF R1.out.z;have zz:=lB R1.out.z;have Y:Hid ((q14 w1 (w.heap.size+2) (.int .i64 s.l) (.int .i64 s.k) (.int .i64 s.kd) (.int .i64 s.p.me) (.int .i64 s.p.wait) (.int .u64 s.p.kids) (.int .i64 s.ep) (.int .i64 s.ti) (.int .u64 s.heard) (.int .u64 s.cover) (.bool s.sent) (.int .i64 s.k) (.int .i64 s.l) (.slice A' r.length c')).heap[w.heap.size+2]? =some (.cells #[.int .i64 s.l,.int .i64 s.k,.int .i64 s.kd,.int .i64 s.p.me,.int .i64 s.p.wait,.int .u64 s.p.kids,.int .i64 s.ep,.int .i64 s.ti,.int .u64 s.heard,.int .u64 s.cover,.bool s.sent,.int .i64 s.k,.int .i64 s.l,.slice A' r.length c'] 37 (0,0))):=LH (store14 R1.out.z (.int .i64 s.l) (.int .i64 s.k) (.int .i64 s.kd) (.int .i64 s.p.me) (.int .i64 s.p.wait) (.int .u64 s.p.kids) (.int .i64 s.ep) (.int .i64 s.ti) (.int .u64 s.heard) (.int .u64 s.cover) (.bool s.sent) (.int .i64 s.k) (.int .i64 s.l) (.slice A' r.length c'));have B:Hid (Below w.heap.size w (q14 w1 (w.heap.size+2) (.int .i64 s.l) (.int .i64 s.k) (.int .i64 s.kd) (.int .i64 s.p.me) (.int .i64 s.p.wait) (.int .u64 s.p.kids) (.int .i64 s.ep) (.int .i64 s.ti) (.int .u64 s.heard) (.int .u64 s.cover) (.bool s.sent) (.int .i64 s.k) (.int .i64 s.l) (.slice A' r.length c'))):=LH (store14_below R1.out.b (by omega) (.int .i64 s.l) (.int .i64 s.k) (.int .i64 s.kd) (.int .i64 s.p.me) (.int .i64 s.p.wait) (.int .u64 s.p.kids) (.int .i64 s.ep) (.int .i64 s.ti) (.int .u64 s.heard) (.int .u64 s.cover) (.bool s.sent) (.int .i64 s.k) (.int .i64 s.l) (.slice A' r.length c'));have S:=LH (store14_slT R1.out.z S1.out (.int .i64 s.l) (.int .i64 s.k) (.int .i64 s.kd) (.int .i64 s.p.me) (.int .i64 s.p.wait) (.int .u64 s.p.kids) (.int .i64 s.ep) (.int .i64 s.ti) (.int .u64 s.heard) (.int .u64 s.cover) (.bool s.sent) (.int .i64 s.k) (.int .i64 s.l) (.slice A' r.length c'));go_wp2_with fail;clear cz fz zz;rw [q14e];generalize (q14 w1 (w.heap.size+2) (.int .i64 s.l) (.int .i64 s.k) (.int .i64 s.kd) (.int .i64 s.p.me) (.int .i64 s.p.wait) (.int .u64 s.p.kids) (.int .i64 s.ep) (.int .i64 s.ti) (.int .u64 s.heard) (.int .u64 s.cover) (.bool s.sent) (.int .i64 s.k) (.int .i64 s.l) (.slice A' r.length c')) =wz at Y B S⊢;have ce:=bC Y.out;have fe:=bF Y.out;have ze:=lB Y.out;exact bR (v:=.tuple #[.agg #[.int .i64 s.l,.int .i64 s.k,.int .i64 s.kd,.int .i64 s.p.me,.int .i64 s.p.wait,.int .u64 s.p.kids,.int .i64 s.ep,.int .i64 s.ti,.int .u64 s.heard,.int .u64 s.cover,.bool s.sent,.int .i64 s.k,.int .i64 s.l,.slice A' r.length c'],.string ⟨#[]⟩,.int .i64 22]) (by simp only [results,Tryz.results9];go_simp) rfl (HP.out [] 22 s r A' c' wz HS1.out S.out B.out)
 ·have HS1:=LH (HS.out (ltrT (senL l s r')) 0 (sentS s) r' (.inr (.inr ⟨hs,hr,ps,hR,rfl,rfl,rfl⟩)))
  have R1:=LH (R0.out.below hb);have S1:=LH hA;clear hs hr hR hb hA R0 S0 HC HS;generalize ltrT (senL l s r') =tx at HS1⊢;generalize sentS s=sn at HS1⊢;clear cx zx fx co zo;have cz:=bC R1.out.z;have fz:=bF R1.out.z;have zz:=lB R1.out.z;have Y:Hid ((q14 w1 (w.heap.size+2) (.int .i64 sn.l) (.int .i64 sn.k) (.int .i64 sn.kd) (.int .i64 sn.p.me) (.int .i64 sn.p.wait) (.int .u64 sn.p.kids) (.int .i64 sn.ep) (.int .i64 sn.ti) (.int .u64 sn.heard) (.int .u64 sn.cover) (.bool sn.sent) (.int .i64 sn.k) (.int .i64 sn.l) (.slice A' r'.length c')).heap[w.heap.size+2]? =some (.cells #[.int .i64 sn.l,.int .i64 sn.k,.int .i64 sn.kd,.int .i64 sn.p.me,.int .i64 sn.p.wait,.int .u64 sn.p.kids,.int .i64 sn.ep,.int .i64 sn.ti,.int .u64 sn.heard,.int .u64 sn.cover,.bool sn.sent,.int .i64 sn.k,.int .i64 sn.l,.slice A' r'.length c'] 37 (0,0))):=LH (store14 R1.out.z (.int .i64 sn.l) (.int .i64 sn.k) (.int .i64 sn.kd) (.int .i64 sn.p.me) (.int .i64 sn.p.wait) (.int .u64 sn.p.kids) (.int .i64 sn.ep) (.int .i64 sn.ti) (.int .u64 sn.heard) (.int .u64 sn.cover) (.bool sn.sent) (.int .i64 sn.k) (.int .i64 sn.l) (.slice A' r'.length c'));have B:Hid (Below w.heap.size w (q14 w1 (w.heap.size+2) (.int .i64 sn.l) (.int .i64 sn.k) (.int .i64 sn.kd) (.int .i64 sn.p.me) (.int .i64 sn.p.wait) (.int .u64 sn.p.kids) (.int .i64 sn.ep) (.int .i64 sn.ti) (.int .u64 sn.heard) (.int .u64 sn.cover) (.bool sn.sent) (.int .i64 sn.k) (.int .i64 sn.l) (.slice A' r'.length c'))):=LH (store14_below R1.out.b (by omega) (.int .i64 sn.l) (.int .i64 sn.k) (.int .i64 sn.kd) (.int .i64 sn.p.me) (.int .i64 sn.p.wait) (.int .u64 sn.p.kids) (.int .i64 sn.ep) (.int .i64 sn.ti) (.int .u64 sn.heard) (.int .u64 sn.cover) (.bool sn.sent) (.int .i64 sn.k) (.int .i64 sn.l) (.slice A' r'.length c'));have S:=LH (store14_slT R1.out.z S1.out (.int .i64 sn.l) (.int .i64 sn.k) (.int .i64 sn.kd) (.int .i64 sn.p.me) (.int .i64 sn.p.wait) (.int .u64 sn.p.kids) (.int .i64 sn.ep) (.int .i64 sn.ti) (.int .u64 sn.heard) (.int .u64 sn.cover) (.bool sn.sent) (.int .i64 sn.k) (.int .i64 sn.l) (.slice A' r'.length c'));go_wp2_with fail;clear cz fz zz;rw [q14e];generalize (q14 w1 (w.heap.size+2) (.int .i64 sn.l) (.int .i64 sn.k) (.int .i64 sn.kd) (.int .i64 sn.p.me) (.int .i64 sn.p.wait) (.int .u64 sn.p.kids) (.int .i64 sn.ep) (.int .i64 sn.ti) (.int .u64 sn.heard) (.int .u64 sn.cover) (.bool sn.sent) (.int .i64 sn.k) (.int .i64 sn.l) (.slice A' r'.length c')) =wz at Y B S⊢;have ce:=bC Y.out;have fe:=bF Y.out;have ze:=lB Y.out;exact bR (v:=.tuple #[.agg #[.int .i64 sn.l,.int .i64 sn.k,.int .i64 sn.kd,.int .i64 sn.p.me,.int .i64 sn.p.wait,.int .u64 sn.p.kids,.int .i64 sn.ep,.int .i64 sn.ti,.int .u64 sn.heard,.int .u64 sn.cover,.bool sn.sent,.int .i64 sn.k,.int .i64 sn.l,.slice A' r'.length c'],.string ⟨tx.toArray⟩,.int .i64 0]) (by simp only [results,Tryz.results9];go_simp) rfl (HP.out tx 0 sn r' A' c' wz HS1.out S.out B.out)
theorem ref31_Do_hear [Zone] (w:World) (l:Nat) (s:Sen) (A:Option Addr) (c:Nat) (r:List Nd) (o:OpX) (a:Al l s r) (hS:SlZ w 154 encN A r) (h0:o.kd=1) (hO:Sl w w.heap.size encO o.A o.b.ops) (hn:o.b.ops.length≤50000) (hbk:o.b.k≤124) (hc:o.b.cover<2^64) :
 Calls Tryz.prog 9 #[refV s A r.length c,opV o] w (Do31Post l s r o w):=by
 have hlen:=a.len;have hk1:=a.k.1;have hk2:=a.k.2;have HT:=LH (fun W h=>ref31_Text W s A r.length c o.b o.A o.c h hn (fun _=>hbk) hc);have HH:=LH (fun W h tx ht=>ref31_Hear W l s A c r tx a.sl a.l1 a.ok h a.fits a.light (by omega) hk1 hk2 ht);unfold Hear31Post at HH;unfold noteV at HT;unfold refV refC at HT HH;have HS:Hid (∀tx s' r',TextTo s.ep o.b tx→HearTo l s r tx s' r'→StepTo l s r o [] (hearE l s r tx) s' r'):=LH fun tx s' r' h1 h2=>.inr (.inl ⟨h0,rfl,tx,h1,rfl,h2⟩);have hd0: (o.kd == 0) =false:=by rw [h0];rfl
 have hd1: (o.kd == 1) =true:=by rw [h0];rfl
 have O0:Hid (Sl (((w.alloc (.cells (refC s A r.length c) 37)).alloc (.cells (opC o) 44)).alloc (.cells #[.int .i64 0,.int .i64 0,.int .i64 0,.int .i64 0,.int .i64 0,.int .u64 0,.int .i64 0,.int .i64 0,.int .u64 0,.int .u64 0,.bool false,.int .i64 0,.int .i64 0,.slice none 0 0] 37)) w.heap.size encO o.A o.b.ops):=LH (hO.below (D31.first w (refC s A r.length c) o).b);unfold refC opC at O0;clear h0 hO hn hbk hc hlen;have S0:Hid (SlZ (((w.alloc (.cells (refC s A r.length c) 37)).alloc (.cells (opC o) 44)).alloc (.cells #[.int .i64 0,.int .i64 0,.int .i64 0,.int .i64 0,.int .i64 0,.int .u64 0,.int .i64 0,.int .i64 0,.int .u64 0,.int .u64 0,.bool false,.int .i64 0,.int .i64 0,.slice none 0 0] 37)) 154 encN A r):=LH (((hS.alloc _).alloc _).alloc _);have R0:=LH (D31.first w (refC s A r.length c) o);have HP:Hid (∀(t:List UInt8) (er:Int) (s':Sen) (r':List Nd) (A':Option Addr) (c':Nat) (W:World),StepTo l s r o t er s' r'→SlZ W 154 encN A' r'→Below w.heap.size w W→Do31Post l s r o w (.returned (.tuple #[refV s' A' r'.length c',.string ⟨t.toArray⟩,.int .i64 er])) W):=LH fun _ _ _ _ _ _ _ h1 h2 h3=>.of h1 h2 h3;clear a hS;unfold opV;unfold refV at HP⊢;unfold refC opC at R0 S0;unfold refC at HP⊢;unfold opC;generalize Do31Post l s r o w=PP at HP⊢
 go_enter Tryz.func9,Tryz.ntmps9
 go_upto_region 2 with fail;generalize ((w.alloc (.cells #[.int .i64 s.l,.int .i64 s.k,.int .i64 s.kd,.int .i64 s.p.me,.int .i64 s.p.wait,.int .u64 s.p.kids,.int .i64 s.ep,.int .i64 s.ti,.int .u64 s.heard,.int .u64 s.cover,.bool s.sent,.int .i64 s.k,.int .i64 s.l,.slice A r.length c] 37)).alloc (.cells #[.int .i64 o.kd,.int .i64 o.x,.int .i64 o.y,.int .i64 o.b.on,.int .i64 o.b.fr,.int .i64 o.b.k,.int .i64 o.b.l,.int .u64 o.b.cover,.slice o.A o.b.ops.length o.c,.int .i64 o.b.at_,.int .u8 o.b.by_.toNat] 44)).alloc (.cells #[.int .i64 0,.int .i64 0,.int .i64 0,.int .i64 0,.int .i64 0,.int .u64 0,.int .i64 0,.int .i64 0,.int .u64 0,.int .u64 0,.bool false,.int .i64 0,.int .i64 0,.slice none 0 0] 37) =W0 at R0 S0 O0⊢;have cx:=bC R0.out.x;have zx:=lB R0.out.x;have fx:=bF R0.out.x;have co:=bC R0.out.o;have zo:=lB R0.out.o
 try unfold opC at co
 go_upto_region 7 with fail;clear fx;clear cx zx co zo;refine wp_region_noPanic ?_;refine wp_region_N (fun W=>Below W0.heap.size W0 W) [9] (by kernel_rfl) (Below.drew (Below.refl _ _)) (fun hHeld=> ?_);clear hHeld;have BW:=LH (Below.drew (Below.refl W0.heap.size W0));generalize W0.drew=w6 at BW⊢;refine nT 0 (Value.agg #[.int .i64 s.l,.int .i64 s.k,.int .i64 s.kd,.int .i64 s.p.me,.int .i64 s.p.wait,.int .u64 s.p.kids,.int .i64 s.ep,.int .i64 s.ti,.int .u64 s.heard,.int .u64 s.cover,.bool s.sent,.int .i64 s.k,.int .i64 s.l,.slice A r.length c]) (y:=Or.inl ⟨by rfl,fun W hW=>by have q0:=bC (bB R0.out.x hW);have q1:=lB (bB R0.out.x hW);have q2:=bC (bB R0.out.o hW);have q3:=lB (bB R0.out.o hW);try unfold opC at q2;go_simp⟩) (s:=BW.out) (h:= ?_)
 (try simp only [zA,zB,zC,Act.put,zD,zE,zF])
 refine nT 1 (Value.agg #[.int .i64 s.l,.int .i64 s.k,.int .i64 s.kd,.int .i64 s.p.me,.int .i64 s.p.wait,.int .u64 s.p.kids,.int .i64 s.ep,.int .i64 s.ti,.int .u64 s.heard,.int .u64 s.cover,.bool s.sent,.int .i64 s.k,.int .i64 s.l,.slice A r.length c]) (y:=Or.inl ⟨by rfl,fun W hW=>by have q0:=bC (bB R0.out.x hW);have q1:=lB (bB R0.out.x hW);have q2:=bC (bB R0.out.o hW);have q3:=lB (bB R0.out.o hW);try unfold opC at q2;go_simp⟩) (s:=BW.out) (h:= ?_)
 (try simp only [zA,zB,zC,Act.put,zD,zE,zF])
 refine nP 2 (Value.pointer (some ⟨w.heap.size+1,3,none⟩)) (h:= ?_)
 (try simp only [zA,zB,zC,Act.put,zD,zE,zF])
 refine nT 3 (Value.agg #[.int .i64 o.b.on,.int .i64 o.b.fr,.int .i64 o.b.k,.int .i64 o.b.l,.int .u64 o.b.cover,.slice o.A o.b.ops.length o.c,.int .i64 o.b.at_,.int .u8 o.b.by_.toNat]) (y:=Or.inl ⟨by rfl,fun W hW=>by have q0:=bC (bB R0.out.x hW);have q1:=lB (bB R0.out.x hW);have q2:=bC (bB R0.out.o hW);have q3:=lB (bB R0.out.o hW);try unfold opC at q2;go_simp⟩) (s:=BW.out) (h:= ?_)
 (try simp only [zA,zB,zC,Act.put,zD,zE,zF])
 refine nO (i:=4) (by kernel_rfl) rfl (fun K hK=> ?_);go_simp;refine(HT.out w6 ((O0.out.keep (Nat.le_trans R0.out.b.size BW.out.size) (fun p hp=>BW.out.cell (Nat.lt_of_lt_of_le hp R0.out.b.size))))).mono ?_;rintro e w7 ⟨tx,rfl,htx,hb⟩;have BW2:=LH (Below.then_ BW.out hb);have HTx:=LH htx;clear hb htx;refine hK.out _ _ (fun _ _=>BW2.out) ?_;clear hK K
 (try simp only [zA,zB,zC,Act.put,zD,zE,zF])
 refine nO (i:=5) (by kernel_rfl) rfl (fun K hK=> ?_);go_simp;refine(HH.out w7 (S0.out.below BW2.out) tx (by have:=HTx.out.len;omega)).mono ?_;rintro e w8 ⟨s',r',A',c',rfl,hh,hs,hb⟩;have BW3:=LH (Below.then_ BW2.out hb);have HS1:=LH (HS.out tx s' r' HTx.out hh);have S1:=LH hs;have R1:=LH (R0.out.below BW3.out);clear hb hh hs;generalize hearE l s r tx=er at HS1⊢;refine hK.out _ _ (fun _ _=>BW3.out) ?_;clear hK K
 (try simp only [zA,zB,zC,Act.put,zD,zE,zF])
 refine nP 6 (Value.tuple #[Value.agg #[.int .i64 s'.l,.int .i64 s'.k,.int .i64 s'.kd,.int .i64 s'.p.me,.int .i64 s'.p.wait,.int .u64 s'.p.kids,.int .i64 s'.ep,.int .i64 s'.ti,.int .u64 s'.heard,.int .u64 s'.cover,.bool s'.sent,.int .i64 s'.k,.int .i64 s'.l,.slice A' r'.length c'],.int .i64 er]) (h:= ?_)
 (try simp only [zA,zB,zC,Act.put,zD,zE,zF])
 refine nP 7 (Value.agg #[.int .i64 s'.l,.int .i64 s'.k,.int .i64 s'.kd,.int .i64 s'.p.me,.int .i64 s'.p.wait,.int .u64 s'.p.kids,.int .i64 s'.ep,.int .i64 s'.ti,.int .u64 s'.heard,.int .u64 s'.cover,.bool s'.sent,.int .i64 s'.k,.int .i64 s'.l,.slice A' r'.length c']) (h:= ?_)
 (try simp only [zA,zB,zC,Act.put,zD,zE,zF])
 refine nP 8 (Value.int .i64 er) (h:= ?_)
 (try simp only [zA,zB,zC,Act.put,zD,zE,zF])
 clear BW BW2 R0 S0 O0 HT HH HS HTx;have cx:=bC R1.out.x;have zx:=lB R1.out.x;have fx:=bF R1.out.x
 trace_state
 refine nO (i:=9) (by kernel_rfl) rfl (fun K hK=> ?_);go_simp;refine hK.out _ _ (fun h=>absurd (by decide) h) ?_;clear hK K
 (try simp only [zA,zB,zC,Act.put,zD,zE,zF])
 refine nO (i:=10) (by kernel_rfl) rfl (fun K hK=> ?_);go_simp;refine hK.out _ _ (fun _ h=>h) ?_;clear hK K
 (try simp only [zA,zB,zC,Act.put,zD,zE,zF])
 refine nD (by kernel_rfl) ?_ _;refine NoPanic.normal ?_;have co:=True.intro;have zo:=True.intro;have R2:Hid (D31 w #[.int .i64 s'.l,.int .i64 s'.k,.int .i64 s'.kd,.int .i64 s'.p.me,.int .i64 s'.p.wait,.int .u64 s'.p.kids,.int .i64 s'.ep,.int .i64 s'.ti,.int .u64 s'.heard,.int .u64 s'.cover,.bool s'.sent,.int .i64 s'.k,.int .i64 s'.l,.slice A' r'.length c'] o (q14 w8 w.heap.size (.int .i64 s'.l) (.int .i64 s'.k) (.int .i64 s'.kd) (.int .i64 s'.p.me) (.int .i64 s'.p.wait) (.int .u64 s'.p.kids) (.int .i64 s'.ep) (.int .i64 s'.ti) (.int .u64 s'.heard) (.int .u64 s'.cover) (.bool s'.sent) (.int .i64 s'.k) (.int .i64 s'.l) (.slice A' r'.length c'))):=LH ⟨store14 R1.out.x (.int .i64 s'.l) (.int .i64 s'.k) (.int .i64 s'.kd) (.int .i64 s'.p.me) (.int .i64 s'.p.wait) (.int .u64 s'.p.kids) (.int .i64 s'.ep) (.int .i64 s'.ti) (.int .u64 s'.heard) (.int .u64 s'.cover) (.bool s'.sent) (.int .i64 s'.k) (.int .i64 s'.l) (.slice A' r'.length c'),(store14_other (by omega) (.int .i64 s'.l) (.int .i64 s'.k) (.int .i64 s'.kd) (.int .i64 s'.p.me) (.int .i64 s'.p.wait) (.int .u64 s'.p.kids) (.int .i64 s'.ep) (.int .i64 s'.ti) (.int .u64 s'.heard) (.int .u64 s'.cover) (.bool s'.sent) (.int .i64 s'.k) (.int .i64 s'.l) (.slice A' r'.length c')).trans R1.out.o,(store14_other (by omega) (.int .i64 s'.l) (.int .i64 s'.k) (.int .i64 s'.kd) (.int .i64 s'.p.me) (.int .i64 s'.p.wait) (.int .u64 s'.p.kids) (.int .i64 s'.ep) (.int .i64 s'.ti) (.int .u64 s'.heard) (.int .u64 s'.cover) (.bool s'.sent) (.int .i64 s'.k) (.int .i64 s'.l) (.slice A' r'.length c')).trans R1.out.z,store14_below R1.out.b (Nat.le_refl _) (.int .i64 s'.l) (.int .i64 s'.k) (.int .i64 s'.kd) (.int .i64 s'.p.me) (.int .i64 s'.p.wait) (.int .u64 s'.p.kids) (.int .i64 s'.ep) (.int .i64 s'.ti) (.int .u64 s'.heard) (.int .u64 s'.cover) (.bool s'.sent) (.int .i64 s'.k) (.int .i64 s'.l) (.slice A' r'.length c')⟩;have S2:=LH (store14_slT R1.out.x S1.out (.int .i64 s'.l) (.int .i64 s'.k) (.int .i64 s'.kd) (.int .i64 s'.p.me) (.int .i64 s'.p.wait) (.int .u64 s'.p.kids) (.int .i64 s'.ep) (.int .i64 s'.ti) (.int .u64 s'.heard) (.int .u64 s'.cover) (.bool s'.sent) (.int .i64 s'.k) (.int .i64 s'.l) (.slice A' r'.length c'));clear cx zx fx co zo;rw [q14e];generalize (q14 w8 w.heap.size (.int .i64 s'.l) (.int .i64 s'.k) (.int .i64 s'.kd) (.int .i64 s'.p.me) (.int .i64 s'.p.wait) (.int .u64 s'.p.kids) (.int .i64 s'.ep) (.int .i64 s'.ti) (.int .u64 s'.heard) (.int .u64 s'.cover) (.bool s'.sent) (.int .i64 s'.k) (.int .i64 s'.l) (.slice A' r'.length c')) =w2 at R2 S2⊢;have cx:=bC R2.out.x;have zx:=lB R2.out.x;have fx:=bF R2.out.x;have co:=bC R2.out.o;have zo:=lB R2.out.o
 try unfold opC at co
 have cz:=bC R2.out.z;have fz:=bF R2.out.z;have zz:=lB R2.out.z;have Y:Hid ((q14 w2 (w.heap.size+2) (.int .i64 s'.l) (.int .i64 s'.k) (.int .i64 s'.kd) (.int .i64 s'.p.me) (.int .i64 s'.p.wait) (.int .u64 s'.p.kids) (.int .i64 s'.ep) (.int .i64 s'.ti) (.int .u64 s'.heard) (.int .u64 s'.cover) (.bool s'.sent) (.int .i64 s'.k) (.int .i64 s'.l) (.slice A' r'.length c')).heap[w.heap.size+2]? =some (.cells #[.int .i64 s'.l,.int .i64 s'.k,.int .i64 s'.kd,.int .i64 s'.p.me,.int .i64 s'.p.wait,.int .u64 s'.p.kids,.int .i64 s'.ep,.int .i64 s'.ti,.int .u64 s'.heard,.int .u64 s'.cover,.bool s'.sent,.int .i64 s'.k,.int .i64 s'.l,.slice A' r'.length c'] 37 (0,0))):=LH (store14 R2.out.z (.int .i64 s'.l) (.int .i64 s'.k) (.int .i64 s'.kd) (.int .i64 s'.p.me) (.int .i64 s'.p.wait) (.int .u64 s'.p.kids) (.int .i64 s'.ep) (.int .i64 s'.ti) (.int .u64 s'.heard) (.int .u64 s'.cover) (.bool s'.sent) (.int .i64 s'.k) (.int .i64 s'.l) (.slice A' r'.length c'));have B:Hid (Below w.heap.size w (q14 w2 (w.heap.size+2) (.int .i64 s'.l) (.int .i64 s'.k) (.int .i64 s'.kd) (.int .i64 s'.p.me) (.int .i64 s'.p.wait) (.int .u64 s'.p.kids) (.int .i64 s'.ep) (.int .i64 s'.ti) (.int .u64 s'.heard) (.int .u64 s'.cover) (.bool s'.sent) (.int .i64 s'.k) (.int .i64 s'.l) (.slice A' r'.length c'))):=LH (store14_below R2.out.b (by omega) (.int .i64 s'.l) (.int .i64 s'.k) (.int .i64 s'.kd) (.int .i64 s'.p.me) (.int .i64 s'.p.wait) (.int .u64 s'.p.kids) (.int .i64 s'.ep) (.int .i64 s'.ti) (.int .u64 s'.heard) (.int .u64 s'.cover) (.bool s'.sent) (.int .i64 s'.k) (.int .i64 s'.l) (.slice A' r'.length c'));have S:=LH (store14_slT R2.out.z S2.out (.int .i64 s'.l) (.int .i64 s'.k) (.int .i64 s'.kd) (.int .i64 s'.p.me) (.int .i64 s'.p.wait) (.int .u64 s'.p.kids) (.int .i64 s'.ep) (.int .i64 s'.ti) (.int .u64 s'.heard) (.int .u64 s'.cover) (.bool s'.sent) (.int .i64 s'.k) (.int .i64 s'.l) (.slice A' r'.length c'));go_wp2_with fail;clear cx zx fx co zo;clear cz fz zz;rw [q14e];generalize (q14 w2 (w.heap.size+2) (.int .i64 s'.l) (.int .i64 s'.k) (.int .i64 s'.kd) (.int .i64 s'.p.me) (.int .i64 s'.p.wait) (.int .u64 s'.p.kids) (.int .i64 s'.ep) (.int .i64 s'.ti) (.int .u64 s'.heard) (.int .u64 s'.cover) (.bool s'.sent) (.int .i64 s'.k) (.int .i64 s'.l) (.slice A' r'.length c')) =wz at Y B S⊢;have ce:=bC Y.out;have fe:=bF Y.out;have ze:=lB Y.out;exact bR (v:=.tuple #[.agg #[.int .i64 s'.l,.int .i64 s'.k,.int .i64 s'.kd,.int .i64 s'.p.me,.int .i64 s'.p.wait,.int .u64 s'.p.kids,.int .i64 s'.ep,.int .i64 s'.ti,.int .u64 s'.heard,.int .u64 s'.cover,.bool s'.sent,.int .i64 s'.k,.int .i64 s'.l,.slice A' r'.length c'],.string ⟨#[]⟩,.int .i64 er]) (by simp only [results,Tryz.results9];go_simp) rfl (HP.out [] er s' r' A' c' wz HS1.out S.out B.out)
theorem ref31_Do [Zone] (w:World) (l:Nat) (s:Sen) (A:Option Addr) (c:Nat) (r:List Nd) (o:OpX) (a:Al l s r) (hS:SlZ w 154 encN A r) (hO:Sl w w.heap.size encO o.A o.b.ops) (hn:o.b.ops.length≤50000) (hbk:o.b.k≤124) (hc:o.b.cover<2^64) :
 Calls Tryz.prog 9 #[refV s A r.length c,opV o] w (Do31Post l s r o w):=by
 by_cases h0:o.kd=0
 ·exact ref31_Do_put w l s A c r o a hS h0
 ·by_cases h1:o.kd=1
  ·exact ref31_Do_hear w l s A c r o a hS h1 hO hn hbk hc
  ·by_cases h3:o.kd=3
   ·exact ref31_Do_send w l s A c r o a hS h3
   ·by_cases h4:o.kd=4
    ·exact ref31_Do_next w l s A c r o a hS h4
    ·exact ref31_Do_tick w l s A c r o a hS h0 h1 h3 h4
theorem and_127: ∀x:Fin 256,x.val &&& 127=x.val % 128:=by decide
theorem byte_and (b:Nat) (hb:b<256) :bits BinOp.and IntKind.u8 (b:Int) 127= ((b % 128:Nat) :Int):=by
 have h:=(bits_nat .u8 8 (by decide) (fun n h0 h1=>by rw [IntKind.wrap_u8];omega) b 127 (by omega) (by decide)).1;rw [show ((127:Int)) = ((127:Nat) :Int) from rfl,h,and_127 ⟨b,hb⟩]
theorem pow_128 (q:Nat) : (2:Nat) ^ (7*q) =128^q:=by rw [Nat.pow_mul]
theorem shl_128 {q x:Nat} (h:q≤8) (hx:x≤127) :wrap64 ((x:Int) *2^ (7*q)) = ((x*128^q:Nat) :Int):=by
 have e2: (2:Int) ^ (7*q) = ((128^q:Nat) :Int):=by rw [←pow_128];norm_cast
 rw [e2];exact(p128_mul h hx).1
theorem or_128q {q x acc:Nat} (h:q≤8) (hx:x≤127) (ha:acc<128^q) :bits BinOp.or IntKind.i64 (acc:Int) ((x*128^q:Nat) :Int) = ((acc+x*128^q:Nat) :Int):=by
 have h1:=p128 h;have h2:=(p128_mul h hx).2;rw [(bits_nat .i64 63 (by decide) (fun n h0 h1=>by rw [IntKind.wrap_i64];omega) acc (x*128^q) (by omega) (by omega)).2]
 congr 1
 rw [←pow_128] at ha⊢;rw [Nat.add_comm,Nat.mul_comm,Nat.or_comm,Nat.two_pow_add_eq_or_of_lt ha]
theorem vary_Get (w:World) (s:List UInt8) (hs:s.length≤1000000000) :
 Calls Tryz.prog 105 #[.string ⟨s.toArray⟩] w (GetPost s w):=by
 unfold GetPost
 go_enter Tryz.func105,Tryz.ntmps105
 go_wp2_with fail
 go_step3
 go_wp2_with fail
 go_step3
 go_wp2_with fail
 go_loopw [2,5] (fun n i wr=>∃(q acc:Nat),i=.int .i64 q∧q≤9∧q≤s.length∧n=.int .i64 acc∧acc<128^q∧getF q acc (s.drop q) =getB s∧Below w.heap.size w wr) (fun _ i _=>9 - (intOf i).toNat)
 case atStart=>exact⟨0,0,rfl,by omega,by omega,rfl,by decide,rfl,Below.refl _ _⟩
 case round=>
  obtain⟨q,acc,rfl,hq,hql,rfl,hacc,hg,hB⟩:=hrel;have HB:=LH hB;have HG:=LH hg;clear hg hB;by_cases h9:q<9
  ·have h9i: ((q:Int) == 9) =false:=by simp;omega
   by_cases hl:q<s.length
   ·have hne: ((q:Int) == (s.length:Int)) =false:=by simp;omega
    have hix:=fun W=>text_at W s q hl;have hd:s.drop q=s[q] :: s.drop (q+1):=List.drop_eq_getElem_cons hl;rw [hd] at HG;have hbl: (s[q]).toNat<256:=(s[q]).toNat_lt;clear hd;generalize s[q] =y at HG hbl hix;have HY:=LH (And.intro (getF_last (a:=q) (acc:=acc) (b:=y) (t:=s.drop (q+1)) h9) (And.intro (getF_zero (a:=q) (acc:=acc) (b:=y) (t:=s.drop (q+1)) h9) (getF_more (a:=q) (acc:=acc) (b:=y) (t:=s.drop (q+1)) h9)));generalize y.toNat=b at hbl hix HY;by_cases hb:b<128
    ·have hbi:decide ((b:Int) <128) =true:=by simp;omega
     by_cases h0:0<q∧b=0
     ·have HE:=LH ((HY.out.2.1 hb h0).symm.trans HG.out)
      obtain⟨h1,rfl⟩:=h0;have h1i: (0:Int) < (q:Int):=by omega
      clear HY HG;go_wp2_with fail;rw [Exit.noGoto_ret];exact bR (v:=.tuple #[.int .i64 0,.int .i64 0,.int .i64 10]) (by simp only [results,Tryz.results105];go_simp) rfl ⟨by rw [←HE.out];rfl,HB.out⟩
     ·have HE:=LH ((HY.out.1 hb h0).symm.trans HG.out)
      have hm:=shl_128 (q:=q) (x:=b) (by omega) (by omega);have ha:=or_128q (q:=q) (acc:=acc) (x:=b) (by omega) (by omega) hacc;have hm2:=(p128_sum (a:=q) (acc:=acc) (x:=b) (by omega) (by omega) hacc).2;clear HY HG hm2;generalize b*128^q=bp at hm ha HE;generalize 128^q=p at hacc;clear hacc;rcases Nat.eq_zero_or_pos q with h1|h1
      ·have h2:decide (0<q) =false:=by simp;omega
       have H1:=LH h1;clear h0 h1;go_wp2_with fail;rw [Exit.noGoto_ret];exact bR (v:=.tuple #[.int .i64 ((acc:Int) + (bp:Int)),.int .i64 ((q:Int) +1),.int .i64 0]) (by simp only [results,Tryz.results105];go_simp) rfl ⟨by rw [←HE.out];simp,HB.out⟩
      ·have hb0:b≠0:=fun e=>h0 ⟨h1,e⟩
       have h2: ((b:Int) == 0) =false:=by simp;omega
       clear h0;go_wp2_with fail;rw [Exit.noGoto_ret];exact bR (v:=.tuple #[.int .i64 ((acc:Int) + (bp:Int)),.int .i64 ((q:Int) +1),.int .i64 0]) (by simp only [results,Tryz.results105];go_simp) rfl ⟨by rw [←HE.out];simp,HB.out⟩
    ·have hbi:decide ((b:Int) <128) =false:=by simp;omega
     have HE:=LH ((HY.out.2.2 hb).symm.trans HG.out);obtain⟨x,hx⟩ : ∃x,b - 128=x:=⟨_,rfl⟩;rw [hx] at HE;have hx127:x≤127:=by omega
     have hxi:bits BinOp.and IntKind.u8 (b:Int) 127= (x:Int):=by rw [byte_and b hbl];omega
     have hm:=shl_128 (q:=q) (x:=x) (by omega) hx127;have ha:=or_128q (q:=q) (acc:=acc) (x:=x) (by omega) hx127 hacc;have HA:=LH (p128_sum (a:=q) (acc:=acc) (x:=x) (by omega) hx127 hacc).2;clear HY HG hx;obtain⟨acc2,hacc2⟩ : ∃z,z=acc+x*128^q:=⟨_,rfl⟩;rw [←hacc2] at ha HA HE;generalize x*128^q=bp at hm ha hacc2;generalize 128^q=p at hacc;clear hacc2 hacc;go_wp2_with fail;go_roundw
     case rel=>exact⟨q+1,acc2,by go_num,by omega,by omega,rfl,HA.out,HE.out,HB.out⟩
     case measure=>simp [intOf];omega
   ·obtain rfl:q=s.length:=by omega
    have hne: ((s.length:Int) == (s.length:Int)) =true:=by simp
    have HE:Hid (getB s= (0,0,9)):=LH (by rw [←HG.out,List.drop_length];exact getF_end h9 acc);go_wp2_with fail;rw [Exit.noGoto_ret];exact bR (v:=.tuple #[.int .i64 0,.int .i64 0,.int .i64 9]) (by simp only [results,Tryz.results105];go_simp) rfl ⟨by rw [HE.out];rfl,HB.out⟩
  ·obtain rfl:q=9:=by omega
   have HE:Hid (getB s= (0,0,10)):=LH (by rw [←HG.out];exact getF_nine acc _);go_wp2_with fail;rw [Exit.noGoto_ret];exact bR (v:=.tuple #[.int .i64 0,.int .i64 0,.int .i64 10]) (by simp only [results,Tryz.results105];go_simp) rfl ⟨by rw [HE.out];rfl,HB.out⟩
theorem vary_Falls (w:World) (s:List UInt8) (most:Int) (hs:s.length≤1000000000) (hm:most≤67108800) (hm0: -9223372036854775808≤most) :
 Calls Tryz.prog 222 #[.string ⟨s.toArray⟩,.int .i64 most] w (FallsPost s most w):=by
 have HGt:=LH (fun W (t:List UInt8) (h:t.length≤1000000000)=>vary_Get W t h);have HBd:=LH (getB_bounds s);have HF:=LH (fallB_at s most);have HG0:=LH (HGt.out w s hs);unfold GetPost at HG0;generalize getB s=G at HG0 HBd HF;obtain⟨many,a0,e0⟩:=G;dsimp only at HG0 HBd HF
 go_enter Tryz.func222,Tryz.ntmps222
 go_wp2_with fail;refine HG0.out.mono ?_;rintro e w1 ⟨rfl,hb1⟩;have HB1:=LH hb1;clear hb1;by_cases h1:e0=0
 ·subst h1
  have HF1:Hid (fallB s most=if most< (many:Int) then ([],0,13) else fallF s many 0 a0 []):=LH (by rw [HF.out,if_neg (by simp)]);clear HF;by_cases h2:most< (many:Int)
  ·have HE:Hid (fallB s most= ([],0,13)):=LH (by rw [HF1.out,if_pos h2])
   go_wp2_with fail;exact bR (v:=.tuple #[.slice none 0 0,.int .i64 0,.int .i64 13]) (by simp only [results,Tryz.results222];go_simp) rfl (FallsPost.no HE.out HB1.out)
  ·have HE:Hid (fallF s many 0 a0 [] =fallB s most):=LH (by rw [HF1.out,if_neg h2])
   have h2i:decide (most< (many:Int)) =false:=by simpa using h2
   have ha0:a0≤s.length:=HBd.out.2.2.1;have hmy:many≤67108800:=by omega
   clear HF1 HBd HG0;go_wp2_with fail
   go_loopw [8,10,11,30] (fun av u lv i wr=>∃(q a last:Nat) (out:List Int),i=.int .i64 q∧q≤many∧av=.int .i64 a∧a≤s.length∧lv=.int .i64 last∧last≤9223372036854775807∧out.length=q∧fallF s (many - q) last a out=fallB s most∧Own wr w.heap.size 3 encZ u out∧Below w.heap.size w wr) (fun _ _ _ i _=>many - (intOf i).toNat)
   case atStart=>exact⟨0,a0,0, [],rfl,Nat.zero_le _,rfl,ha0,rfl,by omega,rfl,HE.out,Own.nil _ _ _ _,HB1.out⟩
   case round=>
    obtain⟨q,a,last,out,rfl,hq,rfl,ha,rfl,hla,hol,hF,ho,hB⟩:=hrel;obtain⟨A,co,rfl,_⟩:=ho.form;have HO:=LH ho;have HB:=LH hB;have sz:=hB.size;have HL:=LH hol;have HF:=LH hF;clear ho hB hol hF;by_cases hlt:q<many
    ·have hqi: (q:Int) < (many:Int):=by omega
     obtain⟨m,hmq⟩ : ∃m,many - q=m+1:=⟨many - q - 1,by omega⟩;rw [hmq,fallF_step] at HF;have HMq:=LH hmq;have htd:=text_drop s a;have hdl: (s.drop a).length=s.length - a:=by simp
     have HG1:=LH (HGt.out wr (s.drop a) (by omega));unfold GetPost at HG1;have HBd:=LH (getB_bounds (s.drop a));rw [hdl] at HBd;clear hmq hdl;generalize getB (s.drop a) =G at HF HG1 HBd;obtain⟨n,z,er⟩:=G;dsimp only at HF HG1 HBd;go_wp2_with fail;refine HG1.out.mono ?_;rintro e w2 ⟨rfl,hb2⟩;have HO2:=LH (HO.out.below hb2);have HB2:=LH (HB.out.trans (hb2.mono sz));have sz2:=hb2.size;clear hb2 HG1 HO;by_cases h1:er=0
     ·subst h1
      rw [if_neg (by simp)] at HF;have hn9:=HBd.out.1;have hz:=HBd.out.2.2.1;by_cases h0:n=0
      ·subst h0
       rw [if_pos (.inl rfl)] at HF;go_wp2_with fail;exact bR (v:=.tuple #[.slice none 0 0,.int .i64 0,.int .i64 10]) (by simp only [results,Tryz.results222];go_simp) rfl (FallsPost.no HF.out.symm HB2.out)
      ·have h0i: ((n:Int) == 0) =false:=by simp;omega
       have hwl:wrap64 (9223372036854775807 - (last:Int)) =9223372036854775807 - (last:Int):=by unfold wrap64;omega
       by_cases h3:9223372036854775807 - last<n
       ·rw [if_pos (.inr h3)] at HF
        have h3i:decide (9223372036854775807 - (last:Int) < (n:Int)) =true:=by simp;omega
        go_wp2_with fail;exact bR (v:=.tuple #[.slice none 0 0,.int .i64 0,.int .i64 10]) (by simp only [results,Tryz.results222];go_simp) rfl (FallsPost.no HF.out.symm HB2.out)
       ·rw [if_neg (by omega)] at HF
        have h3i:decide (9223372036854775807 - (last:Int) < (n:Int)) =false:=by simp;omega
        obtain⟨nx,hnx⟩ : ∃x:Nat,x=last+n:=⟨_,rfl⟩;obtain⟨ax,hax⟩ : ∃x:Nat,x=a+z:=⟨_,rfl⟩;rw [←hnx,←hax] at HF;have hw1: (last:Int) + (n:Int) = (nx:Int):=by omega
        have hw2: (a:Int) + (z:Int) = (ax:Int):=by omega
        have hxs:ax≤s.length:=by omega
        have hnx9:nx≤9223372036854775807:=by omega
        have hol:out.length≤67108800:=by rw [HL.out];omega
        clear hnx hax;go_wp2_with ((at_builtin;go_loud (refine wpList_push tyZ rfl _ _ rfl encZ w2 w.heap.size (.slice A out.length co) out rfl HO2.out (nx:Int) (by go_simp) (by simp [encZ,hw1]) ?c1 ?c2 ?c3 ?c4)))
        case c1=>omega
        case c2=>unfold maxLen;omega
        case c3=>omega
        case c4=>
         intro v' w' ho' _ _ _ hb' _;have HO3:=LH ho';have HB3:=LH (HB2.out.trans hb');have hsz:=hb'.size;clear ho' hb';go_wp2_with fail;go_roundw
         case rel=>exact⟨q+1,ax,nx,out ++ [(nx:Int)],by go_num,by omega,rfl,hxs,rfl,hnx9,by simp [HL.out],by rw [show many - (q+1) =m by have:=HMq.out;omega];exact HF.out,HO3.out,HB3.out⟩
         case measure=>simp [intOf];omega
     ·rw [if_pos h1] at HF
      have h1i: (er == 0) =false:=by simpa using h1
      go_wp2_with fail;exact bR (v:=.tuple #[.slice none 0 0,.int .i64 0,.int .i64 er]) (by simp only [results,Tryz.results222];go_simp) rfl (FallsPost.no HF.out.symm HB2.out)
    ·obtain rfl:q=many:=by omega
     have hqi:decide ((q:Int) < (q:Int)) =false:=by simp
     rw [Nat.sub_self] at HF;have HR:=LH (show (out,a,(0:Int)) =fallB s most from HF.out);clear HF;go_wp2_with fail;exact bR (v:=.tuple #[.slice A out.length co,.int .i64 a,.int .i64 0]) (by simp only [results,Tryz.results222];go_simp) rfl (FallsPost.of (R:=(out,a,0)) HR.out HO.out HB.out)
 ·have HE:Hid (fallB s most= ([],0,e0)):=LH (by rw [HF.out,if_pos h1])
  have h1i: (e0 == 0) =false:=by simpa using h1
  go_wp2_with fail;exact bR (v:=.tuple #[.slice none 0 0,.int .i64 0,.int .i64 e0]) (by simp only [results,Tryz.results222];go_simp) rfl (FallsPost.no HE.out HB1.out)
def magL (t:List UInt8) :Bool:=decide (4≤t.length) && decide (t.take 4= [68,87,76,1])
def cutT (t:List UInt8) :List UInt8:=if magL t=true then t.drop 4 else t
theorem lite_HasPrefix (w:World) (t:List UInt8) :Calls Tryz.prog 184 #[.string ⟨t.toArray⟩,.string ⟨#[68,87,76,1]⟩] w fun e w'=>e=.returned (.bool (magL t))∧Below w.heap.size w w':=by
 have htt:=text_take t 4;unfold magL;by_cases h1:4≤t.length
 ·have h1d:decide (4≤t.length) =true:=by simpa using h1
  have h1i: (4:Int)≤(t.length:Int):=by omega
  rw [h1d,Bool.true_and];have HV:Hid (decide (t.take 4= [68,87,76,1]) = (t.take 4 == [68,87,76,1])):=LH (by rw [Bool.eq_iff_iff];simp);rw [HV.out];generalize t.take 4=t4 at htt⊢
  go_enter Tryz.func184,Tryz.ntmps184
  go_wp2_with fail;exact bR (v:=.bool (t4 == [68,87,76,1])) (by simp only [results,Tryz.results184];go_simp) rfl ⟨rfl,Below.refl _ _⟩
 ·have h1d:decide (4≤t.length) =false:=by simpa using h1
  have h1i:decide ((4:Int)≤(t.length:Int)) =false:=by simp;omega
  rw [h1d,Bool.false_and]
  go_enter Tryz.func184,Tryz.ntmps184
  go_wp2_with fail;exact bR (v:=.bool false) (by simp only [results,Tryz.results184];go_simp) rfl ⟨rfl,Below.refl _ _⟩
theorem strings_CutPrefix (w:World) (t:List UInt8) :Calls Tryz.prog 103 #[.string ⟨t.toArray⟩,.string ⟨#[68,87,76,1]⟩] w fun e w'=>e=.returned (.tuple #[.string ⟨(cutT t).toArray⟩,.bool (magL t)])∧Below w.heap.size w w':=by
 have HL:Hid (∀W,Calls Tryz.prog 152 #[.string ⟨t.toArray⟩,.string ⟨#[68,87,76,1]⟩] W fun e w'=>e=.returned (.tuple #[.string ⟨(cutT t).toArray⟩,.bool (magL t)])∧Below W.heap.size W w'):=LH (fun W=>by
  have HP:=LH (fun W=>lite_HasPrefix W t);have htd:=text_drop t 4;have hm4:magL t=true→4≤t.length:=fun h=>by unfold magL at h;simp only [Bool.and_eq_true,decide_eq_true_eq] at h;exact h.1
  unfold cutT
  cases hm:magL t
  ·rw [hm] at HP
   rw [if_neg (by simp)];clear hm hm4
   go_enter Tryz.func152,Tryz.ntmps152
   go_wp2_with fail;refine(HP.out W).mono ?_;rintro e w1 ⟨rfl,hb1⟩;go_wp2_with fail;exact bR (v:=.tuple #[.string ⟨t.toArray⟩,.bool false]) (by simp only [results,Tryz.results152];go_simp) rfl ⟨rfl,hb1⟩
  ·have h4:=hm4 hm
   rw [hm] at HP;rw [if_pos rfl];clear hm hm4;generalize t.drop 4=d at htd⊢
   go_enter Tryz.func152,Tryz.ntmps152
   go_wp2_with fail;refine(HP.out W).mono ?_;rintro e w1 ⟨rfl,hb1⟩;go_wp2_with fail;exact bR (v:=.tuple #[.string ⟨d.toArray⟩,.bool true]) (by simp only [results,Tryz.results152];go_simp) rfl ⟨rfl,hb1⟩)
 generalize cutT t=d at HL⊢;generalize magL t=z at HL⊢
 go_enter Tryz.func103,Tryz.ntmps103
 go_wp2_with fail;refine(HL.out w).mono ?_;rintro e w1 ⟨rfl,hb1⟩;go_wp2_with fail;exact bR (v:=.tuple #[.string ⟨d.toArray⟩,.bool z]) (by simp only [results,Tryz.results103];go_simp) rfl ⟨rfl,hb1⟩
structure LdS (w:World) (pe pf pl px:Nat) (e:Int) (left:List UInt8) (cs:Array Value) (W:World) :Prop where
 r:W.heap[w.heap.size]? =some (.cells #[.int .i64 0,.int .i64 0,.int .u64 0,.string ⟨#[]⟩] 108 (0,0))
 e:W.heap[pe]? =some (.cells #[.int .i64 e] 53 (0,0))
 f:W.heap[pf]? =some (.cells #[.func (.func 102) #[] #[.pointer (some ⟨pe,0,none⟩)]] 166 (0,0))
 l:W.heap[pl]? =some (.cells #[.string ⟨left.toArray⟩] 9 (0,0))
 x:W.heap[px]? =some (.cells cs 108 (0,0))
 b:Below w.heap.size w W
 h1:w.heap.size<pe
 h2:pe<pf
 h3:pf<pl
 h4:pl<px
section
variable {w W W':World} {pe pf pl px:Nat} {e e2:Int} {left left2:List UInt8} {cs:Array Value}
theorem LdS.below (h:LdS w pe pf pl px e left cs W) (hb:Below W.heap.size W W') :LdS w pe pf pl px e left cs W':=
 ⟨bB h.r hb,bB h.e hb,bB h.f hb,bB h.l hb,bB h.x hb,h.b.trans (hb.mono h.b.size),h.h1,h.h2,h.h3,h.h4⟩
theorem LdS.setE (h:LdS w pe pf pl px e left cs W) :LdS w pe pf pl px e2 left cs (W.setCell ⟨pe,0,none⟩ (.int .i64 e2)):=by
 have q1:=h.h1;have q2:=h.h2;have q3:=h.h3;have q4:=h.h4;exact⟨(Below.heap_setCell _ _ _ _ (by simp;omega)).trans h.r,zH (i:=0) h.e _,(Below.heap_setCell _ _ _ _ (by simp;omega)).trans h.f,(Below.heap_setCell _ _ _ _ (by simp;omega)).trans h.l,(Below.heap_setCell _ _ _ _ (by simp;omega)).trans h.x,h.b.setCell (p:=⟨pe,0,none⟩) (by simp;omega) _,q1,q2,q3,q4⟩
theorem LdS.setL (h:LdS w pe pf pl px e left cs W) :LdS w pe pf pl px e left2 cs (W.setCell ⟨pl,0,none⟩ (.string ⟨left2.toArray⟩)):=by
 have q1:=h.h1;have q2:=h.h2;have q3:=h.h3;have q4:=h.h4;exact⟨(Below.heap_setCell _ _ _ _ (by simp;omega)).trans h.r,(Below.heap_setCell _ _ _ _ (by simp;omega)).trans h.e,(Below.heap_setCell _ _ _ _ (by simp;omega)).trans h.f,zH (i:=0) h.l _,(Below.heap_setCell _ _ _ _ (by simp;omega)).trans h.x,h.b.setCell (p:=⟨pl,0,none⟩) (by simp;omega) _,q1,q2,q3,q4⟩
theorem LdS.setX (h:LdS w pe pf pl px e left cs W) (i:Nat) (u:Value) :LdS w pe pf pl px e left (cs.setIfInBounds i u) (W.setCell ⟨px,i,none⟩ u):=by
 have q1:=h.h1;have q2:=h.h2;have q3:=h.h3;have q4:=h.h4;exact⟨(Below.heap_setCell _ _ _ _ (by simp;omega)).trans h.r,(Below.heap_setCell _ _ _ _ (by simp;omega)).trans h.e,(Below.heap_setCell _ _ _ _ (by simp;omega)).trans h.f,(Below.heap_setCell _ _ _ _ (by simp;omega)).trans h.l,zH (i:=i) h.x _,h.b.setCell (p:=⟨px,i,none⟩) (by simp;omega) _,q1,q2,q3,q4⟩
def noteE (e:Int) (b:Bool) (f:Int) :Int:=if b=true∧e=0 then f else e
theorem let_fail (h:LdS w pe pf pl px e left cs W) (b:Bool) (f:Int) :Calls Tryz.prog 102 #[.bool b,.int .i64 f,.pointer (some ⟨pe,0,none⟩)] W fun en W'=>en=.returned (.tuple #[])∧LdS w pe pf pl px (noteE e b f) left cs W':=by
 have HS:=LH h;have ce:=bC h.e;have fe:=bF h.e;have ze:=lB h.e;clear h;unfold noteE
 cases b
 ·rw [if_neg (by simp)]
  go_enter Tryz.func102,Tryz.ntmps102
  go_wp2_with fail
  first|go_end0|skip
  exact⟨rfl,HS.out⟩
 ·by_cases h0:e=0
  ·rw [if_pos ⟨rfl,h0⟩]
   have h0i: (e == 0) =true:=by simpa using h0
   clear h0;have HE:=LH (HS.out.setE (e2:=f))
   go_enter Tryz.func102,Tryz.ntmps102
   go_wp2_with fail
   first|go_end0|skip
   exact⟨rfl,HE.out⟩
  ·rw [if_neg (fun h=>h0 h.2)]
   have h0i: (e == 0) =false:=by simpa using h0
   clear h0
   go_enter Tryz.func102,Tryz.ntmps102
   go_wp2_with fail
   first|go_end0|skip
   exact⟨rfl,HS.out⟩
def numT (e:Int) (left:List UInt8) :Nat×Int×List UInt8:=if e=0 then ((getB left).1,(getB left).2.2,left.drop (getB left).2.1) else (0,e,left)
theorem let_number (h:LdS w pe pf pl px e left cs W) (hl:left.length≤1000000000) :Calls Tryz.prog 104 #[.pointer (some ⟨pe,0,none⟩),.pointer (some ⟨pl,0,none⟩),.pointer (some ⟨pf,0,none⟩)] W fun en W'=>en=.returned (.int .i64 (numT e left).1)∧LdS w pe pf pl px (numT e left).2.1 (numT e left).2.2 cs W':=by
 have HS:=LH h;have ce:=bC h.e;have fe:=bF h.e;have ze:=lB h.e;unfold numT;by_cases h0:e=0
 ·rw [if_pos h0]
  subst h0;have cl:=bC h.l;have zl:=lB h.l;clear h;have HG:=LH (vary_Get W left hl);unfold GetPost at HG;have HBd:=LH (getB_bounds left);have htd:=text_drop left (getB left).2.1;generalize left.drop (getB left).2.1=left2 at htd⊢;generalize getB left=G at HG htd HBd⊢;obtain⟨n,z,er⟩:=G;dsimp only at HG htd HBd⊢;have hz:=HBd.out.2.2.1
  go_enter Tryz.func104,Tryz.ntmps104
  go_wp2_with fail;refine HG.out.mono ?_;rintro en w1 ⟨rfl,hb1⟩;have S1:=LH (HS.out.below hb1);clear hb1 ce fe ze cl zl HG;have cf:=bC S1.out.f;have zf:=lB S1.out.f;have HF:=LH (fun b f=>let_fail S1.out b f)
  have HN:Hid (noteE 0 (er != 0) er=er):=LH (by
   unfold noteE;by_cases h:er=0
   ·rw [h];simp
   ·rw [if_pos ⟨by simpa using h,rfl⟩])
  go_wp2_with fail;refine(HF.out (er != 0) er).mono ?_;rintro en w2 ⟨rfl,hs2⟩;rw [HN.out] at hs2;have S2:=LH hs2;clear hs2 cf zf HF S1;have cl:=bC S2.out.l;have zl:=lB S2.out.l;have fl:=bF S2.out.l;have S3:=LH (S2.out.setL (left2:=left2));go_wp2_with fail;exact bR (v:=.int .i64 n) (by simp only [results,Tryz.results104];go_simp) rfl ⟨rfl,S3.out⟩
 ·rw [if_neg h0]
  have h0i: (e == 0) =false:=by simpa using h0
  clear h h0
  go_enter Tryz.func104,Tryz.ntmps104
  go_wp2_with fail;exact bR (v:=.int .i64 0) (by simp only [results,Tryz.results104];go_simp) rfl ⟨rfl,HS.out⟩
end
def withinC (a b:Nat) :Bool:=bits BinOp.andNot IntKind.u64 (a:Int) (b:Int) == 0
theorem crew_Within (w:World) (a b:Nat) :Calls Tryz.prog 23 #[.int .u64 a,.int .u64 b] w fun e w'=>e=.returned (.bool (withinC a b))∧Below w.heap.size w w':=by
 unfold withinC
 go_enter Tryz.func23,Tryz.ntmps23
 go_wp2_with fail;exact bR (v:=.bool (bits BinOp.andNot IntKind.u64 (a:Int) (b:Int) == 0)) (by simp only [results,Tryz.results23];go_simp) rfl ⟨rfl,Below.refl _ _⟩
theorem within_one {c:Nat} {b:Nat} (hc:c<2^64) (hb:isCrew (b:Int) =true) :withinC (withC 0 (b:Int)) c=hasC c (b:Int):=by
 obtain⟨n,hn,hn48⟩:=isCrew_nat hb;obtain rfl:b=n:=by omega
 have hp:=pow_crew hn48
 have e:withC 0 (b:Int) =2^b:=by
  unfold withC;rw [if_pos hb,Int.toNat_natCast,if_neg (by simp [hasN])];simp
 rw [e];unfold withinC hasC hasN;rw [hb,Bool.true_and,Int.toNat_natCast]
 have h1:bits BinOp.andNot IntKind.u64 ((2^b:Nat) :Int) (c:Int) = ((if c.testBit b=true then 0 else 2^b:Nat) :Int):=by
  simp only [bits,BitVec.ofInt_natCast]
  have e2: ((BitVec.ofNat 64 (2^b)) &&& ~~~(BitVec.ofNat 64 c)).toNat=if c.testBit b=true then 0 else 2^b:=by
   apply Nat.eq_of_testBit_eq
   intro j;rw [←BitVec.getLsbD,BitVec.getLsbD_and,BitVec.getLsbD_not,BitVec.getLsbD_ofNat,BitVec.getLsbD_ofNat,Nat.testBit_two_pow];by_cases hj:b=j
   ·subst hj
    have h64:decide (b<64) =true:=by simp;omega
    rw [h64]
    cases hcb:c.testBit b <;> simp
   ·have hjd:decide (b=j) =false:=by simpa using hj
    rw [hjd]
    cases hcb:c.testBit b
    ·simp [Nat.testBit_two_pow,hj]
    ·simp
  show IntKind.u64.wrap _=_
  rw [show IntKind.u64.bits=64 from rfl,e2];rw [wrap_u64s (by omega) (by split <;> omega)]
 rw [h1];have ht:decide (c / 2^b % 2=1) =c.testBit b:=by rw [Nat.testBit_eq_decide_div_mod_eq]
 rw [ht]
 cases hcb:c.testBit b
 ·rw [if_neg (by simp)]
  have: ((2^b:Nat) :Int)≠0:=by omega
  simpa using this
 ·rw [if_pos rfl]
  rfl
def ownC (b:Nat) :Nat:=if isCrew (b:Int) =true then withC 0 (b:Int) else 0
def p3 (a b c n:Nat) (e:Int) (left:List UInt8) :Ltr×Int:=
 let e3:=noteE (noteE (noteE e (decide (1048576<n)) 13) (decide (left.length<n)) 9) (decide (n<left.length)) 11
 if e3≠0 then noL e3 else (⟨a,b,c,left⟩,0)
def p2 (a b c:Nat) (e:Int) (left:List UInt8) :Ltr×Int:=p3 a b c (numT e left).1 (numT e left).2.1 (numT e left).2.2
def p1 (a b:Nat) (e:Int) (left:List UInt8) :Ltr×Int:=p2 a b (numT e left).1 (noteE (numT e left).2.1 (!rightC (numT e left).1 || !withinC (ownC b) (numT e left).1) 10) (numT e left).2.2
def p0 (a:Nat) (e:Int) (left:List UInt8) :Ltr×Int:=p1 a (numT e left).1 (noteE (numT e left).2.1 (!isCrew ((numT e left).1:Int)) 10) (numT e left).2.2
def pS (e:Int) (left:List UInt8) :Ltr×Int:=p0 (numT e left).1 (numT e left).2.1 (numT e left).2.2
def decP (s:List UInt8) :Ltr×Int:=pS (noteE (noteE (openT s).2 (decide ((openT s).1.length<4)) 9) (!magL (openT s).1) 10) (cutT (openT s).1)
theorem note_ne {e f:Int} {b:Bool} (h:e≠0) :noteE e b f=e:=by unfold noteE;rw [if_neg (fun x=>h x.2)]
theorem note_zero {b:Bool} {f:Int} :noteE 0 b f=if b=true then f else 0:=by unfold noteE;simp
theorem num_ne {e:Int} {left:List UInt8} (h:e≠0) :numT e left= (0,e,left):=by unfold numT;rw [if_neg h]
theorem num_zero {left:List UInt8} :numT 0 left= ((getB left).1,(getB left).2.2,left.drop (getB left).2.1):=by unfold numT;rw [if_pos rfl]
theorem p3_ne {a b c n:Nat} {e:Int} {left:List UInt8} (h:e≠0) :p3 a b c n e left=noL e:=by
 unfold p3;simp only [note_ne h];rw [if_pos h]
theorem p2_ne {a b c:Nat} {e:Int} {left:List UInt8} (h:e≠0) :p2 a b c e left=noL e:=by unfold p2;rw [num_ne h];exact p3_ne h
theorem p1_ne {a b:Nat} {e:Int} {left:List UInt8} (h:e≠0) :p1 a b e left=noL e:=by unfold p1;rw [num_ne h];dsimp only;rw [note_ne h];exact p2_ne h
theorem p0_ne {a:Nat} {e:Int} {left:List UInt8} (h:e≠0) :p0 a e left=noL e:=by unfold p0;rw [num_ne h];dsimp only;rw [note_ne h];exact p1_ne h
theorem pS_ne {e:Int} {left:List UInt8} (h:e≠0) :pS e left=noL e:=by unfold pS;rw [num_ne h];exact p0_ne h
theorem p3_eq (a b c n:Nat) (left:List UInt8) :p3 a b c n 0 left=if 1048576<n then noL 13 else dl4 a b c n left:=by
 by_cases h1:1048576<n
 ·simp [p3,noteE,h1]
 ·by_cases h2:left.length<n
  ·simp [p3,dl4,noteE,h1,h2]
  ·by_cases h3:n<left.length
   ·simp [p3,dl4,noteE,h1,h2,h3]
   ·simp [p3,dl4,noteE,h1,h2,h3]
theorem p2_eq (a b c:Nat) (left:List UInt8) :p2 a b c 0 left=dl3 a b c (getB left) left:=by
 unfold p2 dl3;rw [num_zero];dsimp only;by_cases h: (getB left).2.2=0
 ·rw [if_neg (by simpa using h),h];exact p3_eq ..
 ·rw [if_pos (by simpa using h)];exact p3_ne h
theorem p1_eq {a b:Nat} (hb:isCrew (b:Int) =true) (left:List UInt8) :p1 a b 0 left=dl2 a b (getB left) left:=by
 unfold p1 dl2;rw [num_zero];dsimp only;have g:=(getB_bounds left).1;by_cases h: (getB left).2.2=0
 ·rw [if_neg (by simpa using h),h,note_zero]
  have hw:withinC (ownC b) (getB left).1=hasC (getB left).1 (b:Int):=by unfold ownC;rw [if_pos hb];exact within_one (by omega) hb
  rw [hw]
  cases h1:rightC (getB left).1 && hasC (getB left).1 (b:Int)
  ·rw [if_pos (by rw [←Bool.not_and,h1];rfl),if_pos rfl];exact p2_ne (by decide)
  ·rw [if_neg (by rw [←Bool.not_and,h1];simp),if_neg (by simp)];exact p2_eq ..
 ·rw [if_pos (by simpa using h),note_ne h];exact p2_ne h
theorem p0_eq (a:Nat) (left:List UInt8) :p0 a 0 left=dl1 a (getB left) left:=by
 unfold p0 dl1;rw [num_zero];dsimp only;by_cases h: (getB left).2.2=0
 ·rw [if_neg (by simpa using h),h,note_zero]
  cases h1:isCrew ((getB left).1:Int)
  ·rw [if_pos (by simp),if_pos rfl];exact p1_ne (by decide)
  ·rw [if_neg (by simp),if_neg (by simp)];exact p1_eq h1 _
 ·rw [if_pos (by simpa using h),note_ne h];exact p1_ne h
theorem pS_eq (left:List UInt8) :pS 0 left=dl0 (getB left) left:=by
 unfold pS dl0;rw [num_zero];dsimp only;by_cases h: (getB left).2.2=0
 ·rw [if_neg (by simpa using h),h];exact p0_eq ..
 ·rw [if_pos (by simpa using h)];exact p0_ne h
theorem decP_eq (s:List UInt8) :decP s=decL s:=by
 rw [decL_dl];unfold decP dlW;generalize openT s=o;by_cases h:o.2=0
 ·rw [if_neg (by simpa using h),h,note_zero]
  unfold magL cutT;by_cases h4:o.1.length<4
  ·rw [if_pos h4,if_pos (by simpa using h4),note_ne (by decide)];exact pS_ne (by decide)
  ·have h4d:decide (o.1.length<4) =false:=by simpa using h4
   have h4e:decide (4≤o.1.length) =true:=by simp;omega
   rw [if_neg h4,if_neg (by rw [h4d];simp),note_zero];unfold magL;rw [h4e,Bool.true_and];by_cases hm:o.1.take 4= [68,87,76,1]
   ·rw [decide_eq_true hm,if_neg (by simp),if_pos rfl,if_neg (fun h=>h hm)];exact pS_eq _
   ·rw [decide_eq_false hm,if_pos (by simp),if_pos hm];exact pS_ne (by decide)
 ·rw [if_pos (by simpa using h),note_ne h,note_ne h];exact pS_ne h
theorem numT_len (e:Int) (left:List UInt8) : (numT e left).2.2.length≤left.length∧(numT e left).1≤9223372036854775807:=by
 unfold numT
 split
 ·exact⟨by simp,(getB_bounds left).1⟩
 ·exact⟨Nat.le_refl _,by simp⟩
@[local go_sem] theorem run_store_funcW (P:Program) (w:World) (a:Addr) (m:Mode) (f:Fn) (ts:Array Value) (cs:Array Value) : (store a (.func f ts cs) m).run P w=stored P w a (.func f ts cs) m:=run_store P w a _ m rfl
def noteW (W:World) (pe:Nat) (e:Int) (b:Bool) (f:Int) :World:=if b=true∧e=0 then W.setCell ⟨pe,0,none⟩ (.int .i64 f) else W
theorem noteW_other {W:World} {pe q:Nat} {e f:Int} {b:Bool} (h:q≠pe) : (noteW W pe e b f).heap[q]? =W.heap[q]? :=by
 unfold noteW
 split
 ·exact Below.heap_setCell _ _ _ _ h
 ·rfl
theorem noteW_e {W:World} {pe:Nat} {e f:Int} {b:Bool} (h:W.heap[pe]? =some (.cells #[.int .i64 e] 53 (0,0))) : (noteW W pe e b f).heap[pe]? =some (.cells #[.int .i64 (noteE e b f)] 53 (0,0)):=by
 unfold noteW noteE
 split
 ·exact zH (i:=0) h _
 ·exact h
theorem noteW_below {w W:World} {pe:Nat} {e f:Int} {b:Bool} (h:Below w.heap.size w W) (hp:w.heap.size≤pe) :Below w.heap.size w (noteW W pe e b f):=by
 unfold noteW
 split
 ·exact h.setCell (p:=⟨pe,0,none⟩) hp _
 ·exact h
theorem let_fail0 {W:World} {pe:Nat} {e:Int} (h:W.heap[pe]? =some (.cells #[.int .i64 e] 53 (0,0))) (b:Bool) (f:Int) :Calls Tryz.prog 102 #[.bool b,.int .i64 f,.pointer (some ⟨pe,0,none⟩)] W fun en W'=>en=.returned (.tuple #[])∧W'=noteW W pe e b f:=by
 have ce:=bC h;have fe:=bF h;have ze:=lB h;clear h;unfold noteW
 cases b
 ·rw [if_neg (by simp)]
  go_enter Tryz.func102,Tryz.ntmps102
  go_wp2_with fail
  first|go_end0|skip
  exact⟨rfl,rfl⟩
 ·by_cases h0:e=0
  ·rw [if_pos ⟨rfl,h0⟩]
   have h0i: (e == 0) =true:=by simpa using h0
   clear h0
   go_enter Tryz.func102,Tryz.ntmps102
   go_wp2_with fail
   first|go_end0|skip
   exact⟨rfl,rfl⟩
  ·rw [if_neg (fun h=>h0 h.2)]
   have h0i: (e == 0) =false:=by simpa using h0
   clear h0
   go_enter Tryz.func102,Tryz.ntmps102
   go_wp2_with fail
   first|go_end0|skip
   exact⟨rfl,rfl⟩
theorem cutT_len (t:List UInt8) : (cutT t).length≤t.length:=by
 unfold cutT
 split
 ·rw [List.length_drop];omega
 ·exact Nat.le_refl _
theorem letl_store {W:World} {q:Nat} {a b c d:Value} (h:W.heap[q]? =some (.cells #[a,b,c,d] 108 (0,0))) (u v x y:Value) : ((((W.setCell ⟨q,0,none⟩ u).setCell ⟨q,1,none⟩ v).setCell ⟨q,2,none⟩ x).setCell ⟨q,3,none⟩ y).heap[q]? =some (.cells #[u,v,x,y] 108 (0,0)):=by
 have h0:=zH (i:=0) h u;have h1:=zH (i:=1) h0 v;have h2:=zH (i:=2) h1 x;exact zH (i:=3) h2 y
theorem letter_Decode (w:World) (s:List UInt8) (hs:s.length≤8000000) :
 Calls Tryz.prog 56 #[.string ⟨s.toArray⟩] w fun e w'=>e=.returned (.tuple #[ltrV (decL s).1,.int .i64 (decL s).2])∧Below w.heap.size w w':=by
 have HP0:=LH (show decL s=pS (noteE (noteE (openT s).2 (decide ((openT s).1.length<4)) 9) (!magL (openT s).1) 10) (cutT (openT s).1) from(decP_eq s).symm);have HOp:=LH (fun W=>seal_Open W s hs);unfold OpenPost at HOp;have hol:=openT_len s;generalize openT s=oo at HP0 HOp hol;obtain⟨t,e0⟩:=oo;dsimp only at HP0 HOp hol;have hts:t.length≤8000000:=by omega
 obtain⟨D,hD⟩ : ∃D,D=decL s:=⟨_,rfl⟩;rw [←hD] at HP0⊢;clear hol hs hD;have r0:=LH (heap_alloc_new w (.cells #[.int .i64 0,.int .i64 0,.int .u64 0,.string ⟨#[]⟩] 108));have b0:Hid (Below w.heap.size w (w.alloc (.cells #[.int .i64 0,.int .i64 0,.int .u64 0,.string ⟨#[]⟩] 108))):=LH bE
 go_enter Tryz.func56,Tryz.ntmps56
 go_upto_region 1 with fail;generalize w.alloc (.cells #[.int .i64 0,.int .i64 0,.int .u64 0,.string ⟨#[]⟩] 108) =W0 at r0 b0⊢;go_wp2_with fail;refine(HOp.out W0).mono ?_;rintro en w1 ⟨rfl,hb1⟩;have al:=hb1.trans (((Below.refl w1.heap.size w1).alloc (Nat.le_refl _) (.cells #[.int .i64 e0] 53)).mono hb1.size);have r1:=LH (bB r0.out al);have b1:=LH (Below.then_ b0.out al);have c1:=LH (heap_alloc_new w1 (.cells #[.int .i64 e0] 53));have hp1:w.heap.size<w1.heap.size:=by have h1:=lB r0.out;have h2:=hb1.size;omega
 clear hb1 al r0 b0 HOp;go_upto_region 2 with fail;obtain⟨pe,hpe⟩ : ∃q,q=w1.heap.size:=⟨_,rfl⟩;rw [←hpe] at c1 hp1⊢;generalize w1.alloc (.cells #[.int .i64 e0] 53) =w2 at r1 b1 c1⊢;clear hpe;have al:=(Below.refl w2.heap.size w2).alloc (Nat.le_refl _) (.cells #[.func (.func 102) #[] #[.pointer (some ⟨pe,0,none⟩)]] 166);have r2:=LH (bB r1.out al);have b2:=LH (Below.then_ b1.out al);have c2:=LH (bB c1.out al);have f2:=LH (heap_alloc_new w2 (.cells #[.func (.func 102) #[] #[.pointer (some ⟨pe,0,none⟩)]] 166));have hp2:pe<w2.heap.size:=lB c1.out;clear al r1 b1 c1;go_upto_region 3 with fail;obtain⟨pf,hpf⟩ : ∃q,q=w2.heap.size:=⟨_,rfl⟩;rw [←hpf] at f2 hp2⊢;generalize w2.alloc (.cells #[.func (.func 102) #[] #[.pointer (some ⟨pe,0,none⟩)]] 166) =w3 at r2 b2 c2 f2⊢;clear hpf;have cf:=bC f2.out;have zf:=lB f2.out;have HD4:Hid (decide ((t.length:Int) <4) =decide (t.length<4)):=LH (decide_eq_decide.2 (by omega));obtain⟨d4,hd4⟩ : ∃b,b=decide (t.length<4):=⟨_,rfl⟩;rw [←hd4] at HP0 HD4;clear hd4;have hd4i:=HD4.out;go_wp2_with fail;refine(let_fail0 c2.out d4 9).mono ?_;rintro en w4 ⟨rfl,rfl⟩;have r4:Hid ((noteW w3 pe e0 d4 9).heap[w.heap.size]? =some (.cells #[.int .i64 0,.int .i64 0,.int .u64 0,.string ⟨#[]⟩] 108 (0,0))):=LH ((noteW_other (by omega)).trans r2.out);have b4:=LH (noteW_below (pe:=pe) (e:=e0) (b:=d4) (f:=9) b2.out (by omega));have c4:=LH (noteW_e (b:=d4) (f:=9) c2.out);have f4:Hid ((noteW w3 pe e0 d4 9).heap[pf]? =some (.cells #[.func (.func 102) #[] #[.pointer (some ⟨pe,0,none⟩)]] 166 (0,0))):=LH ((noteW_other (by omega)).trans f2.out);generalize noteW w3 pe e0 d4 9=w4 at r4 b4 c4 f4⊢;obtain⟨e1,he1⟩ : ∃e,e=noteE e0 d4 9:=⟨_,rfl⟩;rw [←he1] at c4 HP0;clear he1 r2 b2 c2 f2 cf zf hd4i HD4;have HCu:=LH (strings_CutPrefix w4 t);obtain⟨l1,hl1⟩ : ∃l,l=cutT t:=⟨_,rfl⟩;have hl1n:l1.length≤8000000:=by rw [hl1];exact Nat.le_trans (cutT_len t) hts
 obtain⟨mg,hmg⟩ : ∃b,b=magL t:=⟨_,rfl⟩;rw [←hl1,←hmg] at HCu HP0;clear hl1 hmg;go_wp2_with fail;refine HCu.out.mono ?_;rintro en w5 ⟨rfl,hb5⟩;have al:=hb5.trans (((Below.refl w5.heap.size w5).alloc (Nat.le_refl _) (.cells #[.string ⟨l1.toArray⟩] 9)).mono hb5.size);have r6:=LH (bB r4.out al);have c6:=LH (bB c4.out al);have f6:=LH (bB f4.out al);have b6:=LH (Below.then_ b4.out al);have l6:=LH (heap_alloc_new w5 (.cells #[.string ⟨l1.toArray⟩] 9));have hp5:pf<w5.heap.size:=by have h1:=lB f4.out;have h2:=hb5.size;omega
 clear hb5 al r4 b4 c4 f4 HCu;go_upto_region 5 with fail;obtain⟨pl,hpl⟩ : ∃q,q=w5.heap.size:=⟨_,rfl⟩;rw [←hpl] at l6 hp5⊢;generalize w5.alloc (.cells #[.string ⟨l1.toArray⟩] 9) =w6 at r6 b6 c6 f6 l6⊢;clear hpl;have cf:=bC f6.out;have zf:=lB f6.out;go_wp2_with fail;refine(let_fail0 c6.out (!mg) 10).mono ?_;rintro en w7 ⟨rfl,rfl⟩;have r7:Hid ((noteW w6 pe e1 (!mg) 10).heap[w.heap.size]? =some (.cells #[.int .i64 0,.int .i64 0,.int .u64 0,.string ⟨#[]⟩] 108 (0,0))):=LH ((noteW_other (by omega)).trans r6.out);have b7:=LH (noteW_below (pe:=pe) (e:=e1) (b:= !mg) (f:=10) b6.out (by omega));have c7:=LH (noteW_e (b:= !mg) (f:=10) c6.out);have f7:Hid ((noteW w6 pe e1 (!mg) 10).heap[pf]? =some (.cells #[.func (.func 102) #[] #[.pointer (some ⟨pe,0,none⟩)]] 166 (0,0))):=LH ((noteW_other (by omega)).trans f6.out);have l7:Hid ((noteW w6 pe e1 (!mg) 10).heap[pl]? =some (.cells #[.string ⟨l1.toArray⟩] 9 (0,0))):=LH ((noteW_other (by omega)).trans l6.out);generalize noteW w6 pe e1 (!mg) 10=w7 at r7 b7 c7 f7 l7⊢;obtain⟨e2,he2⟩ : ∃e,e=noteE e1 (!mg) 10:=⟨_,rfl⟩;rw [←he2] at c7 HP0;clear he2 r6 b6 c6 f6 l6 cf zf;have al:=(Below.refl w7.heap.size w7).alloc (Nat.le_refl _) (.cells #[.int .i64 0,.int .i64 0,.int .u64 0,.string ⟨#[]⟩] 108);have S8:Hid (LdS w pe pf pl w7.heap.size e2 l1 #[.int .i64 0,.int .i64 0,.int .u64 0,.string ⟨#[]⟩] (w7.alloc (.cells #[.int .i64 0,.int .i64 0,.int .u64 0,.string ⟨#[]⟩] 108))):=LH ⟨bB r7.out al,bB c7.out al,bB f7.out al,bB l7.out al,heap_alloc_new w7 _,Below.then_ b7.out al,hp1,hp2,hp5,lB l7.out⟩;clear al r7 b7 c7 f7 l7 hp1 hp2 hp5;go_upto_region 8 with fail;obtain⟨px,hpx⟩ : ∃q,q=w7.heap.size:=⟨_,rfl⟩;rw [←hpx] at S8⊢;generalize w7.alloc (.cells #[.int .i64 0,.int .i64 0,.int .u64 0,.string ⟨#[]⟩] 108) =w8 at S8⊢;clear hpx;obtain⟨a,ha⟩ : ∃x,x= (numT e2 l1).1:=⟨_,rfl⟩;obtain⟨e3,he3⟩ : ∃x,x= (numT e2 l1).2.1:=⟨_,rfl⟩;obtain⟨l3,hl3⟩ : ∃x,x= (numT e2 l1).2.2:=⟨_,rfl⟩;have hba:a≤9223372036854775807:=by rw [ha];exact(numT_len _ _).2
 have hll3:l3.length≤8000000:=by rw [hl3];exact Nat.le_trans (numT_len _ _).1 (by omega)
 have HNu:=LH (let_number S8.out (by omega));rw [←ha,←he3,←hl3] at HNu;have HP1:Hid (D=p0 a e3 l3):=LH (by rw [HP0.out];unfold pS;rw [←ha,←he3,←hl3]);clear ha he3 hl3 HP0;go_wp2_with fail;refine HNu.out.mono ?_;rintro en w9 ⟨rfl,hs9⟩;have S9:=LH hs9;clear hs9 HNu S8;have cx:=bC S9.out.x;have zx:=lB S9.out.x;have fx:=bF S9.out.x;go_upto_region 9 with fail;have S10:Hid (LdS w pe pf pl px e3 l3 #[.int .i64 a,.int .i64 0,.int .u64 0,.string ⟨#[]⟩] (w9.setCell ⟨px,0,none⟩ (.int .i64 a))):=LH (S9.out.setX 0 (.int .i64 a));generalize w9.setCell ⟨px,0,none⟩ (.int .i64 a) =w10 at S10⊢;clear cx zx fx S9;obtain⟨b,hb⟩ : ∃x,x= (numT e3 l3).1:=⟨_,rfl⟩;obtain⟨e4,he4⟩ : ∃x,x= (numT e3 l3).2.1:=⟨_,rfl⟩;obtain⟨l4,hl4⟩ : ∃x,x= (numT e3 l3).2.2:=⟨_,rfl⟩;have hbb:b≤9223372036854775807:=by rw [hb];exact(numT_len _ _).2
 have hll4:l4.length≤8000000:=by rw [hl4];exact Nat.le_trans (numT_len _ _).1 (by omega)
 have HNu:=LH (let_number S10.out (by omega));rw [←hb,←he4,←hl4] at HNu;have HP2:Hid (D=p1 a b (noteE e4 (!isCrew (b:Int)) 10) l4):=LH (by rw [HP1.out];unfold p0;rw [←hb,←he4,←hl4]);clear hb he4 hl4 HP1;go_wp2_with fail;refine HNu.out.mono ?_;rintro en w11 ⟨rfl,hs11⟩;have S11:=LH hs11;clear hs11 HNu S10;have cx:=bC S11.out.x;have zx:=lB S11.out.x;have fx:=bF S11.out.x;go_upto_region 10 with fail;have S12:Hid (LdS w pe pf pl px e4 l4 #[.int .i64 a,.int .i64 b,.int .u64 0,.string ⟨#[]⟩] (w11.setCell ⟨px,1,none⟩ (.int .i64 b))):=LH (S11.out.setX 1 (.int .i64 b));generalize w11.setCell ⟨px,1,none⟩ (.int .i64 b) =w12 at S12⊢;clear cx zx fx S11
 have HOf:Hid (∀W:World,Calls Tryz.prog 106 #[.slice (some ⟨W.heap.size,0,none⟩) 1 1] (W.alloc (.cells #[.int .i64 b] 3)) fun e w'=>e=.returned (.tuple #[.int .u64 (ownC b),.bool (isCrew (b:Int))])∧Below W.heap.size W w'):=LH (fun W=>by
  have h:=crew_Of1 _ _ _ (b:Int) (Own.lit W encZ [(b:Int)] 3 (Nat.le_refl _) (by simp [maxLen]));refine h.mono ?_;rintro e w' ⟨he,hb⟩;exact⟨he,((Below.refl W.heap.size W).alloc (Nat.le_refl _) _).trans (hb.mono (by simp))⟩)
 obtain⟨own,hown⟩ : ∃x,x=ownC b:=⟨_,rfl⟩;obtain⟨is,his⟩ : ∃x,x=isCrew (b:Int):=⟨_,rfl⟩;rw [←hown,←his] at HOf;rw [←his] at HP2;have HOw:=LH hown;clear hown his;have cx:=bC S12.out.x;have zx:=lB S12.out.x;go_wp2_with fail;refine(HOf.out w12).mono ?_;rintro en w13 ⟨rfl,hb13⟩;have S13:=LH (S12.out.below hb13);clear hb13 HOf cx zx S12;have cf:=bC S13.out.f;have zf:=lB S13.out.f;go_wp2_with fail;refine(let_fail S13.out (!is) 10).mono ?_;rintro en w14 ⟨rfl,hs14⟩;have S14:=LH hs14;obtain⟨e5,he5⟩ : ∃e,e=noteE e4 (!is) 10:=⟨_,rfl⟩;rw [←he5] at S14 HP2;clear he5 hs14 cf zf S13;obtain⟨c,hc⟩ : ∃x,x= (numT e5 l4).1:=⟨_,rfl⟩;obtain⟨e6,he6⟩ : ∃x,x= (numT e5 l4).2.1:=⟨_,rfl⟩;obtain⟨l6,hl6⟩ : ∃x,x= (numT e5 l4).2.2:=⟨_,rfl⟩;have hbc:c≤9223372036854775807:=by rw [hc];exact(numT_len _ _).2
 have hll6:l6.length≤8000000:=by rw [hl6];exact Nat.le_trans (numT_len _ _).1 (by omega)
 have HNu:=LH (let_number S14.out (by omega));rw [←hc,←he6,←hl6] at HNu;have HP3:Hid (D=p2 a b c (noteE e6 (!rightC c || !withinC (ownC b) c) 10) l6):=LH (by rw [HP2.out];unfold p1;rw [←hc,←he6,←hl6]);clear hc he6 hl6 HP2;go_wp2_with fail;refine HNu.out.mono ?_;rintro en w15 ⟨rfl,hs15⟩;have S15:=LH hs15;clear hs15 HNu S14;rw [←HOw.out] at HP3;have hcw:IntKind.u64.wrap (c:Int) = (c:Int):=wrap_u64s (by omega) (by omega);have cx:=bC S15.out.x;have zx:=lB S15.out.x;have fx:=bF S15.out.x;go_upto_region 13 with fail;have S16:Hid (LdS w pe pf pl px e6 l6 #[.int .i64 a,.int .i64 b,.int .u64 c,.string ⟨#[]⟩] (w15.setCell ⟨px,2,none⟩ (.int .u64 c))):=LH (S15.out.setX 2 (.int .u64 c));generalize w15.setCell ⟨px,2,none⟩ (.int .u64 c) =w16 at S16⊢;clear cx zx fx S15;have HRi:=LH (fun W=>crew_Right c W);have HWi:=LH (fun W=>crew_Within W own c);obtain⟨rc,hrc⟩ : ∃x,x=rightC c:=⟨_,rfl⟩;obtain⟨wi,hwi⟩ : ∃x,x=withinC own c:=⟨_,rfl⟩;rw [←hrc] at HRi HP3;rw [←hwi] at HWi HP3;clear hrc hwi;have Sd:=LH (S16.out.below (Below.drew (Below.refl _ _)))
 go_cut [] (fun W=>LdS w pe pf pl px (noteE e6 (!rc || !wi) 10) l6 #[.int .i64 a,.int .i64 b,.int .u64 c,.string ⟨#[]⟩] W)
 case first=>
  have cf:=bC S16.out.f;have zf:=lB S16.out.f;have cx:=bC S16.out.x;have zx:=lB S16.out.x
  cases rc
  ·skip
   refine wp_region_tail 12 (by kernel_rfl) (by kernel_rfl) ?_;simp only [List.take_succ_cons,List.take_zero,List.drop_succ_cons,List.drop_zero]
   repeat (go_big_quiet_step (first
    | (go_at_call 107;exact quiet_ext (HRi.out _))
    | (go_at_call 23;exact quiet_ext (HWi.out _))))
   refine wpQuiet_nil ?_;intro wq hbq;replace hbq:=bX hbq;have Sq:=LH (S16.out.below hbq);clear hbq;go_wp2_with fail;refine(let_fail Sq.out (!false) 10).mono ?_;rintro en wz ⟨rfl,hz⟩;go_wp2_with fail
   go_meet
   exact hz
  ·skip
   refine wp_region_tail 12 (by kernel_rfl) (by kernel_rfl) ?_;simp only [List.take_succ_cons,List.take_zero,List.drop_succ_cons,List.drop_zero]
   repeat (go_big_quiet_step (first
    | (go_at_call 107;exact quiet_ext (HRi.out _))
    | (go_at_call 23;exact quiet_ext (HWi.out _))))
   refine wpQuiet_nil ?_;intro wq hbq;replace hbq:=bX hbq;have Sq:=LH (S16.out.below hbq);clear hbq;go_wp2_with fail;refine(let_fail Sq.out (!wi) 10).mono ?_;rintro en wz ⟨rfl,hz⟩;go_wp2_with fail
   go_meet
   exact hz
 case rest=>
  have Sr:=LH hcut;clear hcut Sd S16;obtain⟨e7,he7⟩ : ∃e,e=noteE e6 (!rc || !wi) 10:=⟨_,rfl⟩;rw [←he7] at Sr HP3;clear he7 HRi HWi;obtain⟨n,hn⟩ : ∃x,x= (numT e7 l6).1:=⟨_,rfl⟩;obtain⟨e8,he8⟩ : ∃x,x= (numT e7 l6).2.1:=⟨_,rfl⟩;obtain⟨l8,hl8⟩ : ∃x,x= (numT e7 l6).2.2:=⟨_,rfl⟩;have hbn:n≤9223372036854775807:=by rw [hn];exact(numT_len _ _).2
  have hll8:l8.length≤8000000:=by rw [hl8];exact Nat.le_trans (numT_len _ _).1 (by omega)
  have HNu:=LH (let_number Sr.out (by omega));rw [←hn,←he8,←hl8] at HNu;have HP4:Hid (D=p3 a b c n e8 l8):=LH (by rw [HP3.out];unfold p2;rw [←hn,←he8,←hl8]);clear hn he8 hl8 HP3;go_wp2_with fail;refine HNu.out.mono ?_;rintro en w17 ⟨rfl,hs17⟩;have S17:=LH hs17;clear hs17 HNu Sr
  have HP5:Hid (D=if noteE (noteE (noteE e8 (decide ((1048576:Int) < (n:Int))) 13) (decide ((l8.length:Int) < (n:Int))) 9) (decide ((n:Int) < (l8.length:Int))) 11≠0 then noL (noteE (noteE (noteE e8 (decide ((1048576:Int) < (n:Int))) 13) (decide ((l8.length:Int) < (n:Int))) 9) (decide ((n:Int) < (l8.length:Int))) 11) else (⟨a,b,c,l8⟩,0)):=LH (by
   rw [HP4.out];unfold p3;dsimp only;rw [show decide ((1048576:Int) < (n:Int)) =decide (1048576<n) from decide_eq_decide.2 (by omega),show decide ((l8.length:Int) < (n:Int)) =decide (l8.length<n) from decide_eq_decide.2 (by omega),show decide ((n:Int) < (l8.length:Int)) =decide (n<l8.length) from decide_eq_decide.2 (by omega)])
  clear HP4;obtain⟨b1,hb1⟩ : ∃b,b=decide ((1048576:Int) < (n:Int)):=⟨_,rfl⟩;obtain⟨b2,hb2⟩ : ∃b,b=decide ((l8.length:Int) < (n:Int)):=⟨_,rfl⟩;obtain⟨b3,hb3⟩ : ∃b,b=decide ((n:Int) < (l8.length:Int)):=⟨_,rfl⟩;rw [←hb1,←hb2,←hb3] at HP5;have q1:decide ((1048576:Int) < (n:Int)) =b1:=hb1.symm;have q2:decide (l8.length<n) =b2:=by rw [hb2];exact decide_eq_decide.2 (by omega)
  have q3:decide (n<l8.length) =b3:=by rw [hb3];exact decide_eq_decide.2 (by omega)
  clear hb1 hb2 hb3;have cf:=bC S17.out.f;have zf:=lB S17.out.f;go_wp2_with fail;refine(let_fail S17.out (b1) 13).mono ?_;rintro en w18 ⟨rfl,hs18⟩;have S18:=LH hs18;obtain⟨e9,he9⟩ : ∃e,e=noteE e8 (b1) 13:=⟨_,rfl⟩;rw [←he9] at S18 HP5;clear he9 hs18 cf zf S17;have cl:=bC S18.out.l;have zl:=lB S18.out.l;have cf:=bC S18.out.f;have zf:=lB S18.out.f;go_wp2_with fail;refine(let_fail S18.out (b2) 9).mono ?_;rintro en w19 ⟨rfl,hs19⟩;have S19:=LH hs19;obtain⟨e10,he10⟩ : ∃e,e=noteE e9 (b2) 9:=⟨_,rfl⟩;rw [←he10] at S19 HP5;clear he10 hs19 cf zf S18;clear cl zl;have cl:=bC S19.out.l;have zl:=lB S19.out.l;have cf:=bC S19.out.f;have zf:=lB S19.out.f;go_wp2_with fail;refine(let_fail S19.out (b3) 11).mono ?_;rintro en w20 ⟨rfl,hs20⟩;have S20:=LH hs20;obtain⟨e11,he11⟩ : ∃e,e=noteE e10 (b3) 11:=⟨_,rfl⟩;rw [←he11] at S20 HP5;clear he11 hs20 cf zf S19;clear cl zl q1 q2 q3;have ce:=bC S20.out.e;have ze:=lB S20.out.e;by_cases h0:e11=0
  case neg=>
   have HE:=LH (HP5.out.trans (if_pos h0));have h0i: (e11 == 0) =false:=by simpa using h0
   clear h0;go_upto_region 19 with fail;have cr:=bC S20.out.r;have zr:=lB S20.out.r;have fr:=bF S20.out.r;have Y:=LH (letl_store S20.out.r (.int .i64 0) (.int .i64 0) (.int .u64 0) (.string ⟨#[]⟩));have B:=LH (lt_below S20.out.b (q:=w.heap.size) (Nat.le_refl _) (.int .i64 0) (.int .i64 0) (.int .u64 0) (.string ⟨#[]⟩));have hne:=S20.out.h1;have hne2:pe≠w.heap.size:=by omega
   have hne3:w.heap.size≠pe:=by omega
   go_region
   all_goals go_wp2_with fail
   all_goals clear cr zr fr ce ze
   all_goals generalize ((((w20.setCell ⟨w.heap.size,0,none⟩ (.int .i64 0)).setCell ⟨w.heap.size,1,none⟩ (.int .i64 0)).setCell ⟨w.heap.size,2,none⟩ (.int .u64 0)).setCell ⟨w.heap.size,3,none⟩ (.string ⟨#[]⟩)) =wz at Y B⊢
   all_goals have cz:=bC (w:=wz.drew) Y.out
   all_goals have fz:=bF (w:=wz.drew) Y.out
   all_goals have zz:=lB (w:=wz.drew) Y.out
   all_goals exact bR (v:=.tuple #[.agg #[.int .i64 0,.int .i64 0,.int .u64 0,.string ⟨#[]⟩],.int .i64 e11]) (by simp only [results,Tryz.results56];go_simp) rfl ⟨by rw [HE.out];rfl,B.out.drew⟩
  case pos=>
   subst h0;have HE:=LH (HP5.out.trans (if_neg (by simp)));have cl:=bC S20.out.l;have zl:=lB S20.out.l;have cx:=bC S20.out.x;have zx:=lB S20.out.x;have fx:=bF S20.out.x;go_upto_region 21 with fail;have S21:Hid (LdS w pe pf pl px 0 l8 #[.int .i64 a,.int .i64 b,.int .u64 c,.string ⟨l8.toArray⟩] (w20.setCell ⟨px,3,none⟩ (.string ⟨l8.toArray⟩))):=LH (S20.out.setX 3 (.string ⟨l8.toArray⟩));generalize w20.setCell ⟨px,3,none⟩ (.string ⟨l8.toArray⟩) =w21 at S21⊢;clear cx zx fx S20;clear cl zl ce ze;have cx:=bC S21.out.x;have zx:=lB S21.out.x;have cr:=bC S21.out.r;have zr:=lB S21.out.r;have fr:=bF S21.out.r;have Y:=LH (letl_store S21.out.r (.int .i64 a) (.int .i64 b) (.int .u64 c) (.string ⟨l8.toArray⟩));have B:=LH (lt_below S21.out.b (q:=w.heap.size) (Nat.le_refl _) (.int .i64 a) (.int .i64 b) (.int .u64 c) (.string ⟨l8.toArray⟩));go_wp2_with fail;clear cx zx cr zr fr;generalize ((((w21.setCell ⟨w.heap.size,0,none⟩ (.int .i64 a)).setCell ⟨w.heap.size,1,none⟩ (.int .i64 b)).setCell ⟨w.heap.size,2,none⟩ (.int .u64 c)).setCell ⟨w.heap.size,3,none⟩ (.string ⟨l8.toArray⟩)) =wz at Y B⊢;have cz:=bC Y.out;have fz:=bF Y.out;have zz:=lB Y.out;exact bR (v:=.tuple #[.agg #[.int .i64 a,.int .i64 b,.int .u64 c,.string ⟨l8.toArray⟩],.int .i64 0]) (by simp only [results,Tryz.results56];go_simp) rfl ⟨by rw [HE.out];rfl,B.out⟩
def RdrAt (W:World) (pr:Nat) (s:List UInt8) (e:Int) :Prop:=W.heap[pr]? =some (.cells #[.string ⟨s.toArray⟩,.int .i64 e] 246 (0,0))
def RdTo (W:World) (pr:Nat) (s:List UInt8) (e:Int) (W':World) :Prop:=RdrAt W' pr s e∧Turn (fun b=>b=pr) W W'
section
variable {w W W' W2:World} {pr:Nat} {s s2:List UInt8} {e e2:Int}
theorem RdrAt.below (h:RdrAt W pr s e) (hb:Below W.heap.size W W') :RdrAt W' pr s e:=bB h hb
theorem RdTo.trans (h:RdTo W pr s e W') (k:RdTo W' pr s2 e2 W2) :RdTo W pr s2 e2 W2:=⟨k.1,h.2.trans k.2 fun b hb=>.inl hb⟩
theorem RdTo.then_ (h:RdTo W pr s e W') (hb:Below W'.heap.size W' W2) :RdTo W pr s e W2:=⟨h.1.below hb,h.2.more hb⟩
theorem RdTo.same (h:RdrAt W pr s e) :RdTo W pr s e W:=⟨h,.refl _ _⟩
theorem RdTo.setE (h:RdTo W pr s e W') :RdTo W pr s e2 (W'.setCell ⟨pr,1,none⟩ (.int .i64 e2)):=⟨zH (i:=1) h.1 _,h.2.setCell (p:=⟨pr,1,none⟩) (.inl rfl) _⟩
theorem RdTo.setS (h:RdTo W pr s e W') :RdTo W pr s2 e (W'.setCell ⟨pr,0,none⟩ (.string ⟨s2.toArray⟩)):=⟨zH (i:=0) h.1 _,h.2.setCell (p:=⟨pr,0,none⟩) (.inl rfl) _⟩
theorem rdr_fail (h:RdrAt W pr s e) (b:Bool) (f:Int) :Calls Tryz.prog 185 #[.pointer (some ⟨pr,0,none⟩),.bool b,.int .i64 f] W fun en W'=>en=.returned (.tuple #[])∧RdTo W pr s (noteE e b f) W':=by
 have HS:=LH (RdTo.same h);have ce:=bC h;have fe:=bF h;have ze:=lB h;clear h;unfold noteE
 cases b
 ·rw [if_neg (by simp)]
  go_enter Tryz.func185,Tryz.ntmps185
  go_wp2_with fail
  first|go_end0|skip
  exact⟨rfl,HS.out⟩
 ·by_cases h0:e=0
  ·rw [if_pos ⟨rfl,h0⟩]
   have h0i: (e == 0) =true:=by simpa using h0
   clear h0;have HE:=LH (HS.out.setE (e2:=f))
   go_enter Tryz.func185,Tryz.ntmps185
   go_wp2_with fail
   first|go_end0|skip
   exact⟨rfl,HE.out⟩
  ·rw [if_neg (fun h=>h0 h.2)]
   have h0i: (e == 0) =false:=by simpa using h0
   clear h0
   go_enter Tryz.func185,Tryz.ntmps185
   go_wp2_with fail
   first|go_end0|skip
   exact⟨rfl,HS.out⟩
def rawT (e:Int) (s:List UInt8) (n:Nat) :List UInt8×Int×List UInt8:=
 if noteE e (decide (s.length<n)) 9=0 then (s.take n,0,s.drop n) else ([],noteE e (decide (s.length<n)) 9,s)
theorem rdr_raw (h:RdrAt W pr s e) (n:Nat) (hs:s.length≤1000000000) (hn:n≤1000) :Calls Tryz.prog 186 #[.pointer (some ⟨pr,0,none⟩),.int .i64 n] W fun en W'=>en=.returned (.string ⟨(rawT e s n).1.toArray⟩)∧RdTo W pr (rawT e s n).2.2 (rawT e s n).2.1 W':=by
 have HF:=LH (rdr_fail h (decide (s.length<n)) 9)
 have HL:Hid (noteE e (decide (s.length<n)) 9=0→n≤s.length):=LH fun q=>by
  unfold noteE at q
  split at q
  ·cases q
  ·rename_i q2
   have: ¬(s.length<n):=fun q3=>q2 ⟨by simpa using q3,q⟩;omega
 unfold rawT;generalize noteE e (decide (s.length<n)) 9=e1 at HF HL⊢;have ce:=bC h;have ze:=lB h;obtain⟨b,hb⟩ : ∃b,b=decide (s.length<n):=⟨_,rfl⟩;have hbi:decide (s.length<n) =b:=hb.symm;rw [←hb] at HF;clear hb;by_cases h0:e1=0
 ·rw [if_pos h0]
  have hns:=HL.out h0;subst h0;have htt:=text_take s n;have htd:=text_drop s n;generalize s.take n=t at htt⊢;generalize s.drop n=d at htd⊢;clear h
  go_enter Tryz.func186,Tryz.ntmps186
  go_wp2_with fail;refine HF.out.mono ?_;rintro en w1 ⟨rfl,h1⟩;have H1:=LH h1;clear HF ce ze;have ce:=bC h1.1;have fe:=bF h1.1;have ze:=lB h1.1;clear h1;have H2:=LH (H1.out.setS (s2:=d));clear hbi;go_wp2_with fail;exact bR (v:=.string ⟨t.toArray⟩) (by simp only [results,Tryz.results186];go_simp) rfl ⟨rfl,H2.out⟩
 ·rw [if_neg h0]
  have h0i: (e1 == 0) =false:=by simpa using h0
  clear h h0
  go_enter Tryz.func186,Tryz.ntmps186
  go_wp2_with fail;refine HF.out.mono ?_;rintro en w1 ⟨rfl,h1⟩;have H1:=LH h1;clear HF ce ze;have ce:=bC h1.1;have ze:=lB h1.1;clear h1;go_wp2_with fail;exact bR (v:=.string ⟨#[]⟩) (by simp only [results,Tryz.results186];go_simp) rfl ⟨rfl,H1.out⟩
theorem rdr_number (h:RdrAt W pr s e) (hs:s.length≤1000000000) :Calls Tryz.prog 189 #[.pointer (some ⟨pr,0,none⟩)] W fun en W'=>en=.returned (.int .i64 (numT e s).1)∧RdTo W pr (numT e s).2.2 (numT e s).2.1 W':=by
 have HS:=LH (RdTo.same h);have ce:=bC h;have ze:=lB h;unfold numT;by_cases h0:e=0
 ·rw [if_pos h0]
  subst h0;have HG:=LH (vary_Get W s hs);unfold GetPost at HG;have HBd:=LH (getB_bounds s);have htd:=text_drop s (getB s).2.1;generalize s.drop (getB s).2.1=d at htd⊢;generalize getB s=G at HG htd HBd⊢;obtain⟨n,z,er⟩:=G;dsimp only at HG htd HBd⊢;have hz:=HBd.out.2.2.1
  have HN:Hid (noteE 0 (er != 0) er=er):=LH (by
   unfold noteE;by_cases h:er=0
   ·rw [h];simp
   ·rw [if_pos ⟨by simpa using h,rfl⟩])
  clear h
  go_enter Tryz.func189,Tryz.ntmps189
  go_wp2_with fail;refine HG.out.mono ?_;rintro en w1 ⟨rfl,hb1⟩;have S1:=LH (HS.out.then_ hb1);clear hb1 HG HS ce ze;go_wp2_with fail;refine(rdr_fail S1.out.1 (er != 0) er).mono ?_;rintro en w2 ⟨rfl,h2⟩;rw [HN.out] at h2;have S2:=LH (S1.out.trans h2);clear h2 S1;have ce:=bC S2.out.1;have fe:=bF S2.out.1;have ze:=lB S2.out.1;have S3:=LH (S2.out.setS (s2:=d));go_wp2_with fail;exact bR (v:=.int .i64 n) (by simp only [results,Tryz.results189];go_simp) rfl ⟨rfl,S3.out⟩
 ·rw [if_neg h0]
  have h0i: (e == 0) =false:=by simpa using h0
  clear h h0
  go_enter Tryz.func189,Tryz.ntmps189
  go_wp2_with fail;exact bR (v:=.int .i64 0) (by simp only [results,Tryz.results189];go_simp) rfl ⟨rfl,HS.out⟩
def lT (e:Int) (s:List UInt8) :Nat×Int×List UInt8:=((match (rawT e s 1).1 with| []=>0|b :: _=>b.toNat),(rawT e s 1).2.1,(rawT e s 1).2.2)
theorem rdr_l (h:RdrAt W pr s e) (hs:s.length≤1000000000) :Calls Tryz.prog 188 #[.pointer (some ⟨pr,0,none⟩)] W fun en W'=>en=.returned (.int .i64 (lT e s).1)∧RdTo W pr (lT e s).2.2 (lT e s).2.1 W':=by
 have HR:=LH (rdr_raw h 1 hs (by omega));unfold lT;clear h;generalize rawT e s 1=R at HR⊢;obtain⟨t,e1,s1⟩:=R;dsimp only at HR⊢
 match t with
 | []=>
  have hd: (([] :List UInt8) == []) =true:=rfl
  go_enter Tryz.func188,Tryz.ntmps188
  go_wp2_with fail;refine HR.out.mono ?_;rintro en w1 ⟨rfl,h1⟩;have H1:=LH h1;clear h1;go_wp2_with fail;exact bR (v:=.int .i64 0) (by simp only [results,Tryz.results188];go_simp) rfl ⟨rfl,H1.out⟩
 |b :: t=>
  have hd: ((b :: t) == ([] :List UInt8)) =false:=rfl;have hix: ∀W,(Instr.index 9 (.string ⟨(b :: t).toArray⟩) (.int .i64 0)).run Tryz.prog W=.ok (.int .u8 (b.toNat:Int)) W:=fun W=>text_at W (b :: t) 0 (by simp);have hbl:=b.toNat_lt;obtain⟨L,hL⟩ : ∃L,L=b :: t:=⟨_,rfl⟩;rw [←hL] at hd hix HR;have hLl:0<L.length:=by rw [hL];simp
  dsimp only;generalize b.toNat=n at hix hbl⊢;clear hL
  go_enter Tryz.func188,Tryz.ntmps188
  go_wp2_with fail;refine HR.out.mono ?_;rintro en w1 ⟨rfl,h1⟩;have H1:=LH h1;clear h1;go_wp2_with fail;exact bR (v:=.int .i64 n) (by simp only [results,Tryz.results188];go_simp) rfl ⟨rfl,H1.out⟩
def btwE (v:Nat) (e least most:Int) :Int:=noteE e (decide ((v:Int) <least) || decide (most< (v:Int))) 10
theorem rdr_between_number (h:RdrAt W pr s e) (hs:s.length≤1000000000) (least most:Int) :Calls Tryz.prog 187 #[.pointer (some ⟨pr,0,none⟩),.func (.func 189) #[.pointer (some ⟨pr,0,none⟩)] #[],.int .i64 least,.int .i64 most] W fun en W'=>en=.returned (.int .i64 (numT e s).1)∧RdTo W pr (numT e s).2.2 (btwE (numT e s).1 (numT e s).2.1 least most) W':=by
 have HN:=LH (rdr_number h hs);clear h;generalize numT e s=N at HN⊢;obtain⟨n,e1,s1⟩:=N;dsimp only at HN⊢;unfold btwE;by_cases h1: (n:Int) <least
 ·have h1d:decide ((n:Int) <least) =true:=by simpa using h1
  rw [h1d,Bool.true_or];clear h1
  go_enter Tryz.func187,Tryz.ntmps187
  go_wp2_with fail;refine HN.out.mono ?_;rintro en w1 ⟨rfl,h1⟩;have H1:=LH h1;clear h1;go_wp2_with fail;refine(rdr_fail H1.out.1 true 10).mono ?_;rintro en w2 ⟨rfl,h2⟩;have H2:=LH (H1.out.trans h2);clear h2;go_wp2_with fail;exact bR (v:=.int .i64 n) (by simp only [results,Tryz.results187];go_simp) rfl ⟨rfl,H2.out⟩
 ·have h1d:decide ((n:Int) <least) =false:=by simpa using h1
  rw [h1d,Bool.false_or];have h1':=h1;obtain⟨b,hb⟩ : ∃b,b=decide (most< (n:Int)):=⟨_,rfl⟩;rw [←hb];have hbi:decide (most< (n:Int)) =b:=hb.symm;clear hb h1
  go_enter Tryz.func187,Tryz.ntmps187
  go_wp2_with fail;refine HN.out.mono ?_;rintro en w1 ⟨rfl,h1⟩;have H1:=LH h1;clear h1;go_wp2_with fail;refine(rdr_fail H1.out.1 b 10).mono ?_;rintro en w2 ⟨rfl,h2⟩;have H2:=LH (H1.out.trans h2);clear h2;go_wp2_with fail;exact bR (v:=.int .i64 n) (by simp only [results,Tryz.results187];go_simp) rfl ⟨rfl,H2.out⟩
theorem rdr_between_l (h:RdrAt W pr s e) (hs:s.length≤1000000000) (least most:Int) :Calls Tryz.prog 187 #[.pointer (some ⟨pr,0,none⟩),.func (.func 188) #[.pointer (some ⟨pr,0,none⟩)] #[],.int .i64 least,.int .i64 most] W fun en W'=>en=.returned (.int .i64 (lT e s).1)∧RdTo W pr (lT e s).2.2 (btwE (lT e s).1 (lT e s).2.1 least most) W':=by
 have HN:=LH (rdr_l h hs);clear h;generalize lT e s=N at HN⊢;obtain⟨n,e1,s1⟩:=N;dsimp only at HN⊢;unfold btwE;by_cases h1: (n:Int) <least
 ·have h1d:decide ((n:Int) <least) =true:=by simpa using h1
  rw [h1d,Bool.true_or];clear h1
  go_enter Tryz.func187,Tryz.ntmps187
  go_wp2_with fail;refine HN.out.mono ?_;rintro en w1 ⟨rfl,h1⟩;have H1:=LH h1;clear h1;go_wp2_with fail;refine(rdr_fail H1.out.1 true 10).mono ?_;rintro en w2 ⟨rfl,h2⟩;have H2:=LH (H1.out.trans h2);clear h2;go_wp2_with fail;exact bR (v:=.int .i64 n) (by simp only [results,Tryz.results187];go_simp) rfl ⟨rfl,H2.out⟩
 ·have h1d:decide ((n:Int) <least) =false:=by simpa using h1
  rw [h1d,Bool.false_or];have h1':=h1;obtain⟨b,hb⟩ : ∃b,b=decide (most< (n:Int)):=⟨_,rfl⟩;rw [←hb];have hbi:decide (most< (n:Int)) =b:=hb.symm;clear hb h1
  go_enter Tryz.func187,Tryz.ntmps187
  go_wp2_with fail;refine HN.out.mono ?_;rintro en w1 ⟨rfl,h1⟩;have H1:=LH h1;clear h1;go_wp2_with fail;refine(rdr_fail H1.out.1 b 10).mono ?_;rintro en w2 ⟨rfl,h2⟩;have H2:=LH (H1.out.trans h2);clear h2;go_wp2_with fail;exact bR (v:=.int .i64 n) (by simp only [results,Tryz.results187];go_simp) rfl ⟨rfl,H2.out⟩
end
def PtAt (W:World) (pp:Nat) (l k kd n:Int) (A:Option Addr) (m c:Nat) :Prop:=W.heap[pp]? =some (.cells #[.int .i64 l,.int .i64 k,.int .i64 kd,.int .i64 n,.slice A m c] 212 (0,0))
theorem read_right {W:World} {pp:Nat} {l k kd n:Int} {A:Option Addr} {m c:Nat} (h:PtAt W pp l k kd n A m c) (id:Int) :Calls Tryz.prog 191 #[.int .i64 id,.pointer (some ⟨pp,0,none⟩)] W fun en W'=>en=.returned (.bool (isNode l id))∧Below W.heap.size W W':=by
 have HT:=LH (twig_Right W l id);have ce:=bC h;have ze:=lB h;clear h
 go_enter Tryz.func191,Tryz.ntmps191
 go_wp2_with fail;refine HT.out.mono ?_;rintro en w1 ⟨rfl,h1⟩;go_wp2_with fail;exact bR (v:=.bool (isNode l id)) (by simp only [results,Tryz.results191];go_simp) rfl ⟨rfl,h1⟩
def okE (l er:Int) (L:List Int) :Int:=if er≠0 then er else if (L.all fun id=>isNode l id) =true then 0 else 10
def idsT (l:Int) (e:Int) (s:List UInt8) (most:Int) :List Int×Int×List UInt8:=
 if e=0 then ((fallB s most).1,okE l (fallB s most).2.2 (fallB s most).1,s.drop (fallB s most).2.1) else ([],e,s)
def IdsPost (pr:Nat) (R:List Int×Int×List UInt8) (w:World) (en:Ending) (w':World) :Prop:=
 ∃A c,en=.returned (.slice A R.1.length c)∧Own w' w.heap.size 3 encZ (.slice A R.1.length c) R.1∧RdTo w pr R.2.2 R.2.1 w'
theorem all_take {l:Int} {L:List Int} {q:Nat} (h:q<L.length) : ((L.take (q+1)).all fun id=>isNode l id) = (((L.take q).all fun id=>isNode l id) && isNode l L[q]):=by
 rw [List.take_succ_eq_append_getElem h,List.all_append];simp
theorem rdr_ids {w:World} {pr pp:Nat} {s:List UInt8} {e:Int} {l k kd n:Int} {A0:Option Addr} {m0 c0:Nat} (h:RdrAt w pr s e) (hp:PtAt w pp l k kd n A0 m0 c0) (hne:pp≠pr) (most:Int) (hm:e=0→0≤most∧most≤67108800) (hs:s.length≤1000000000) :
 Calls Tryz.prog 190 #[.pointer (some ⟨pr,0,none⟩),.int .i64 most,.func (.func 191) #[] #[.pointer (some ⟨pp,0,none⟩)]] w (IdsPost pr (idsT l e s most) w):=by
 have HS:=LH (RdTo.same h);have HPt:=LH hp;have HZ:=LH (lB h);have ce:=bC h;have ze:=lB h;unfold idsT;by_cases h0:e=0
 ·rw [if_pos h0]
  obtain⟨hm0,hm1⟩:=hm h0;subst h0;have HFa:=LH (vary_Falls w s most hs hm1 (by omega));unfold FallsPost at HFa;have HFb:=LH (fallB_bounds s most);have htd:=text_drop s (fallB s most).2.1;generalize s.drop (fallB s most).2.1=d at htd⊢;generalize fallB s most=f at HFa HFb htd⊢;obtain⟨ids,z,er⟩:=f;dsimp only at HFa HFb htd⊢;have hz:=HFb.out.1
  have HN:Hid (noteE 0 (er != 0) er=er):=LH (by
   unfold noteE;by_cases h:er=0
   ·rw [h];simp
   ·rw [if_pos ⟨by simpa using h,rfl⟩])
  have HEr:Hid (er≠0→ids= []):=LH fun q=>(HFb.out.2.2.1 q).1;have hil:ids.length≤67108800:=by have:=HFb.out.2.2.2;omega
  clear h hp hm
  go_enter Tryz.func190,Tryz.ntmps190
  go_wp2_with fail;refine HFa.out.mono ?_;rintro en w1 ⟨A,c,rfl,ho,hb1⟩;have S1:=LH (HS.out.then_ hb1);have O1:=LH ho;have hw1:=hb1.size;clear hb1 ho HFa HS ce ze;go_wp2_with fail;refine(rdr_fail S1.out.1 (er != 0) er).mono ?_;rintro en w2 ⟨rfl,h2⟩;rw [HN.out] at h2;have S2:=LH (S1.out.trans h2);have O2:=LH (h2.2.own O1.out fun b hb q=>by have h3:=(O1.out.lt b hb).1;have h4:=HZ.out;omega);have hw2:=h2.2.size;clear h2 S1 O1;have ce:=bC S2.out.1;have fe:=bF S2.out.1;have ze:=lB S2.out.1;have S3:=LH (S2.out.setS (s2:=d));have O3:=LH (O2.out.setCell (p:=⟨pr,0,none⟩) (fun q=>by have h3:=(O2.out.lt pr q).1;have h4:=HZ.out;omega) (.string ⟨d.toArray⟩));go_upto_region 6 with fail;generalize w2.setCell ⟨pr,0,none⟩ (.string ⟨d.toArray⟩) =w3 at S3 O3⊢;clear ce fe ze S2 O2 HN HFb htd;go_wp2_with fail
  go_loopw [11,43] (fun _ i wr=>∃q:Nat,i=.int .i64 q∧q≤ids.length∧RdTo w pr d (okE l er (ids.take q)) wr∧Turn (fun b=>b=pr) w3 wr) (fun _ i _=>ids.length - (intOf i).toNat)
  case atStart=>exact⟨0,rfl,Nat.zero_le _,by
   have h5:okE l er (ids.take 0) =er:=by
    unfold okE;by_cases h:er=0
    ·rw [if_neg (by simpa using h),if_pos (by simp),h]
    ·rw [if_pos h]
   rw [h5];exact S3.out,.refl _ _⟩
  case round=>
   obtain⟨q,rfl,hq,hR,hT⟩:=hrel;have RR:=LH hR;have TT:=LH hT;have HOr:=LH (hT.own O3.out fun b hb q=>by have h3:=(O3.out.lt b hb).1;have h4:=HZ.out;omega);have HPr:=LH (show PtAt wr pp l k kd n A0 m0 c0 from hR.2.keep HPt.out hne);clear hR hT;by_cases hlt:q<ids.length
   ·have hqi: (q:Int) < (ids.length:Int):=by omega
    have her:er=0:=by
     by_cases h:er=0
     ·exact h
     ·have h2:=HEr.out h
      rw [h2] at hlt;simp at hlt
    have HE0:=LH her;clear her;have HAl:=LH (all_take (l:=l) hlt);obtain⟨b,off,rfl,hb,hc⟩:=HOr.out.sl.at_ hlt;have d0:=hc 0 (.int .i64 ids[q]) rfl;simp only [Nat.mul_one,Nat.add_zero] at d0;have zb:=cell_lt d0;generalize ids[q] =id at HAl d0;have HRi:=LH (read_right HPr.out id);generalize isNode l id=bi at HAl HRi;obtain⟨eq,heq⟩ : ∃x,x=okE l er (ids.take q):=⟨_,rfl⟩;rw [←heq] at RR
    have HEq:Hid (noteE eq (!bi) 10=okE l er (ids.take (q+1))):=LH (by
     rw [heq,HE0.out];unfold okE;rw [HAl.out];generalize ((ids.take q).all fun id=>isNode l id) =z;unfold noteE
     cases z <;> cases bi <;> simp)
    clear hc heq HAl;go_wp2_with fail;refine HRi.out.mono ?_;rintro en w4 ⟨rfl,hb4⟩;have R4:=LH (RR.out.then_ hb4);have T4:=LH (TT.out.more hb4);clear hb4 RR TT HRi d0 zb;go_wp2_with fail;refine(rdr_fail R4.out.1 (!bi) 10).mono ?_;rintro en w5 ⟨rfl,h5⟩;have R5:=LH (R4.out.trans h5);have T5:=LH (T4.out.trans h5.2 fun b hb=>.inl hb);clear h5 R4 T4;rw [HEq.out] at R5;go_wp2_with fail;go_roundw
    case rel=>exact⟨q+1,by go_num,by omega,R5.out,T5.out⟩
    case measure=>simp [intOf];omega
   ·obtain rfl:q=ids.length:=by omega
    have hqi:decide ((ids.length:Int) < (ids.length:Int)) =false:=by simp
    rw [List.take_length] at RR;obtain⟨ex,hex⟩ : ∃x,x= (okE l er ids):=⟨_,rfl⟩;rw [←hex] at RR;have HX:=LH hex;have HO:=LH HOr.out;clear hex TT HPr HOr O3 S3 HPt HEr HZ hw1 hw2;go_wp2_with fail;rw [HX.out] at RR;exact bR (v:=.slice A ids.length c) (by simp only [results,Tryz.results190];go_simp) rfl (show IdsPost pr (ids,(okE l er ids),d) w _ _ from⟨A,c,rfl,HO.out,RR.out⟩)
 ·rw [if_neg h0]
  have h0i: (e == 0) =false:=by simpa using h0
  clear h h0 hp hm
  go_enter Tryz.func190,Tryz.ntmps190
  go_wp2_with fail;exact bR (v:=.slice none 0 0) (by simp only [results,Tryz.results190];go_simp) rfl (show IdsPost pr ([],e,s) w _ _ from⟨none,0,rfl,Own.nil _ _ _ _,HS.out⟩)
def cntP:List Int→List UInt8→Int→Int→List Nd→List Nd×List UInt8×Int×Int
 | [],s,e,left,out=>(out,s,e,left)
 |id :: ids,s,e,left,out=>
  if btwE (numT e s).1 (numT e s).2.1 1 left≠0 then (out ++ [(id,((numT e s).1:Int))],(numT e s).2.2,btwE (numT e s).1 (numT e s).2.1 1 left,left - ((numT e s).1:Int))
  else cntP ids (numT e s).2.2 (btwE (numT e s).1 (numT e s).2.1 1 left) (left - ((numT e s).1:Int)) (out ++ [(id,((numT e s).1:Int))])
def q4 (l k n:Nat) (C:List Nd×List UInt8×Int×Int) :Read4:=
 if noteE (noteE C.2.2.1 (decide (C.2.1≠ [])) 11) (decide (0<C.2.2.2)) 10≠0 then noRd (noteE (noteE C.2.2.1 (decide (C.2.1≠ [])) 11) (decide (0<C.2.2.2)) 10) else if lightOf l C.1 (k:Int) =false then noRd 13 else ((l,(k:Int),(n:Int),C.1),0)
def q3 (l k n:Nat) (e:Int) (s:List UInt8) :Read4:=q4 l k n (cntP (idsT l e s (8* (k:Int))).1 (idsT l e s (8* (k:Int))).2.2 (idsT l e s (8* (k:Int))).2.1 (n:Int) [])
def q2 (l k:Nat) (e:Int) (s:List UInt8) :Read4:=q3 l k (numT e s).1 (btwE (numT e s).1 (numT e s).2.1 0 72057594037927935) (numT e s).2.2
def q1 (l:Nat) (e:Int) (s:List UInt8) :Read4:=q2 l (numT e s).1 (btwE (numT e s).1 (numT e s).2.1 1 1048576) (numT e s).2.2
def q0 (e:Int) (s:List UInt8) :Read4:=q1 (lT e s).1 (btwE (lT e s).1 (lT e s).2.1 1 48) (lT e s).2.2
def qS (e:Int) (s:List UInt8) :Read4:=q0 (noteE (rawT e s 4).2.1 (!((rawT e s 4).1 == [68,87,80,1])) 10) (rawT e s 4).2.2
theorem btw_ne {v:Nat} {e a b:Int} (h:e≠0) :btwE v e a b=e:=note_ne h
theorem btw_zero {v:Nat} {a b:Int} :btwE v 0 a b=if (v:Int) <a∨b< (v:Int) then 10 else 0:=by
 unfold btwE;rw [note_zero];by_cases h: (v:Int) <a∨b< (v:Int)
 ·rw [if_pos h,if_pos (by simpa using h)]
 ·rw [if_neg h,if_neg (by simpa using h)]
theorem cntP_ne: ∀(ids:List Int) (s:List UInt8) (e left:Int) (out:List Nd),e≠0→(cntP ids s e left out).2.2.1=e:=by
 intro ids s e left out h
 cases ids with
 |nil=>rfl
 |cons id ids=>
  unfold cntP;rw [num_ne h];dsimp only;rw [btw_ne h,if_pos h]
theorem q4_ne {l k n:Nat} {C:List Nd×List UInt8×Int×Int} (h:C.2.2.1≠0) :q4 l k n C=noRd C.2.2.1:=by
 unfold q4;rw [note_ne h,note_ne h,if_pos h]
theorem q3_ne {l k n:Nat} {e:Int} {s:List UInt8} (h:e≠0) :q3 l k n e s=noRd e:=by
 unfold q3 idsT;rw [if_neg h];rw [q4_ne (by rw [cntP_ne _ _ _ _ _ h];exact h),cntP_ne _ _ _ _ _ h]
theorem q2_ne {l k:Nat} {e:Int} {s:List UInt8} (h:e≠0) :q2 l k e s=noRd e:=by unfold q2;rw [num_ne h];dsimp only;rw [btw_ne h];exact q3_ne h
theorem q1_ne {l:Nat} {e:Int} {s:List UInt8} (h:e≠0) :q1 l e s=noRd e:=by unfold q1;rw [num_ne h];dsimp only;rw [btw_ne h];exact q2_ne h
theorem raw_ne {e:Int} {s:List UInt8} {n:Nat} (h:e≠0) :rawT e s n= ([],e,s):=by unfold rawT;rw [note_ne h,if_neg h]
theorem q0_ne {e:Int} {s:List UInt8} (h:e≠0) :q0 e s=noRd e:=by unfold q0 lT;rw [raw_ne h];dsimp only;rw [btw_ne h];exact q1_ne h
theorem qS_ne {e:Int} {s:List UInt8} (h:e≠0) :qS e s=noRd e:=by unfold qS;rw [raw_ne h];dsimp only;rw [note_ne h];exact q0_ne h
theorem cntP_eq: ∀(ids:List Int) (s:List UInt8) (left:Int) (out:List Nd),
 ((cntF ids s left out).2.2.2≠0→(cntP ids s 0 left out).2.2.1= (cntF ids s left out).2.2.2)∧
 ((cntF ids s left out).2.2.2=0→cntP ids s 0 left out= ((cntF ids s left out).1,(cntF ids s left out).2.1,0,(cntF ids s left out).2.2.1)):=by
 intro ids
 induction ids with
 |nil=>intro s left out;exact⟨fun h=>absurd rfl h,fun _=>rfl⟩
 |cons id ids ih=>
  intro s left out;unfold cntP cntF;simp only;rw [num_zero];dsimp only;by_cases h: (getB s).2.2=0
  ·rw [if_neg (by simpa using h),h,btw_zero]
   by_cases h1: (getB s).1=0∨left< ((getB s).1:Int)
   ·have hb: (if ((getB s).1:Int) <1∨left< ((getB s).1:Int) then (10:Int) else 0) =10:=if_pos (by omega)
    rw [if_pos h1,hb,if_pos (by decide)];exact⟨fun _=>rfl,fun h=>absurd h (by decide)⟩
   ·have hb: (if ((getB s).1:Int) <1∨left< ((getB s).1:Int) then (10:Int) else 0) =0:=if_neg (by omega)
    rw [if_neg h1,hb,if_neg (by decide)];exact ih _ _ _
  ·rw [if_pos (by simpa using h),btw_ne h,if_pos h]
   exact⟨fun _=>rfl,fun q=>absurd q h⟩
theorem q3_eq (l k n:Nat) (s:List UInt8) :q3 l k n 0 s=rd3 l k n (fallB s (8* (k:Int))) s:=by
 unfold q3 rd3 idsT;rw [if_pos rfl];dsimp only;generalize fallB s (8* (k:Int)) =f;by_cases h:f.2.2=0
 ·have hr: ¬(f.2.2≠0):=fun q=>q h
  rw [if_neg hr]
  cases ha:f.1.all fun id=>isNode (l:Int) id
  ·have hok:okE (l:Int) f.2.2 f.1=10:=by unfold okE;rw [if_neg hr,if_neg (by rw [ha];simp)]
   rw [hok,if_pos rfl,q4_ne (by rw [cntP_ne _ _ _ _ _ (by decide)];decide),cntP_ne _ _ _ _ _ (by decide)]
  ·have hok:okE (l:Int) f.2.2 f.1=0:=by unfold okE;rw [if_neg hr,if_pos ha]
   rw [hok,if_neg (by simp)];have hc:=cntP_eq f.1 (s.drop f.2.1) (n:Int) [];generalize cntF f.1 (s.drop f.2.1) (n:Int) [] =c at hc⊢;unfold rd4;by_cases h2:c.2.2.2=0
   ·have h2n: ¬(c.2.2.2≠0):=fun q=>q h2
    rw [hc.2 h2,if_neg h2n];unfold q4;dsimp only;rw [note_zero];by_cases h3:c.2.1= []
    ·have h3n: ¬(c.2.1≠ []):=fun q=>q h3
     have h3d:decide (c.2.1≠ []) =false:=by simpa using h3
     rw [if_neg h3n,h3d,if_neg (show ¬(false=true) by simp),note_zero];by_cases h4:0<c.2.2.1
     ·rw [if_pos h4,decide_eq_true h4,if_pos (show (true=true) from rfl),if_pos (by decide)]
     ·rw [if_neg h4,decide_eq_false h4,if_neg (show ¬(false=true) by simp),if_neg (show ¬((0:Int)≠0) by simp)]
    ·have h3p:c.2.1≠ []:=h3
     rw [if_pos h3p,decide_eq_true h3p,if_pos (show (true=true) from rfl),note_ne (by decide),if_pos (by decide)]
   ·have h2p:c.2.2.2≠0:=h2
    rw [if_pos h2p,q4_ne (by rw [hc.1 h2];exact h2),hc.1 h2]
 ·have hp:f.2.2≠0:=h
  have hok:okE (l:Int) f.2.2 f.1=f.2.2:=by unfold okE;rw [if_pos hp]
  rw [hok,if_pos hp,q4_ne (by rw [cntP_ne _ _ _ _ _ h];exact h),cntP_ne _ _ _ _ _ h]
theorem q2_eq (l k:Nat) (s:List UInt8) :q2 l k 0 s=rd2 l k (getB s) s:=by
 unfold q2 rd2;rw [num_zero];dsimp only;by_cases h: (getB s).2.2=0
 ·rw [if_neg (by simpa using h),h,btw_zero]
  by_cases h1:72057594037927935< (getB s).1
  ·rw [if_pos h1,if_pos (by omega)];exact q3_ne (by decide)
  ·rw [if_neg h1,if_neg (by omega)];exact q3_eq ..
 ·rw [if_pos (by simpa using h),btw_ne h];exact q3_ne h
theorem q1_eq (l:Nat) (s:List UInt8) :q1 l 0 s=rd1 l (getB s) s:=by
 unfold q1 rd1;rw [num_zero];dsimp only;by_cases h: (getB s).2.2=0
 ·rw [if_neg (by simpa using h),h,btw_zero]
  by_cases h1: (getB s).1<1∨1048576< (getB s).1
  ·rw [if_pos h1,if_pos (by omega)];exact q2_ne (by decide)
  ·rw [if_neg h1,if_neg (by omega)];exact q2_eq ..
 ·rw [if_pos (by simpa using h),btw_ne h];exact q2_ne h
theorem q0_eq (s:List UInt8) :q0 0 s=rd0 s:=by
 unfold q0 rd0 lT rawT
 cases s with
 |nil=>simp only [note_zero];exact q1_ne (by decide)
 |cons b s0=>
  have e1:noteE 0 (decide ((b :: s0).length<1)) 9=0:=by rw [note_zero,if_neg (by simp)]
  rw [e1,if_pos rfl];dsimp only [List.take_succ_cons,List.take_zero,List.drop_succ_cons,List.drop_zero];rw [btw_zero];by_cases h1:b.toNat<1∨48<b.toNat
  ·rw [if_pos h1,if_pos (by omega)];exact q1_ne (by decide)
  ·rw [if_neg h1,if_neg (by omega)];exact q1_eq ..
theorem readP_eq (s:List UInt8) :qS (openT s).2 (openT s).1=readW s:=by
 rw [readW_rd];unfold rdW;generalize openT s=o;by_cases h:o.2=0
 ·rw [if_neg (by simpa using h),h]
  unfold qS rawT;by_cases h4:o.1.length<4
  ·have e1:noteE 0 (decide (o.1.length<4)) 9=9:=by rw [note_zero,if_pos (by simpa using h4)]
   rw [if_pos h4,e1,if_neg (by decide)];dsimp only;rw [note_ne (by decide)];exact q0_ne (by decide)
  ·have e1:noteE 0 (decide (o.1.length<4)) 9=0:=by rw [note_zero,if_neg (by simpa using h4)]
   rw [if_neg h4,e1,if_pos rfl];dsimp only;rw [note_zero];by_cases hm:o.1.take 4= [68,87,80,1]
   ·have hmn: ¬(o.1.take 4≠ [68,87,80,1]):=fun q=>q hm
    have hmd: (!(o.1.take 4 == [68,87,80,1])) =false:=by rw [hm];rfl
    rw [if_neg hmn,hmd,if_neg (show ¬(false=true) by simp)];exact q0_eq _
   ·have hmp:o.1.take 4≠ [68,87,80,1]:=hm
    have hmd: (!(o.1.take 4 == [68,87,80,1])) =true:=by simpa using hm
    rw [if_pos hmp,hmd,if_pos (show (true=true) from rfl)];exact q0_ne (by decide)
 ·rw [if_pos (by simpa using h)];exact qS_ne h
theorem SlT.grownO {α β:Type} {size s2:Nat} {W W':World} {e e2 base:Nat} {E:Enc α size} {E2:Enc β s2} {A:Option Addr} {l:List α} {l2:List β} {v:Value} (h:SlT W e E A l) (ho:Own W base e2 E2 v l2) (hg:W.grownBy W' v.ownBlock) (hne:e≠e2) :SlT W' e E A l:=by
 rcases h with h| ⟨b,off,hA,hT,hc⟩
 ·exact .inl h
 ·obtain⟨cs,fr,h1⟩:=hT
  have hb:=ho.ne_block h1 (Ne.symm hne);have hblk:=hg.block b (lB h1) (Ne.symm hb);exact .inr ⟨b,off,hA,⟨cs,fr,hblk.trans h1⟩,fun i x hi j u hj=>(World.cell?_of_block hblk).trans (hc i x hi j u hj)⟩
def ReadPost (s:List UInt8) (w:World) (e:Ending) (w':World) :Prop:=
 ∃A c,e=.returned (.tuple #[.agg #[.int .i64 (readW s).1.1,.int .i64 (readW s).1.2.1,.int .i64 0,.int .i64 (readW s).1.2.2.1,.slice A (readW s).1.2.2.2.length c],.int .i64 (readW s).2])∧SlT w' 154 encN A (readW s).1.2.2.2∧Below w.heap.size w w'
theorem ReadPost.no {s:List UInt8} {w w':World} {er:Int} (h:readW s=noRd er) (hb:Below w.heap.size w w') :ReadPost s w (.returned (.tuple #[.agg #[.int .i64 0,.int .i64 0,.int .i64 0,.int .i64 0,.slice none 0 0],.int .i64 er])) w':=by
 unfold ReadPost;rw [h];exact⟨none,0,rfl,.nil,hb⟩
theorem ReadPost.ok {s:List UInt8} {w w':World} {l k n:Nat} {r:List Nd} {A:Option Addr} {c:Nat} (h:readW s= ((l,(k:Int),(n:Int),r),0)) (hs:SlT w' 154 encN A r) (hb:Below w.heap.size w w') :ReadPost s w (.returned (.tuple #[.agg #[.int .i64 l,.int .i64 k,.int .i64 0,.int .i64 n,.slice A r.length c],.int .i64 0])) w':=by
 unfold ReadPost;rw [h];exact⟨A,c,rfl,hs,hb⟩
structure PrS (w:World) (pr pp:Nat) (s:List UInt8) (e:Int) (l k n:Int) (L:List Nd) (A:Option Addr) (c:Nat) (W:World) :Prop where
 z:W.heap[w.heap.size]? =some (.cells #[.int .i64 0,.int .i64 0,.int .i64 0,.int .i64 0,.slice none 0 0] 212 (0,0))
 r:RdrAt W pr s e
 p:PtAt W pp l k 0 n A L.length c
 o:Own W w.heap.size 154 encN (.slice A L.length c) L
 b:Below w.heap.size w W
 h1:w.heap.size<pr
 h2:pr<pp
section
variable {w W W':World} {pr pp:Nat} {s s2:List UInt8} {e e2 l k n l2 k2 n2:Int} {L L2:List Nd} {A A2:Option Addr} {c c2:Nat}
theorem PrS.below (h:PrS w pr pp s e l k n L A c W) (hb:Below W.heap.size W W') :PrS w pr pp s e l k n L A c W':=
 ⟨bB h.z hb,h.r.below hb,bB h.p hb,h.o.below hb,h.b.trans (hb.mono h.b.size),h.h1,h.h2⟩
theorem PrS.rd (h:PrS w pr pp s e l k n L A c W) (hr:RdTo W pr s2 e2 W') :PrS w pr pp s2 e2 l k n L A c W':=by
 have q1:=h.h1;have q2:=h.h2;exact⟨hr.2.keep h.z (by omega),hr.1,hr.2.keep h.p (by omega),hr.2.own h.o fun b hb q=>h.o.ne_block h.r (by decide) (by rw [hb,q]),h.b.trans (hr.2.below (fun b hb=>by omega) h.b.size),q1,q2⟩
theorem PrS.setP (h:PrS w pr pp s e l k n L A c W) {i:Nat} {u:Value} (hn:PtAt (W.setCell ⟨pp,i,none⟩ u) pp l2 k2 0 n2 A2 L2.length c2) (ho:Own W w.heap.size 154 encN (.slice A2 L2.length c2) L2) :PrS w pr pp s e l2 k2 n2 L2 A2 c2 (W.setCell ⟨pp,i,none⟩ u):=by
 have q1:=h.h1;have q2:=h.h2;exact⟨(Below.heap_setCell _ _ _ _ (by simp;omega)).trans h.z,(Below.heap_setCell _ _ _ _ (by simp;omega)).trans h.r,hn,ho.setCell (p:=⟨pp,i,none⟩) (ho.ne_block h.p (by decide)) u,h.b.setCell (p:=⟨pp,i,none⟩) (by simp;omega) u,q1,q2⟩
end
theorem PrS.push {w W W':World} {pr pp:Nat} {s:List UInt8} {e l k n:Int} {L L2:List Nd} {A A2:Option Addr} {c c2:Nat} (h:PrS w pr pp s e l k n L A c W) (hg:W.grownBy W' (Value.slice A L.length c).ownBlock) (ho:Own W' w.heap.size 154 encN (.slice A2 L2.length c2) L2) (hb:Below w.heap.size W W') :
 PrS w pr pp s e l k n L2 A2 c2 (W'.setCell ⟨pp,4,none⟩ (.slice A2 L2.length c2)):=by
 have q1:=h.h1;have q2:=h.h2;have z1:=blk_grown_not h.z hg (h.o.ne_block h.z (by decide));have r1:=blk_grown_not (o:=.cells #[.string ⟨s.toArray⟩,.int .i64 e] 246 (0,0)) h.r hg (h.o.ne_block h.r (by decide));have p1:PtAt W' pp l k 0 n A L.length c:=blk_grown_not h.p hg (h.o.ne_block h.p (by decide));exact⟨(Below.heap_setCell _ _ _ _ (by simp;omega)).trans z1,(Below.heap_setCell _ _ _ _ (by simp;omega)).trans r1,zH (i:=4) p1 _,ho.setCell (p:=⟨pp,4,none⟩) (ho.ne_block p1 (by decide)) _,(h.b.trans hb).setCell (p:=⟨pp,4,none⟩) (by simp;omega) _,q1,q2⟩
theorem pt_store {W:World} {q:Nat} {a b c d f:Value} (h:W.heap[q]? =some (.cells #[a,b,c,d,f] 212 (0,0))) (u v x y z:Value) : (((((W.setCell ⟨q,0,none⟩ u).setCell ⟨q,1,none⟩ v).setCell ⟨q,2,none⟩ x).setCell ⟨q,3,none⟩ y).setCell ⟨q,4,none⟩ z).heap[q]? =some (.cells #[u,v,x,y,z] 212 (0,0)):=by
 have h0:=zH (i:=0) h u;have h1:=zH (i:=1) h0 v;have h2:=zH (i:=2) h1 x;have h3:=zH (i:=3) h2 y;exact zH (i:=4) h3 z
theorem pt_below {w W:World} {q:Nat} (h:Below w.heap.size w W) (hq:w.heap.size≤q) (u v x y z:Value) :Below w.heap.size w (((((W.setCell ⟨q,0,none⟩ u).setCell ⟨q,1,none⟩ v).setCell ⟨q,2,none⟩ x).setCell ⟨q,3,none⟩ y).setCell ⟨q,4,none⟩ z):=((((h.setCell (p:=⟨q,0,none⟩) hq u).setCell (p:=⟨q,1,none⟩) hq v).setCell (p:=⟨q,2,none⟩) hq x).setCell (p:=⟨q,3,none⟩) hq y).setCell (p:=⟨q,4,none⟩) hq z
theorem pt_slT {W:World} {q:Nat} {cs:Array Value} {A:Option Addr} {L:List Nd} (h:W.heap[q]? =some (.cells cs 212 (0,0))) (s:SlT W 154 encN A L) (u v x y z:Value) :SlT (((((W.setCell ⟨q,0,none⟩ u).setCell ⟨q,1,none⟩ v).setCell ⟨q,2,none⟩ x).setCell ⟨q,3,none⟩ y).setCell ⟨q,4,none⟩ z) 154 encN A L:=by
 have t0:TypeAt W q 212:=.of h;have s0:=s.setCellT (p:=⟨q,0,none⟩) (u:=u) (t:=212) t0 (by decide);have t1:=TypeAt.setCell (p:=⟨q,0,none⟩) (u:=u) t0;have s1:=s0.setCellT (p:=⟨q,1,none⟩) (u:=v) (t:=212) t1 (by decide);have t2:=TypeAt.setCell (p:=⟨q,1,none⟩) (u:=v) t1;have s2:=s1.setCellT (p:=⟨q,2,none⟩) (u:=x) (t:=212) t2 (by decide);have t3:=TypeAt.setCell (p:=⟨q,2,none⟩) (u:=x) t2;have s3:=s2.setCellT (p:=⟨q,3,none⟩) (u:=y) (t:=212) t3 (by decide);have t4:=TypeAt.setCell (p:=⟨q,3,none⟩) (u:=y) t3;exact s3.setCellT (p:=⟨q,4,none⟩) (u:=z) (t:=212) t4 (by decide)
theorem btw_back {v:Nat} {e a b:Int} (h:btwE v e a b=0) :e=0∧a≤(v:Int)∧(v:Int)≤b:=by
 by_cases h0:e=0
 ·subst h0
  rw [btw_zero] at h
  split at h
  ·cases h
  ·exact⟨rfl,by omega,by omega⟩
 ·rw [btw_ne h0] at h;exact absurd h h0
theorem note_back {e f:Int} {b:Bool} (h:noteE e b f=0) (hf:f≠0) :e=0∧b=false:=by
 unfold noteE at h
 split at h
 ·exact absurd h hf
 ·rename_i q
  refine⟨h,?_⟩
  cases b
  ·rfl
  ·exact absurd ⟨rfl,h⟩ q
theorem num_back {e:Int} {s:List UInt8} (h: (numT e s).2.1=0) :e=0:=by
 by_cases h0:e=0
 ·exact h0
 ·rw [num_ne h0] at h;exact absurd h h0
theorem idsT_wrap (l e:Int) (s:List UInt8) {a b:Int} (h:e=0→a=b) :idsT l e s a=idsT l e s b:=by
 by_cases h0:e=0
 ·rw [h h0]
 ·unfold idsT;rw [if_neg h0,if_neg h0]
theorem idsT_len (l e:Int) (s:List UInt8) {m:Int} (h:e=0→m≤8388608) : (idsT l e s m).1.length≤8388608∧(idsT l e s m).2.2.length≤s.length:=by
 unfold idsT
 split
 ·rename_i h0
  have h1:=(fallB_bounds s m).2.2.2;have h2:=h h0;exact⟨by dsimp only;omega,by simp⟩
 ·exact⟨by simp,Nat.le_refl _⟩
theorem raw_len (e:Int) (s:List UInt8) (n:Nat) : (rawT e s n).2.2.length≤s.length:=by
 unfold rawT
 split
 ·rw [List.length_drop];omega
 ·exact Nat.le_refl _
theorem lT_len (e:Int) (s:List UInt8) : (lT e s).2.2.length≤s.length:=raw_len e s 1
theorem lT_le (e:Int) (s:List UInt8) : (lT e s).1≤255:=by
 unfold lT;dsimp only
 split
 ·omega
 ·rename_i b _ _
  have:=b.toNat_lt;omega
theorem q_fits {l k n:Nat} {e:Int} {s:List UInt8} (he:e=0→(1≤l∧l≤48)∧n≤72057594037927935) (h: (cntP (idsT l e s (8* (k:Int))).1 (idsT l e s (8* (k:Int))).2.2 (idsT l e s (8* (k:Int))).2.1 (n:Int) []).2.2.1=0) :
 e=0∧Fits l (cntP (idsT l e s (8* (k:Int))).1 (idsT l e s (8* (k:Int))).2.2 (idsT l e s (8* (k:Int))).2.1 (n:Int) []).1:=by
 have hI: (idsT l e s (8* (k:Int))).2.1=0:=by
  by_cases q: (idsT l e s (8* (k:Int))).2.1=0
  ·exact q
  ·rw [cntP_ne _ _ _ _ _ q] at h;exact absurd h q
 have h0:e=0:=by
  by_cases q:e=0
  ·exact q
  ·unfold idsT at hI;rw [if_neg q] at hI;exact absurd hI q
 refine⟨h0,?_⟩;obtain⟨hl,hn⟩:=he h0;subst h0;have fr:=fallB_rise s (8* (k:Int));have fb:=fallB_bounds s (8* (k:Int));unfold idsT at h hI⊢;rw [if_pos rfl] at h hI⊢;dsimp only at h hI⊢;rw [hI] at h⊢;generalize fallB s (8* (k:Int)) =f at h hI fr fb⊢
 have ha: (f.1.all fun id=>isNode (l:Int) id) =true:=by
  unfold okE at hI
  split at hI
  ·rename_i q;exact absurd hI q
  ·split at hI
   ·rename_i q;exact q
   ·cases hI
 have hc:=cntP_eq f.1 (s.drop f.2.1) (n:Int) [];by_cases h2: (cntF f.1 (s.drop f.2.1) (n:Int) []).2.2.2=0
 ·rw [hc.2 h2]
  exact(cnt_fits hl hn fr (fun x hx=>(fb.2.1 x hx).1) ha h2).1
 ·rw [hc.1 h2] at h;exact absurd h h2
theorem slT_rd {α:Type} {size:Nat} {W W':World} {pr:Nat} {s s2:List UInt8} {e e2:Int} {E:Enc α size} {A:Option Addr} {l:List α} {ty:TypeId} (h:SlT W ty E A l) (hr:RdrAt W pr s e) (ht:RdTo W pr s2 e2 W') (hne:ty≠246:=by decide) :SlT W' ty E A l:=
 h.turn ht.2 fun b hb q=>by
  subst q;obtain⟨cs,fr,hcs⟩:=hb;rw [show W.heap[b]? =_ from hr] at hcs
  injection hcs with hcs
  injection hcs with _ h2
  exact hne h2.symm
theorem wire_read (w:World) (s:List UInt8) (hs:s.length≤8000000) :
 Calls Tryz.prog 153 #[.string ⟨s.toArray⟩] w (ReadPost s w):=by
 have HP0:=LH (readP_eq s).symm;have HOp:=LH (fun W=>seal_Open W s hs);unfold OpenPost at HOp;have hol:=openT_len s;generalize openT s=oo at HP0 HOp hol;obtain⟨t,e0⟩:=oo;dsimp only at HP0 HOp hol;have hts:t.length≤8000000:=by omega
 obtain⟨D,hD⟩ : ∃D,D=readW s:=⟨_,rfl⟩;rw [←hD] at HP0;have HD:=LH hD;clear hol hs hD;have r0:=LH (heap_alloc_new w (.cells #[.int .i64 0,.int .i64 0,.int .i64 0,.int .i64 0,.slice none 0 0] 212));have b0:Hid (Below w.heap.size w (w.alloc (.cells #[.int .i64 0,.int .i64 0,.int .i64 0,.int .i64 0,.slice none 0 0] 212))):=LH bE
 go_enter Tryz.func153,Tryz.ntmps153
 go_upto_region 1 with fail;generalize w.alloc (.cells #[.int .i64 0,.int .i64 0,.int .i64 0,.int .i64 0,.slice none 0 0] 212) =W0 at r0 b0⊢;go_wp2_with fail;refine(HOp.out W0).mono ?_;rintro en w1 ⟨rfl,hb1⟩;have al:=hb1.trans (((Below.refl w1.heap.size w1).alloc (Nat.le_refl _) (.cells #[.string ⟨t.toArray⟩,.int .i64 e0] 246)).mono hb1.size);have r1:=LH (bB r0.out al);have b1:=LH (Below.then_ b0.out al);have c1:=LH (heap_alloc_new w1 (.cells #[.string ⟨t.toArray⟩,.int .i64 e0] 246));have hp1:w.heap.size<w1.heap.size:=by have h1:=lB r0.out;have h2:=hb1.size;omega
 clear hb1 al r0 b0 HOp;go_upto_region 3 with fail;obtain⟨pr,hpr⟩ : ∃q,q=w1.heap.size:=⟨_,rfl⟩;rw [←hpr] at c1 hp1⊢;generalize w1.alloc (.cells #[.string ⟨t.toArray⟩,.int .i64 e0] 246) =w2 at r1 b1 c1⊢;clear hpr;have al:=(Below.refl w2.heap.size w2).alloc (Nat.le_refl _) (.cells #[.int .i64 0,.int .i64 0,.int .i64 0,.int .i64 0,.slice none 0 0] 212);have S3:Hid (PrS w pr w2.heap.size t e0 0 0 0 [] none 0 (w2.alloc (.cells #[.int .i64 0,.int .i64 0,.int .i64 0,.int .i64 0,.slice none 0 0] 212))):=LH ⟨bB r1.out al,bB c1.out al,heap_alloc_new w2 _,Own.nil _ _ _ _,Below.then_ b1.out al,hp1,lB c1.out⟩;clear al r1 b1 c1 hp1;go_upto_region 4 with fail;obtain⟨pp,hpp⟩ : ∃q,q=w2.heap.size:=⟨_,rfl⟩;rw [←hpp] at S3⊢;generalize w2.alloc (.cells #[.int .i64 0,.int .i64 0,.int .i64 0,.int .i64 0,.slice none 0 0] 212) =w3 at S3⊢;clear hpp;unfold qS at HP0;have HRw:=LH (rdr_raw S3.out.r 4 (by omega) (by omega));have hrl: (rawT e0 t 4).2.2.length≤8000000:=Nat.le_trans (raw_len e0 t 4) (by omega);generalize rawT e0 t 4=RR at HP0 HRw hrl;obtain⟨m4,e1,s1⟩:=RR;dsimp only at HP0 HRw hrl;go_wp2_with fail;refine HRw.out.mono ?_;rintro en w4 ⟨rfl,h4⟩;have S4:=LH (S3.out.rd h4);clear h4 HRw S3;obtain⟨mb,hmb⟩ : ∃b,b= (m4 == [68,87,80,1]):=⟨_,rfl⟩;rw [←hmb] at HP0;have hmi: (m4 == [68,87,80,1]) =mb:=hmb.symm;clear hmb;go_wp2_with fail;refine(rdr_fail S4.out.r (!mb) 10).mono ?_;rintro en w5 ⟨rfl,h5⟩;have S5:=LH (S4.out.rd h5);clear h5 S4 hmi;generalize noteE e1 (!mb) 10=e2 at S5 HP0;unfold q0 at HP0;have HLl:=LH (rdr_between_l S5.out.r (by omega) 1 48);have hl1: (lT e2 s1).2.2.length≤8000000:=Nat.le_trans (lT_len e2 s1) (by omega);have hlv:=lT_le e2 s1;generalize lT e2 s1=LL at HP0 HLl hl1 hlv;obtain⟨l,e3,s2⟩:=LL;dsimp only at HP0 HLl hl1 hlv;have HB1:=LH (fun h=>btw_back (v:=l) (e:=e3) (a:=1) (b:=48) h);generalize btwE l e3 1 48=e4 at HLl HP0 HB1;go_wp2_with fail;refine HLl.out.mono ?_;rintro en w6 ⟨rfl,h6⟩;have S6:=LH (S5.out.rd h6);clear h6 HLl S5;have cp:=bC S6.out.p;have fp:=bF S6.out.p;have zp:=lB S6.out.p;go_upto_region 6 with fail;have S7:Hid (PrS w pr pp s2 e4 l 0 0 [] none 0 (w6.setCell ⟨pp,0,none⟩ (.int .i64 l))):=LH (S6.out.setP (zH (i:=0) S6.out.p _) S6.out.o);generalize w6.setCell ⟨pp,0,none⟩ (.int .i64 l) =w7 at S7⊢;clear cp fp zp S6;unfold q1 at HP0;have HNk:=LH (rdr_between_number S7.out.r (by omega) 1 1048576);have hn1:=numT_len e4 s2;have HK0:=LH (fun h=>num_back (e:=e4) (s:=s2) h);generalize numT e4 s2=NK at HP0 HNk hn1 HK0;obtain⟨k,e5,s3⟩:=NK;dsimp only at HP0 HNk hn1 HK0;obtain⟨hn1,hk9⟩:=hn1;have HB2:=LH (fun h=>btw_back (v:=k) (e:=e5) (a:=1) (b:=1048576) h);generalize btwE k e5 1 1048576=e6 at HNk HP0 HB2;go_wp2_with fail;refine HNk.out.mono ?_;rintro en w8 ⟨rfl,h8⟩;have S8:=LH (S7.out.rd h8);clear h8 HNk S7;have cp:=bC S8.out.p;have fp:=bF S8.out.p;have zp:=lB S8.out.p;go_upto_region 7 with fail;have S9:Hid (PrS w pr pp s3 e6 l k 0 [] none 0 (w8.setCell ⟨pp,1,none⟩ (.int .i64 k))):=LH (S8.out.setP (zH (i:=1) S8.out.p _) S8.out.o);generalize w8.setCell ⟨pp,1,none⟩ (.int .i64 k) =w9 at S9⊢;clear cp fp zp S8;unfold q2 at HP0;have HNn:=LH (rdr_between_number S9.out.r (by omega) 0 72057594037927935);have hn2:=numT_len e6 s3;have HN0:=LH (fun h=>num_back (e:=e6) (s:=s3) h);generalize numT e6 s3=NN at HP0 HNn hn2 HN0;obtain⟨n,e7,s4⟩:=NN;dsimp only at HP0 HNn hn2 HN0;obtain⟨hn2,hn9⟩:=hn2;have HB3:=LH (fun h=>btw_back (v:=n) (e:=e7) (a:=0) (b:=72057594037927935) h);generalize btwE n e7 0 72057594037927935=e8 at HNn HP0 HB3;go_wp2_with fail;refine HNn.out.mono ?_;rintro en w10 ⟨rfl,h10⟩;have S10:=LH (S9.out.rd h10);clear h10 HNn S9;have cp:=bC S10.out.p;have fp:=bF S10.out.p;have zp:=lB S10.out.p;go_upto_region 8 with fail;have S11:Hid (PrS w pr pp s4 e8 l k n [] none 0 (w10.setCell ⟨pp,3,none⟩ (.int .i64 n))):=LH (S10.out.setP (zH (i:=3) S10.out.p _) S10.out.o);generalize w10.setCell ⟨pp,3,none⟩ (.int .i64 n) =w11 at S11⊢;clear cp fp zp S10
 have HAll:Hid (e8=0→(1≤l∧l≤48)∧(1≤k∧k≤1048576)∧n≤72057594037927935):=LH fun h=>by
  obtain⟨a1,a2,a3⟩:=HB3.out h;obtain⟨a4,a5,a6⟩:=HB2.out (HN0.out a1);obtain⟨a7,a8,a9⟩:=HB1.out (HK0.out a4);exact⟨by omega,by omega,by omega⟩
 have HFi:=LH (fun h=>q_fits (l:=l) (k:=k) (n:=n) (e:=e8) (s:=s4) (fun q=>⟨(HAll.out q).1,(HAll.out q).2.2⟩) h);unfold q3 at HP0;have HwK:Hid (idsT l e8 s4 (wrap64 (8* (k:Int))) =idsT l e8 s4 (8* (k:Int))):=LH (idsT_wrap _ _ _ fun q=>by have:=(HAll.out q).2.1;unfold wrap64;omega);have HId:=LH (rdr_ids S11.out.r S11.out.p (by have:=S11.out.h2;omega) (wrap64 (8* (k:Int))) (fun q=>by have:=(HAll.out q).2.1;unfold wrap64;omega) (by omega));rw [HwK.out] at HId;have hil:=idsT_len l e8 s4 (m:=8* (k:Int)) (fun q=>by have:=(HAll.out q).2.1;omega);generalize idsT l e8 s4 (8* (k:Int)) =II at HP0 HId hil HFi;obtain⟨ids,e9,s5⟩:=II;dsimp only at HP0 HId hil HFi;unfold IdsPost at HId;dsimp only at HId;obtain⟨hil,hs5⟩:=hil;clear HwK HB1 HB2 HB3 HK0 HN0;have cp:=bC S11.out.p;have zp:=lB S11.out.p;go_wp2_with fail;refine HId.out.mono ?_;rintro en w12 ⟨Ai,ci,rfl,hoi,h12⟩;have S12:=LH (S11.out.rd h12);have SI:=LH hoi.slT;clear hoi h12 HId S11 cp zp;obtain⟨C,hC⟩ : ∃C,C=cntP ids s5 e9 (n:Int) []:=⟨_,rfl⟩;rw [←hC] at HP0 HFi;have HC:=LH hC;clear hC;go_wp2_with fail
 go_loopw [8,54] (fun lv i W=>∃(q:Nat) (left:Int) (u:List UInt8) (e:Int) (out:List Nd) (A:Option Addr) (c:Nat),i=.int .i64 q∧q≤ids.length∧lv=.int .i64 left∧0≤left∧left≤9223372036854775807∧u.length≤8000000∧out.length=q∧cntP (ids.drop q) u e left out=C∧PrS w pr pp u e l k n out A c W∧SlT W 3 encZ Ai ids) (fun _ i _=>ids.length - (intOf i).toNat)
 case atStart=>exact⟨0,n,s5,e9, [],none,0,rfl,Nat.zero_le _,rfl,by omega,by omega,by omega,rfl,HC.out.symm,S12.out,SI.out⟩
 case round=>
  obtain⟨q,left,u,e,out,A,c,rfl,hq,rfl,hl0,hl9,hul,hol,hCq,hS,hI⟩:=hrel;have SS:=LH hS;have II:=LH hI;have HCq:=LH hCq;have HOl:=LH hol;have hol2:out.length≤8388608:=by omega
  clear hS hI hCq hol S12 SI HC;by_cases hlt:q<ids.length
  case pos=>
   have hqi: (q:Int) < (ids.length:Int):=by omega
   rw [List.drop_eq_getElem_cons hlt] at HCq;obtain⟨b,off,rfl,hbt,hc⟩:=II.out.at_ hlt;have d0:=hc 0 (.int .i64 ids[q]) rfl;simp only [Nat.mul_one,Nat.add_zero] at d0;have zb:=cell_lt d0;generalize ids[q] =id at d0 HCq;unfold cntP at HCq;have HNu:=LH (rdr_between_number SS.out.r (by omega) 1 left);have hnu:=numT_len e u;generalize numT e u=N at HNu HCq hnu;obtain⟨cv,ec,u2⟩:=N;dsimp only at HNu HCq hnu;obtain⟨hu2,hcv⟩:=hnu;have HBb:=LH (fun h=>btw_back (v:=cv) (e:=ec) (a:=1) (b:=left) h);generalize btwE cv ec 1 left=e2' at HNu HCq HBb;clear hc;go_wp2_with fail;refine HNu.out.mono ?_;rintro en w13 ⟨rfl,h13⟩;have S13:=LH (SS.out.rd h13);have I13:=LH (h13.2);have II2:Hid (SlT w13 3 encZ (some ⟨b,off,none⟩) ids):=LH (slT_rd II.out SS.out.r h13);clear h13 HNu SS II d0 zb I13;have S14:=LH (S13.out.below ((Below.refl w13.heap.size w13).alloc (Nat.le_refl _) (.cells #[.int .i64 id,.int .i64 cv] 154)));have I14:=LH (II2.out.alloc (.cells #[.int .i64 id,.int .i64 cv] 154));have X14:=LH (heap_alloc_new w13 (.cells #[.int .i64 id,.int .i64 cv] 154));clear S13 II2;go_upto_region 13 with fail;obtain⟨px,hpx⟩ : ∃q,q=w13.heap.size:=⟨_,rfl⟩;rw [←hpx] at X14⊢;generalize w13.alloc (.cells #[.int .i64 id,.int .i64 cv] 154) =w14 at S14 I14 X14⊢;clear hpx;have cx:=bC X14.out;have zx:=lB X14.out;obtain⟨lf,hlf⟩ : ∃x,x=left - (cv:Int):=⟨_,rfl⟩;rw [←hlf] at HCq;have HLf:=LH (And.intro hlf (And.intro hl0 (And.intro hl9 hcv)));have hw:left - (cv:Int) =lf:=hlf.symm;have hlf9:lf≤9223372036854775807∧ -9223372036854775807≤lf:=by omega
   clear hlf;have cp:=bC S14.out.p;have fp:=bF S14.out.p;have zp:=lB S14.out.p;go_wp2_with ((at_builtin;refine wpList_push tyN rfl _ _ rfl encN w14 w.heap.size (.slice A out.length c) out rfl S14.out.o (id,(cv:Int)) (by go_simp) rfl ?c1 ?c2 ?c3 ?c4))
   case c1=>omega
   case c2=>unfold maxLen;omega
   case c3=>exact S14.out.b.size
   case c4=>
    intro v' w15 ho' hg' _ _ hb' _;have O15:=LH ho';have G15:=LH hg';have B15:=LH hb';have I15:=LH (I14.out.grownO S14.out.o hg' (by decide));clear ho' hg' hb' cx zx cp fp zp;obtain⟨L2,hL2⟩ : ∃L,L=out ++ [(id,(cv:Int))]:=⟨_,rfl⟩;rw [←hL2] at O15 HCq;have HL2:=LH (show L2.length=q+1 by rw [hL2,List.length_append,HOl.out];rfl);clear hL2;obtain⟨A2,c2,rfl,_⟩:=O15.out.form;have P15:Hid (PtAt w15 pp l k 0 n A out.length c):=LH (blk_grown_not S14.out.p G15.out (S14.out.o.ne_block S14.out.p (by decide)));have S16:=LH (S14.out.push G15.out O15.out B15.out);have I16:=LH (I15.out.setCellT (p:=⟨pp,4,none⟩) (u:=.slice A2 L2.length c2) (t:=212) (.of P15.out) (by decide));have cp:=bC P15.out;have fp:=bF P15.out;have zp:=lB P15.out;go_upto_region 15 with fail;generalize w15.setCell ⟨pp,4,none⟩ (.slice A2 L2.length c2) =w16 at S16 I16⊢;clear cp fp zp P15 O15 G15 B15 I15 S14 I14 X14;have cr:=bC S16.out.r;have zr:=lB S16.out.r;by_cases he:e2'=0
    case pos=>
     rw [if_neg (by simpa using he)] at HCq;obtain⟨_,hb1,hb2⟩:=HBb.out he;have hei: (e2' == 0) =true:=by simpa using he
     clear he;go_wp2_with fail;go_roundw
     case rel=>exact⟨q+1,lf,u2,e2',L2,A2,c2,by go_num,by omega,rfl,by have:=HLf.out.1;omega,by have:=HLf.out;omega,by omega,HL2.out,HCq.out,S16.out,I16.out⟩
     case measure=>simp [intOf];omega
    case neg=>
     rw [if_pos (by simpa using he)] at HCq;have HE0:=LH he;have hei: (e2' == 0) =false:=by simpa using he
     clear he HBb hw I16;have hLl:L2.length≤8388609:=by rw [HL2.out];omega
     have HCe:=LH (show (L2,u2,e2',lf) =C from HCq.out);clear HCq;have HQ:Hid (D=q4 l k n (L2,u2,e2',lf)):=LH (by rw [HCe.out];exact HP0.out);have HF2:Hid (e2'=0→e8=0∧Fits l L2):=LH fun h=>by have h2:=HFi.out (by rw [←HCe.out];exact h);rw [←HCe.out] at h2;exact h2
     clear HCe HP0 HFi;unfold q4 at HQ;dsimp only at HQ;have HU:Hid (decide (u2≠ []) = !(u2 == [])):=LH (by cases u2 <;> rfl);rw [HU.out] at HQ;clear HU;obtain⟨ub,hub⟩ : ∃b,b= (u2 == []):=⟨_,rfl⟩;rw [←hub] at HQ;have hui: (u2 == []) =ub:=hub.symm;clear hub;obtain⟨lb,hlb⟩ : ∃b,b=decide (0<lf):=⟨_,rfl⟩;rw [←hlb] at HQ;have hli:decide (0<lf) =lb:=hlb.symm;clear hlb;have HBk:Hid (noteE (noteE e2' (!ub) 11) lb 10=0→e2'=0):=LH fun h=>(note_back (note_back h (by decide)).1 (by decide)).1;go_wp2_with fail;refine(rdr_fail S16.out.r (!ub) 11).mono ?_;rintro en w17 ⟨rfl,h17⟩;have S17:=LH (S16.out.rd h17);clear h17 cr zr S16 hui;go_wp2_with fail;refine(rdr_fail S17.out.r lb 10).mono ?_;rintro en w18 ⟨rfl,h18⟩;have S18:=LH (S17.out.rd h18);clear h18 S17 hli;generalize noteE (noteE e2' (!ub) 11) lb 10=e7 at S18 HQ HBk;have cr:=bC S18.out.r;have zr:=lB S18.out.r;by_cases h7:e7=0
     case neg=>
      have HE:=LH (HD.out.symm.trans (HQ.out.trans (if_pos h7)));have h7i: (e7 == 0) =false:=by simpa using h7
      clear h7;go_upto_region 20 with fail;have cz:=bC S18.out.z;have fz:=bF S18.out.z;have zz:=lB S18.out.z;have hn1:=S18.out.h1;have hn2:pr≠w.heap.size:=by omega
      have hn3:w.heap.size≠pr:=by omega
      have Y:=LH (pt_store S18.out.z (.int .i64 0) (.int .i64 0) (.int .i64 0) (.int .i64 0) (.slice none 0 0));have B:=LH (pt_below S18.out.b (q:=w.heap.size) (Nat.le_refl _) (.int .i64 0) (.int .i64 0) (.int .i64 0) (.int .i64 0) (.slice none 0 0))
      go_region
      all_goals go_wp2_with fail
      all_goals clear cr zr cz fz zz hn1 hn2 hn3
      all_goals generalize (((((w18.setCell ⟨w.heap.size,0,none⟩ (.int .i64 0)).setCell ⟨w.heap.size,1,none⟩ (.int .i64 0)).setCell ⟨w.heap.size,2,none⟩ (.int .i64 0)).setCell ⟨w.heap.size,3,none⟩ (.int .i64 0)).setCell ⟨w.heap.size,4,none⟩ (.slice none 0 0)) =wz at Y B⊢
      all_goals have ca:=bC (w:=wz.drew) Y.out
      all_goals have fa:=bF (w:=wz.drew) Y.out
      all_goals have za:=lB (w:=wz.drew) Y.out
      all_goals exact bR (v:=.tuple #[.agg #[.int .i64 0,.int .i64 0,.int .i64 0,.int .i64 0,.slice none 0 0],.int .i64 e7]) (by simp only [results,Tryz.results153];go_simp) rfl (ReadPost.no HE.out B.out.drew)
     have HQ2:Hid (D=if lightOf l L2 (k:Int) =false then noRd 13 else ((l,(k:Int),(n:Int),L2),0)):=LH (HQ.out.trans (if_neg (by simpa using h7)));obtain⟨h80,hfit⟩:=HF2.out (HBk.out h7);obtain⟨hl48,hk20,hn56⟩:=HAll.out h80;have h7i: (e7 == 0) =true:=by simpa using h7
     clear h7 h80 HQ HBk HF2 HAll;have HPl:=LH (fun W h=>pool_Load W 2 l A2 c2 L2 (by unfold isPool;simp;omega) (fits_right hfit hl48) h (fits_ints hfit hl48.2) (by omega));unfold NewPost at HPl;have cp:=bC S18.out.p;have zp:=lB S18.out.p;go_upto_region 21 with fail;clear cr zr;go_wp2_with fail;refine(HPl.out w18 S18.out.o.sl).mono ?_;rintro en w19 ⟨gp,Fp,rfl,hpo,_,hb19⟩;have S19:=LH (S18.out.below hb19);have P19:=LH hpo;clear hpo hb19 S18 HPl cp zp;have HLi:=LH (press_Light w19 gp 2 l L2 Fp k P19.out (by omega) (by omega) (by omega));have cp:=bC S19.out.p;have zp:=lB S19.out.p
     cases hlg:lightOf l L2 (k:Int)
     case false=>
      rw [hlg] at HLi;have HE:=LH (HD.out.symm.trans (HQ2.out.trans (if_pos hlg)));clear hlg;go_wp2_with fail;refine HLi.out.mono ?_;rintro en w20 ⟨rfl,hb20⟩;have S20:=LH (S19.out.below hb20);clear hb20 cp zp S19;go_upto_region 23 with fail;have cz:=bC S20.out.z;have fz:=bF S20.out.z;have zz:=lB S20.out.z;have Y:=LH (pt_store S20.out.z (.int .i64 0) (.int .i64 0) (.int .i64 0) (.int .i64 0) (.slice none 0 0));have B:=LH (pt_below S20.out.b (q:=w.heap.size) (Nat.le_refl _) (.int .i64 0) (.int .i64 0) (.int .i64 0) (.int .i64 0) (.slice none 0 0));go_wp2_with fail;clear cz fz zz;generalize (((((w20.setCell ⟨w.heap.size,0,none⟩ (.int .i64 0)).setCell ⟨w.heap.size,1,none⟩ (.int .i64 0)).setCell ⟨w.heap.size,2,none⟩ (.int .i64 0)).setCell ⟨w.heap.size,3,none⟩ (.int .i64 0)).setCell ⟨w.heap.size,4,none⟩ (.slice none 0 0)) =wz at Y B⊢;have ca:=bC Y.out;have fa:=bF Y.out;have za:=lB Y.out;exact bR (v:=.tuple #[.agg #[.int .i64 0,.int .i64 0,.int .i64 0,.int .i64 0,.slice none 0 0],.int .i64 13]) (by simp only [results,Tryz.results153];go_simp) rfl (ReadPost.no HE.out B.out)
     case true=>
      rw [hlg] at HLi;have HE:=LH (HD.out.symm.trans (HQ2.out.trans (if_neg (by rw [hlg];simp))));clear hlg;go_wp2_with fail;refine HLi.out.mono ?_;rintro en w20 ⟨rfl,hb20⟩;have S20:=LH (S19.out.below hb20);clear hb20 cp zp S19;go_upto_region 24 with fail;have cz:=bC S20.out.z;have fz:=bF S20.out.z;have zz:=lB S20.out.z;have cp:=bC S20.out.p;have zp:=lB S20.out.p;have Y:=LH (pt_store S20.out.z (.int .i64 l) (.int .i64 k) (.int .i64 0) (.int .i64 n) (.slice A2 L2.length c2));have B:=LH (pt_below S20.out.b (q:=w.heap.size) (Nat.le_refl _) (.int .i64 l) (.int .i64 k) (.int .i64 0) (.int .i64 n) (.slice A2 L2.length c2));have T:=LH (pt_slT S20.out.z S20.out.o.slT (.int .i64 l) (.int .i64 k) (.int .i64 0) (.int .i64 n) (.slice A2 L2.length c2));go_wp2_with fail;clear cz fz zz cp zp;generalize (((((w20.setCell ⟨w.heap.size,0,none⟩ (.int .i64 l)).setCell ⟨w.heap.size,1,none⟩ (.int .i64 k)).setCell ⟨w.heap.size,2,none⟩ (.int .i64 0)).setCell ⟨w.heap.size,3,none⟩ (.int .i64 n)).setCell ⟨w.heap.size,4,none⟩ (.slice A2 L2.length c2)) =wz at Y B T⊢;have ca:=bC Y.out;have fa:=bF Y.out;have za:=lB Y.out;exact bR (v:=.tuple #[.agg #[.int .i64 l,.int .i64 k,.int .i64 0,.int .i64 n,.slice A2 L2.length c2],.int .i64 0]) (by simp only [results,Tryz.results153];go_simp) rfl (ReadPost.ok HE.out T.out B.out)
  obtain rfl:q=ids.length:=by omega
  have hqi:decide ((ids.length:Int) < (ids.length:Int)) =false:=by simp
  rw [List.drop_length] at HCq;have hLl:out.length≤8388609:=by omega
  clear II;go_upto_region 17 with fail;have HCe:=LH (show (out,u,e,left) =C from HCq.out);clear HCq;have HQ:Hid (D=q4 l k n (out,u,e,left)):=LH (by rw [HCe.out];exact HP0.out);have HF2:Hid (e=0→e8=0∧Fits l out):=LH fun h=>by have h2:=HFi.out (by rw [←HCe.out];exact h);rw [←HCe.out] at h2;exact h2
  clear HCe HP0 HFi;unfold q4 at HQ;dsimp only at HQ;have HU:Hid (decide (u≠ []) = !(u == [])):=LH (by cases u <;> rfl);rw [HU.out] at HQ;clear HU;obtain⟨ub,hub⟩ : ∃b,b= (u == []):=⟨_,rfl⟩;rw [←hub] at HQ;have hui: (u == []) =ub:=hub.symm;clear hub;obtain⟨lb,hlb⟩ : ∃b,b=decide (0<left):=⟨_,rfl⟩;rw [←hlb] at HQ;have hli:decide (0<left) =lb:=hlb.symm;clear hlb;have HBk:Hid (noteE (noteE e (!ub) 11) lb 10=0→e=0):=LH fun h=>(note_back (note_back h (by decide)).1 (by decide)).1;have cr:=bC SS.out.r;have zr:=lB SS.out.r;go_wp2_with fail;refine(rdr_fail SS.out.r (!ub) 11).mono ?_;rintro en w17 ⟨rfl,h17⟩;have S17:=LH (SS.out.rd h17);clear h17 cr zr SS hui;go_wp2_with fail;refine(rdr_fail S17.out.r lb 10).mono ?_;rintro en w18 ⟨rfl,h18⟩;have S18:=LH (S17.out.rd h18);clear h18 S17 hli;generalize noteE (noteE e (!ub) 11) lb 10=e7 at S18 HQ HBk;have cr:=bC S18.out.r;have zr:=lB S18.out.r;by_cases h7:e7=0
  case neg=>
   have HE:=LH (HD.out.symm.trans (HQ.out.trans (if_pos h7)));have h7i: (e7 == 0) =false:=by simpa using h7
   clear h7;go_upto_region 20 with fail;have cz:=bC S18.out.z;have fz:=bF S18.out.z;have zz:=lB S18.out.z;have hn1:=S18.out.h1;have hn2:pr≠w.heap.size:=by omega
   have hn3:w.heap.size≠pr:=by omega
   have Y:=LH (pt_store S18.out.z (.int .i64 0) (.int .i64 0) (.int .i64 0) (.int .i64 0) (.slice none 0 0));have B:=LH (pt_below S18.out.b (q:=w.heap.size) (Nat.le_refl _) (.int .i64 0) (.int .i64 0) (.int .i64 0) (.int .i64 0) (.slice none 0 0))
   go_region
   all_goals go_wp2_with fail
   all_goals clear cr zr cz fz zz hn1 hn2 hn3
   all_goals generalize (((((w18.setCell ⟨w.heap.size,0,none⟩ (.int .i64 0)).setCell ⟨w.heap.size,1,none⟩ (.int .i64 0)).setCell ⟨w.heap.size,2,none⟩ (.int .i64 0)).setCell ⟨w.heap.size,3,none⟩ (.int .i64 0)).setCell ⟨w.heap.size,4,none⟩ (.slice none 0 0)) =wz at Y B⊢
   all_goals have ca:=bC (w:=wz.drew) Y.out
   all_goals have fa:=bF (w:=wz.drew) Y.out
   all_goals have za:=lB (w:=wz.drew) Y.out
   all_goals exact bR (v:=.tuple #[.agg #[.int .i64 0,.int .i64 0,.int .i64 0,.int .i64 0,.slice none 0 0],.int .i64 e7]) (by simp only [results,Tryz.results153];go_simp) rfl (ReadPost.no HE.out B.out.drew)
  have HQ2:Hid (D=if lightOf l out (k:Int) =false then noRd 13 else ((l,(k:Int),(n:Int),out),0)):=LH (HQ.out.trans (if_neg (by simpa using h7)));obtain⟨h80,hfit⟩:=HF2.out (HBk.out h7);obtain⟨hl48,hk20,hn56⟩:=HAll.out h80;have h7i: (e7 == 0) =true:=by simpa using h7
  clear h7 h80 HQ HBk HF2 HAll;have HPl:=LH (fun W h=>pool_Load W 2 l A c out (by unfold isPool;simp;omega) (fits_right hfit hl48) h (fits_ints hfit hl48.2) (by omega));unfold NewPost at HPl;have cp:=bC S18.out.p;have zp:=lB S18.out.p;go_upto_region 21 with fail;clear cr zr;go_wp2_with fail;refine(HPl.out w18 S18.out.o.sl).mono ?_;rintro en w19 ⟨gp,Fp,rfl,hpo,_,hb19⟩;have S19:=LH (S18.out.below hb19);have P19:=LH hpo;clear hpo hb19 S18 HPl cp zp;have HLi:=LH (press_Light w19 gp 2 l out Fp k P19.out (by omega) (by omega) (by omega));have cp:=bC S19.out.p;have zp:=lB S19.out.p
  cases hlg:lightOf l out (k:Int)
  case false=>
   rw [hlg] at HLi;have HE:=LH (HD.out.symm.trans (HQ2.out.trans (if_pos hlg)));clear hlg;go_wp2_with fail;refine HLi.out.mono ?_;rintro en w20 ⟨rfl,hb20⟩;have S20:=LH (S19.out.below hb20);clear hb20 cp zp S19;go_upto_region 23 with fail;have cz:=bC S20.out.z;have fz:=bF S20.out.z;have zz:=lB S20.out.z;have Y:=LH (pt_store S20.out.z (.int .i64 0) (.int .i64 0) (.int .i64 0) (.int .i64 0) (.slice none 0 0));have B:=LH (pt_below S20.out.b (q:=w.heap.size) (Nat.le_refl _) (.int .i64 0) (.int .i64 0) (.int .i64 0) (.int .i64 0) (.slice none 0 0));go_wp2_with fail;clear cz fz zz;generalize (((((w20.setCell ⟨w.heap.size,0,none⟩ (.int .i64 0)).setCell ⟨w.heap.size,1,none⟩ (.int .i64 0)).setCell ⟨w.heap.size,2,none⟩ (.int .i64 0)).setCell ⟨w.heap.size,3,none⟩ (.int .i64 0)).setCell ⟨w.heap.size,4,none⟩ (.slice none 0 0)) =wz at Y B⊢;have ca:=bC Y.out;have fa:=bF Y.out;have za:=lB Y.out;exact bR (v:=.tuple #[.agg #[.int .i64 0,.int .i64 0,.int .i64 0,.int .i64 0,.slice none 0 0],.int .i64 13]) (by simp only [results,Tryz.results153];go_simp) rfl (ReadPost.no HE.out B.out)
  case true=>
   rw [hlg] at HLi;have HE:=LH (HD.out.symm.trans (HQ2.out.trans (if_neg (by rw [hlg];simp))));clear hlg;go_wp2_with fail;refine HLi.out.mono ?_;rintro en w20 ⟨rfl,hb20⟩;have S20:=LH (S19.out.below hb20);clear hb20 cp zp S19;go_upto_region 24 with fail;have cz:=bC S20.out.z;have fz:=bF S20.out.z;have zz:=lB S20.out.z;have cp:=bC S20.out.p;have zp:=lB S20.out.p;have Y:=LH (pt_store S20.out.z (.int .i64 l) (.int .i64 k) (.int .i64 0) (.int .i64 n) (.slice A out.length c));have B:=LH (pt_below S20.out.b (q:=w.heap.size) (Nat.le_refl _) (.int .i64 l) (.int .i64 k) (.int .i64 0) (.int .i64 n) (.slice A out.length c));have T:=LH (pt_slT S20.out.z S20.out.o.slT (.int .i64 l) (.int .i64 k) (.int .i64 0) (.int .i64 n) (.slice A out.length c));go_wp2_with fail;clear cz fz zz cp zp;generalize (((((w20.setCell ⟨w.heap.size,0,none⟩ (.int .i64 l)).setCell ⟨w.heap.size,1,none⟩ (.int .i64 k)).setCell ⟨w.heap.size,2,none⟩ (.int .i64 0)).setCell ⟨w.heap.size,3,none⟩ (.int .i64 n)).setCell ⟨w.heap.size,4,none⟩ (.slice A out.length c)) =wz at Y B T⊢;have ca:=bC Y.out;have fa:=bF Y.out;have za:=lB Y.out;exact bR (v:=.tuple #[.agg #[.int .i64 l,.int .i64 k,.int .i64 0,.int .i64 n,.slice A out.length c],.int .i64 0]) (by simp only [results,Tryz.results153];go_simp) rfl (ReadPost.ok HE.out T.out B.out)
def PeekPost (s:List UInt8) (w:World) (e:Ending) (w':World) :Prop:=
 e=.returned (.tuple #[.agg #[.int .i64 (readW s).1.1,.int .i64 (readW s).1.2.1,.int .i64 0],.int .i64 (readW s).1.2.2.1,.int .i64 (readW s).1.2.2.2.length,.int .i64 (readW s).2])∧Below w.heap.size w w'
theorem rd_no {o:List UInt8×Int} (h: (rdW o).2≠0) : (rdW o).1= (0,0,0, []):=by
 unfold rdW at h⊢
 split
 ·rfl
 rename_i a1;rw [if_neg a1] at h
 split
 ·rfl
 rename_i a2;rw [if_neg a2] at h
 split
 ·rfl
 rename_i a3;rw [if_neg a3] at h;generalize o.1.drop 4=t at h⊢
 match t with
 | []=>rfl
 |b :: s0=>
  unfold rd0 at h⊢;dsimp only at h⊢
  split
  ·rfl
  rename_i a4;rw [if_neg a4] at h;generalize getB s0=k at h⊢;unfold rd1 at h⊢
  split
  ·rfl
  rename_i a5;rw [if_neg a5] at h
  split
  ·rfl
  rename_i a6;rw [if_neg a6] at h;generalize s0.drop k.2.1=s1 at h⊢;generalize getB s1=n at h⊢;unfold rd2 at h⊢
  split
  ·rfl
  rename_i a7;rw [if_neg a7] at h
  split
  ·rfl
  rename_i a8;rw [if_neg a8] at h;generalize s1.drop n.2.1=s2 at h⊢;generalize fallB s2 (8* (k.1:Int)) =f at h⊢;unfold rd3 at h⊢
  split
  ·rfl
  rename_i a9;rw [if_neg a9] at h
  split
  ·rfl
  rename_i a10;rw [if_neg a10] at h;generalize cntF f.1 (s2.drop f.2.1) (n.1:Int) [] =c at h⊢;unfold rd4 at h⊢
  split
  ·rfl
  rename_i b1;rw [if_neg b1] at h
  split
  ·rfl
  rename_i b2;rw [if_neg b2] at h
  split
  ·rfl
  rename_i b3;rw [if_neg b3] at h
  split
  ·rfl
  rename_i b4;rw [if_neg b4] at h;exact absurd rfl h
theorem cf_store {W:World} {q:Nat} {a b c:Value} (h:W.heap[q]? =some (.cells #[a,b,c] 23 (0,0))) (u v x:Value) : (((W.setCell ⟨q,0,none⟩ u).setCell ⟨q,1,none⟩ v).setCell ⟨q,2,none⟩ x).heap[q]? =some (.cells #[u,v,x] 23 (0,0)):=zH (i:=2) (zH (i:=1) (zH (i:=0) h u) v) x
theorem wire_Peek (w:World) (s:List UInt8) (hs:s.length≤8000000) :Calls Tryz.prog 110 #[.string ⟨s.toArray⟩] w (PeekPost s w):=by
 have HR:=LH (fun W=>wire_read W s hs);unfold PeekPost;unfold ReadPost at HR
 have hml: (readW s).1.2.2.2.length≤67108864:=by
  by_cases h: (readW s).2=0
  ·have h1:=(readW_ok s h).len
   have h2:=(readW_ok s h).k.2;omega
  ·rw [readW_rd] at h⊢
   have: (rdW (openT s)).1= (0,0,0, []):=rd_no h;rw [this];simp
 generalize readW s=M at HR hml⊢;obtain⟨⟨l,k,n,r⟩,er⟩:=M;dsimp only at HR hml⊢;have r0:=LH (heap_alloc_new w (.cells #[.int .i64 0,.int .i64 0,.int .i64 0] 23));have b0:Hid (Below w.heap.size w (w.alloc (.cells #[.int .i64 0,.int .i64 0,.int .i64 0] 23))):=LH bE
 go_enter Tryz.func110,Tryz.ntmps110
 go_upto_region 1 with fail;generalize w.alloc (.cells #[.int .i64 0,.int .i64 0,.int .i64 0] 23) =W0 at r0 b0⊢;go_wp2_with fail;refine(HR.out W0).mono ?_;rintro en w1 ⟨A,c,rfl,hsl,hb1⟩;have al:=hb1.trans (((Below.refl w1.heap.size w1).alloc (Nat.le_refl _) (.cells #[.int .i64 l,.int .i64 k,.int .i64 0,.int .i64 n,.slice A r.length c] 212)).mono hb1.size);have r1:=LH (bB r0.out al);have b1:=LH (Below.then_ b0.out al);have p1:=LH (heap_alloc_new w1 (.cells #[.int .i64 l,.int .i64 k,.int .i64 0,.int .i64 n,.slice A r.length c] 212));have hp1:w.heap.size<w1.heap.size:=by have h1:=lB r0.out;have h2:=hb1.size;omega
 clear hb1 al r0 b0 HR hsl;go_upto_region 2 with fail;obtain⟨pp,hpp⟩ : ∃q,q=w1.heap.size:=⟨_,rfl⟩;rw [←hpp] at p1 hp1⊢;generalize w1.alloc (.cells #[.int .i64 l,.int .i64 k,.int .i64 0,.int .i64 n,.slice A r.length c] 212) =w2 at r1 b1 p1⊢;clear hpp;have cp:=bC p1.out;have zp:=lB p1.out;have cr:=bC r1.out;have zr:=lB r1.out;have fr:=bF r1.out;have hn2:pp≠w.heap.size:=by omega
 have hn3:w.heap.size≠pp:=by omega
 have Y:=LH (cf_store r1.out (.int .i64 l) (.int .i64 k) (.int .i64 0));have B:=LH (((b1.out.setCell (p:=⟨w.heap.size,0,none⟩) (Nat.le_refl _) (.int .i64 l)).setCell (p:=⟨w.heap.size,1,none⟩) (Nat.le_refl _) (.int .i64 k)).setCell (p:=⟨w.heap.size,2,none⟩) (Nat.le_refl _) (.int .i64 0))
 go_region
 all_goals go_wp2_with fail
 all_goals clear cp zp cr zr fr hn2 hn3 hp1
 all_goals generalize ((w2.setCell ⟨w.heap.size,0,none⟩ (.int .i64 l)).setCell ⟨w.heap.size,1,none⟩ (.int .i64 k)).setCell ⟨w.heap.size,2,none⟩ (.int .i64 0) =wz at Y B⊢
 all_goals have ca:=bC (w:=wz.drew) Y.out
 all_goals have fa:=bF (w:=wz.drew) Y.out
 all_goals have za:=lB (w:=wz.drew) Y.out
 all_goals exact bR (v:=.tuple #[.agg #[.int .i64 l,.int .i64 k,.int .i64 0],.int .i64 n,.int .i64 r.length,.int .i64 er]) (by simp only [results,Tryz.results110];go_simp) rfl ⟨rfl,B.out.drew⟩
def DecPost (K:Nat) (s:List UInt8) (w:World) (e:Ending) (w':World) :Prop:=
 ((readW s).2≠0∧e=.returned (.tuple #[.pointer none,.int .i64 (readW s).2])∧Below w.heap.size w w')∨((readW s).2=0∧DigPost K (readW s).1.1 (readW s).1.2.1 (readW s).1.2.2.2 w e w')
theorem wire_Decode (w:World) (s:List UInt8) (K:Nat) (hs:s.length≤8000000) (hK: (readW s).2=0→isPool K (readW s).1.1=true) :Calls Tryz.prog 111 #[.string ⟨s.toArray⟩,.int .i64 K] w (DecPost K s w):=by
 have HR:=LH (fun W=>wire_read W s hs);have HO:=LH (fun h=>readW_ok s h);have HK:=LH hK;unfold ReadPost at HR;have HD:Hid (∀e w',(((readW s).2≠0∧e=.returned (.tuple #[.pointer none,.int .i64 (readW s).2])∧Below w.heap.size w w')∨((readW s).2=0∧DigPost K (readW s).1.1 (readW s).1.2.1 (readW s).1.2.2.2 w e w'))→DecPost K s w e w'):=LH fun _ _ h=>h;clear hK;generalize readW s=M at HR HO HK HD;obtain⟨⟨l,k,n,r⟩,er⟩:=M;dsimp only at HR HO HK HD
 go_enter Tryz.func111,Tryz.ntmps111
 go_wp2_with fail;refine(HR.out w).mono ?_;rintro en w1 ⟨A,c,rfl,hsl,hb1⟩;have b2:=LH (hb1.trans (((Below.refl w1.heap.size w1).alloc (Nat.le_refl _) (.cells #[.int .i64 l,.int .i64 k,.int .i64 0,.int .i64 n,.slice A r.length c] 212)).mono hb1.size));have p2:=LH (heap_alloc_new w1 (.cells #[.int .i64 l,.int .i64 k,.int .i64 0,.int .i64 n,.slice A r.length c] 212));have s2:=LH (hsl.alloc (.cells #[.int .i64 l,.int .i64 k,.int .i64 0,.int .i64 n,.slice A r.length c] 212));have hp1:=hb1.size;clear hb1 HR hsl;go_upto_region 2 with fail;obtain⟨pp,hpp⟩ : ∃q,q=w1.heap.size:=⟨_,rfl⟩;rw [←hpp] at p2 hp1⊢;generalize w1.alloc (.cells #[.int .i64 l,.int .i64 k,.int .i64 0,.int .i64 n,.slice A r.length c] 212) =w2 at b2 p2 s2⊢;clear hpp;by_cases h0:er=0
 ·have ok:=LH (HO.out h0)
  have hk:=HK.out h0;subst h0;have o1:=ok.out.l;have o2:=ok.out.k;have o3:=ok.out.len;dsimp only at o1 o2 o3
  have HLd:=LH (fun W h=>digest_Load W l K k A c r (by
   have hd:isDig l k K=true:=by unfold isDig;rw [hk];simp;omega
   unfold loadErr;rw [if_neg (by simp [hd]),if_neg (by simp [fits_right ok.out.fits o1]),if_neg (by omega),if_neg (by simp [ok.out.light])]) h (fits_ints ok.out.fits o1.2) (by omega))
  unfold DigPost at HLd;have cp:=bC p2.out;have fp:=bF p2.out;have zp:=lB p2.out;clear hk;go_upto_region 5 with fail;have p3:Hid ((w2.setCell ⟨pp,2,none⟩ (.int .i64 K)).heap[pp]? =some (.cells #[.int .i64 l,.int .i64 k,.int .i64 K,.int .i64 n,.slice A r.length c] 212 (0,0))):=LH (zH (i:=2) p2.out _);have s3:=LH (s2.out.setCellT (p:=⟨pp,2,none⟩) (u:=.int .i64 K) (t:=212) (.of p2.out) (by decide));have b3:=LH (b2.out.setCell (p:=⟨pp,2,none⟩) hp1 (.int .i64 K));generalize w2.setCell ⟨pp,2,none⟩ (.int .i64 K) =w3 at p3 s3 b3⊢;clear cp fp zp p2 s2 b2;have cp:=bC p3.out;have zp:=lB p3.out;go_wp2_with fail;refine(HLd.out w3 s3.out.sl).mono ?_;rintro en w4 ⟨g,F,rfl,hd,hF,hb4⟩;have D4:=LH hd;have F4:=LH (fun b h=>Nat.le_trans b3.out.size (hF b h));have b4:=LH (Below.then_ b3.out hb4);clear hd hF hb4 cp zp;go_wp2_with fail;exact bR (v:=.tuple #[.pointer (some ⟨g,0,none⟩),.int .i64 0]) (by simp only [results,Tryz.results111];go_simp) rfl (HD.out _ _ (.inr ⟨by simp,g,F,rfl,D4.out,F4.out,b4.out⟩))
 ·have h0i: (er == 0) =false:=by simpa using h0
  have H0:=LH h0;clear h0;go_wp2_with fail;exact bR (v:=.tuple #[.pointer none,.int .i64 er]) (by simp only [results,Tryz.results111];go_simp) rfl (HD.out _ _ (.inl ⟨H0.out,rfl,b2.out⟩))



end Go.Proofs.YtandlhihcnadmaaGreat
