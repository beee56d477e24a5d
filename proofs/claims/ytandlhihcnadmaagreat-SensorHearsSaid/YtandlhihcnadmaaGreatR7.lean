/-
  Texts of this proof, one behind the other: Ref14O, TurnedB, Ref23, Ref29, DigOps, Wire, Ref24E, TextLaw, CrewOf, SensorRight, SensorMake, CloneD, CloneP, Clone.
-/
import Derived.Laws.BytesArg
import Derived.Lib.ConvBytes
import Derived.Deep.RegionWith
import Derived.Deep.DeepCutAuto
import Derived.Laws.CopyOwn
import Derived.Test.YtandlhihcnadmaaGreatR1
import Derived.Test.YtandlhihcnadmaaGreatR2
import Derived.Test.YtandlhihcnadmaaGreatR3
import Derived.Test.YtandlhihcnadmaaGreatR4
import Derived.Test.YtandlhihcnadmaaGreatR6
set_option linter.unusedVariables false
set_option linter.unusedSimpArgs false
set_option maxRecDepth 100000
set_option maxHeartbeats 16000000
namespace Go.Proofs.YtandlhihcnadmaaGreat
open Go.ChangeShapes Go.WideShapes Go.ChangeAt Go.RowKit
def Of14Post [Zone] (l:Nat) (k:Int) (L:List Op3) (w:World) (e:Ending) (w':World) :Prop:=
 ∃(s:List Nd) (A:Option Addr) (c:Nat),e=.returned (.agg #[.int .i64 k,.int .i64 l,.slice A s.length c])∧OfTo l k [] L s∧SlZ w' 154 encN A s∧Below w.heap.size w w'
structure OfR [Zone] (w:World) (l:Nat) (k:Int) (L:List Op3) (Ao:Option Addr) (s:List Nd) (A:Option Addr) (c:Nat) (W:World) :Prop where
 x:W.heap[w.heap.size]? =some (.cells #[.int .i64 0,.int .i64 0,.slice none 0 0] 35 (0,0))
 y:W.heap[w.heap.size+1]? =some (.cells #[.int .i64 k,.int .i64 l,.slice A s.length c] 35 (0,0))
 s:SlZ W 154 encN A s
 o:Sl W w.heap.size encO Ao L
 b:Below w.heap.size w W
theorem OfR.below [Zone] {w:World} {l:Nat} {k:Int} {L:List Op3} {Ao:Option Addr} {s:List Nd} {A:Option Addr} {c:Nat} {W W':World} (h:OfR w l k L Ao s A c W) (hb:Below W.heap.size W W') :OfR w l k L Ao s A c W':=
 ⟨bB h.x hb,bB h.y hb,h.s.below hb,h.o.below (hb.mono h.b.size),h.b.trans (hb.mono h.b.size)⟩
theorem OfR.set [Zone] {w:World} {l:Nat} {k:Int} {L:List Op3} {Ao:Option Addr} {s s2:List Nd} {A A2:Option Addr} {c c2:Nat} {W:World} (h:OfR w l k L Ao s A c W) (hs:SlZ W 154 encN A2 s2) :
 OfR w l k L Ao s2 A2 c2 (((W.setCell ⟨w.heap.size+1,0,none⟩ (.int .i64 k)).setCell ⟨w.heap.size+1,1,none⟩ (.int .i64 l)).setCell ⟨w.heap.size+1,2,none⟩ (.slice A2 s2.length c2)):=by
 have hb:=dig_below h.b (q:=w.heap.size+1) (by simp) (.int .i64 k) (.int .i64 l) (.slice A2 s2.length c2);refine⟨?_,dig_store h.y _ _ _,dig_slT h.y hs _ _ _,?_,hb⟩
 ·rw [Below.heap_setCell _ _ _ _ (by simp),Below.heap_setCell _ _ _ _ (by simp),Below.heap_setCell _ _ _ _ (by simp)];exact h.x
 ·refine h.o.keep (Nat.le_refl _) fun p hp=> ?_
  have h1:=hb.cell (p:=p) hp;have h2:=h.b.cell (p:=p) hp;rw [h1,h2]
theorem ref14_Of [Zone] (w:World) (l:Nat) (k:Int) (Ao:Option Addr) (co:Nat) (L:List Op3) (hl:1≤l∧l≤48) (hk:1≤k) (hk2:k≤124) (hO:Sl w w.heap.size encO Ao L) (hn:L.length≤maxLen) (hz:Zone.n≤w.heap.size) :
 Calls Tryz.prog 69 #[.int .i64 k,.int .i64 l,.slice Ao L.length co] w (Of14Post l k L w):=by
 have HDo:=LH (fun W (A:Option Addr) (c:Nat) (s:List Nd) (o:Op3) (h:SlZ W 154 encN A s) (hf:Fits l s) (h8: (s.length:Int)≤8*k)=>ref13_Do W l k A c s o hl h hf (fits_ints hf hl.2) (by omega) hk (by omega) h8);unfold Do13Post at HDo;have HFt:=LH (fun (M:List Op3) (s:List Nd) (h:OfTo l k [] M s)=>And.intro (h.fits hl hk).1 (OfTo.room hl hk (Held.nil l k) (by simp;omega) h))
 have R0:Hid (OfR w l k L Ao [] none 0 ((w.alloc (.cells #[.int .i64 0,.int .i64 0,.slice none 0 0] 35)).alloc (.cells #[.int .i64 k,.int .i64 l,.slice none 0 0] 35))):=
  LH ⟨(heap_new_lt _ _ _ (by simp)).trans (heap_alloc_new w _),heap_new_at (w.alloc _) _ _ (by simp),.nil (by simp;omega),hO.below bE,bE⟩
 clear hz;unfold maxLen at hn;clear hO
 go_enter Tryz.func69,Tryz.ntmps69
 go_upto_region 3 with fail;generalize (w.alloc (.cells #[.int .i64 0,.int .i64 0,.slice none 0 0] 35)).alloc (.cells #[.int .i64 k,.int .i64 l,.slice none 0 0] 35) =W0 at R0⊢;go_wp2_with fail
 go_loopw [8] (fun i W=>∃(q:Nat) (s:List Nd) (A:Option Addr) (c:Nat),i=.int .i64 q∧q≤L.length∧OfTo l k [] (L.take q) s∧OfR w l k L Ao s A c W) (fun i _=>L.length - (intOf i).toNat)
 case atStart=>exact⟨0, [],none,0,rfl,Nat.zero_le _,rfl,R0.out⟩
 case round=>
  obtain⟨q,s,A,c,rfl,hq,ht,hR⟩:=hrel;have HT:=LH ht;have R:=LH hR;clear ht hR R0;by_cases hlt:q<L.length
  ·have hqi: (q:Int) < (L.length:Int):=by omega
   obtain⟨hf,h8⟩:=HFt.out _ _ HT.out;have HNx:=LH (fun s' n (h:DoTo l k s L[q] s' n)=>OfTo.take hlt HT.out h);obtain⟨b,off,rfl,hb,hc⟩:=R.out.o.at_ hlt;have d0:=hc 0 (.int .i64 (L[q]).1) rfl;have d1:=hc 1 (.int .i64 (L[q]).2.1) rfl;have d2:=hc 2 (.int .i64 (L[q]).2.2) rfl;simp only [Nat.add_zero] at d0;generalize L[q] =o at d0 d1 d2 HNx;obtain⟨o1,o2,o3⟩:=o;dsimp only at d0 d1 d2;have HD:=LH (fun W h=>HDo.out W A c s (o1,o2,o3) h hf h8);dsimp only at HD;have zb:=Nat.lt_of_lt_of_le hb R.out.b.size;have hap:b≠w.heap.size+1:=by omega
   clear hc hf h8;go_upto_region 6 with fail;have Rd:=LH (R.out.below (Below.drew (Below.refl _ _)));have HS:Hid (wr.drew.heap[w.heap.size+1]? =some (.cells #[.int .i64 k,.int .i64 l,.slice A s.length c] 35 (0,0))∧wr.drew.cell? ⟨b,off+q*3,none⟩ =some (.int .i64 o1)∧wr.drew.cell? ⟨b,off+q*3+1,none⟩ =some (.int .i64 o2)∧wr.drew.cell? ⟨b,off+q*3+2,none⟩ =some (.int .i64 o3)):=LH ⟨R.out.y,d0,d1,d2⟩;refine wp_region_noPanic ?_;refine wp_region_N (fun W'=>W'.heap[w.heap.size+1]? =some (.cells #[.int .i64 k,.int .i64 l,.slice A s.length c] 35 (0,0))∧W'.cell? ⟨b,off+q*3,none⟩ =some (.int .i64 o1)∧W'.cell? ⟨b,off+q*3+1,none⟩ =some (.int .i64 o2)∧W'.cell? ⟨b,off+q*3+2,none⟩ =some (.int .i64 o3)) [9] (by kernel_rfl) (HS.out) (fun hHeld=> ?_);generalize wr.drew=Wd at Rd HS hHeld⊢;refine nT 0 (Value.agg #[.int .i64 k,.int .i64 l,.slice A s.length c]) (y:=Or.inl ⟨by rfl,fun W hW=>by have q1:=bC hW.1;have q2:=lB hW.1;go_simp⟩) (s:=HS.out) (h:= ?_)
   (try simp only [zA,zB,zC,Act.put,zD,zE,zF])
   refine nP 1 (Value.slice (some ⟨b,off,none⟩) L.length co) (h:= ?_)
   (try simp only [zA,zB,zC,Act.put,zD,zE,zF])
   refine nP 2 (Value.int .i64 q) (h:= ?_)
   (try simp only [zA,zB,zC,Act.put,zD,zE,zF])
   refine nP 3 (Value.pointer (some ⟨b,off+q*3,none⟩)) (h:= ?_)
   (try simp only [zA,zB,zC,Act.put,zD,zE,zF])
   refine nT 4 (Value.agg #[.int .i64 o1,.int .i64 o2,.int .i64 o3]) (y:=Or.inl ⟨by rfl,fun W hW=>by obtain⟨q0,q1,q2,q3⟩:=hW;have q4:=cell_lt q1;go_simp⟩) (s:=HS.out) (h:= ?_)
   (try simp only [zA,zB,zC,Act.put,zD,zE,zF])
   refine nO (i:=5) (by kernel_rfl) rfl (fun K hK=> ?_);go_simp;refine(HD.out Wd Rd.out.s).mono ?_;rintro e w3 ⟨s2,A2,c2,n2,rfl,hd,hs2,hb3⟩;have hb9:=hb3.cell (p:=⟨b,0,none⟩);refine hK.out _ _ (fun _ hS=>⟨bB hS.1 hb3,(hb3.cell (p:=⟨b,_,none⟩) (cell_lt hS.2.1)).trans hS.2.1,(hb3.cell (p:=⟨b,_,none⟩) (cell_lt hS.2.1)).trans hS.2.2.1,(hb3.cell (p:=⟨b,_,none⟩) (cell_lt hS.2.1)).trans hS.2.2.2⟩) ?_;clear hK K
   (try simp only [zA,zB,zC,Act.put,zD,zE,zF])
   have R3:=LH (Rd.out.below hb3);have S3:=LH hs2;have T3:=LH (HNx.out s2 n2 hd);clear hb9 hb3 hs2 hd HS hHeld Rd;refine nP 6 (Value.tuple #[.agg #[.int .i64 k,.int .i64 l,.slice A2 s2.length c2],.int .i64 n2]) (h:= ?_)
   (try simp only [zA,zB,zC,Act.put,zD,zE,zF])
   refine nP 7 (Value.agg #[.int .i64 k,.int .i64 l,.slice A2 s2.length c2]) (h:= ?_)
   (try simp only [zA,zB,zC,Act.put,zD,zE,zF])
   refine nP 8 (Value.int .i64 n2) (h:= ?_)
   (try simp only [zA,zB,zC,Act.put,zD,zE,zF])
   have fy:=bF R3.out.y;have cy:=bC R3.out.y;have zy:=lB R3.out.y;refine nO (i:=9) (by kernel_rfl) rfl (fun K hK=> ?_);go_simp;refine hK.out _ _ (fun h=>absurd (by decide) h) ?_;clear hK K
   (try simp only [zA,zB,zC,Act.put,zD,zE,zF])
   refine nD (by kernel_rfl) ?_ _;refine NoPanic.normal ?_;have R4:=LH (R3.out.set (c2:=c2) S3.out);clear fy cy zy R3 S3 R;generalize (((w3.setCell ⟨w.heap.size+1,0,none⟩ (.int .i64 k)).setCell ⟨w.heap.size+1,1,none⟩ (.int .i64 l)).setCell ⟨w.heap.size+1,2,none⟩ (.slice A2 s2.length c2)) =w4 at R4⊢;go_wp2_with fail;go_roundw
   case rel=>exact⟨q+1,s2,A2,c2,by go_num,by omega,T3.out,R4.out⟩
   case measure=>simp [intOf];omega
  ·obtain rfl:q=L.length:=by omega
   have hqi:decide ((L.length:Int) < (L.length:Int)) =false:=by simp
   rw [List.take_length] at HT;have cy:=bC R.out.y;have zy:=lB R.out.y;have cx:=bC R.out.x;have fx:=bF R.out.x;have zx:=lB R.out.x;have Y:=LH (dig_store R.out.x (.int .i64 k) (.int .i64 l) (.slice A s.length c));have S:=LH (dig_slT R.out.x R.out.s (.int .i64 k) (.int .i64 l) (.slice A s.length c));have B:=LH (dig_below R.out.b (q:=w.heap.size) (Nat.le_refl _) (.int .i64 k) (.int .i64 l) (.slice A s.length c));go_wp2_with fail;clear cx cy zx zy fx;generalize (((wr.setCell ⟨w.heap.size,0,none⟩ (.int .i64 k)).setCell ⟨w.heap.size,1,none⟩ (.int .i64 l)).setCell ⟨w.heap.size,2,none⟩ (.slice A s.length c)) =wz at Y S B⊢;have ce:=bC Y.out;have fe:=bF Y.out;have ze:=lB Y.out;exact bR (v:=.agg #[.int .i64 k,.int .i64 l,.slice A s.length c]) (by simp only [results,Tryz.results69];go_simp) rfl (show Of14Post l k L w _ _ from⟨s,A,c,rfl,HT.out,S.out,B.out⟩)
def xorB (x b:Int) :Int:=bits .xor .u8 x b
def nums (t:ByteArray) :List Int:=t.data.toList.map fun c=>(c.toNat:Int)
def spoilT (t:ByteArray) (a:Nat) (b:Int) :ByteArray:=strOfNums ((nums t).set a (xorB ((nums t).getD a 0) b))
theorem nums_len (t:ByteArray) : (nums t).length=t.size:=by
 unfold nums;rw [List.length_map,Array.length_toList]
 rfl
structure BytesConv (t:ByteArray) (a:Nat) (x y:Int) (t':ByteArray) :Prop where
 conv: ∀W:World,(convert 9 129 (.string t)).run Tryz.prog W=.ok (.slice (some ⟨W.heap.size,0,none⟩) t.size (grownCap W t.size 0 5)) (Lib.bytesWorld W 5 t)
 size: ∀W:World,(Lib.bytesWorld W 5 t).heap.size=W.heap.size+1
 old: ∀(W:World) (b o:Nat),b<W.heap.size→(Lib.bytesWorld W 5 t).cell? ⟨b,o,none⟩ =W.cell? ⟨b,o,none⟩
 oldf: ∀(W:World) (b o:Nat),b<W.heap.size→(Lib.bytesWorld W 5 t).frozen? ⟨b,o,none⟩ =W.frozen? ⟨b,o,none⟩
 cell: ∀W:World,(Lib.bytesWorld W 5 t).cell? ⟨W.heap.size,a,none⟩ =some (.int .u8 x)
 frozen: ∀W:World,(Lib.bytesWorld W 5 t).frozen? ⟨W.heap.size,a,none⟩ =false
 back: ∀(W:World) (c:Nat),(convert 129 9 (.slice (some ⟨W.heap.size,0,none⟩) t.size c)).run Tryz.prog ((Lib.bytesWorld W 5 t).setCell ⟨W.heap.size,a,none⟩ (.int .u8 y)) =.ok (.string t') ((Lib.bytesWorld W 5 t).setCell ⟨W.heap.size,a,none⟩ (.int .u8 y))
 back1: ∀(W:World) (c:Nat),(convert 129 9 (.slice (some ⟨W.heap.size,0,none⟩) t.size c)).run Tryz.prog ((Lib.bytesWorld W 5 t).setCell ⟨W.heap.size,a,none⟩ (.int .u8 y)).drew=.ok (.string t') ((Lib.bytesWorld W 5 t).setCell ⟨W.heap.size,a,none⟩ (.int .u8 y)).drew
 backAny: ∀(W W':World) (c:Nat),(∀j,W'.cell? ⟨W.heap.size,j,none⟩ = ((Lib.bytesWorld W 5 t).setCell ⟨W.heap.size,a,none⟩ (.int .u8 y)).cell? ⟨W.heap.size,j,none⟩)→
  (convert 129 9 (.slice (some ⟨W.heap.size,0,none⟩) t.size c)).run Tryz.prog W'=.ok (.string t') W'
theorem nums_get (t:ByteArray) (j:Nat) (hj:j<t.size) : (nums t).getD j 0= ((t.data.toList.getD j 0).toNat:Int):=by
 have:j<t.data.toList.length:=by rw [Array.length_toList];exact hj
 simp [nums,List.getD,List.getElem?_eq_getElem this]
theorem bytesConv (t:ByteArray) (a:Nat) (ha:a<t.size) (b:Int) :BytesConv t a ((nums t).getD a 0) (xorB ((nums t).getD a 0) b) (spoilT t a b):=by
 have hcell: ∀(W:World) (j:Nat),j<t.size→(Lib.bytesWorld W 5 t).cell? ⟨W.heap.size,j,none⟩ =some (.int .u8 ((nums t).getD j 0)):=by
  intro W j hj;rw [Lib.bytesWorld_cell W _ t j hj,nums_get t j hj]
 have hset: ∀(W:World) (y:Int),∀i,i<t.size→((Lib.bytesWorld W 5 t).setCell ⟨W.heap.size,a,none⟩ (.int .u8 y)).cell? ⟨W.heap.size,0+i,none⟩ =some (.int .u8 (((nums t).set a y).getD i 0)):=by
  intro W y i hi;rw [Nat.zero_add];by_cases he:i=a
  ·subst he
   rw [World.cell?_setCell_same _ _ _ (hcell W i hi)];simp [List.getD,nums_len,hi]
  ·rw [World.cell?_setCell_other _ _ _ _ (by intro h;injection h;omega),hcell W i hi]
   simp [List.getD,List.getElem?_set,Ne.symm he]
 refine⟨fun W=>Lib.run_convert_string_bytes W _ _ _ t Tryz.underlying9 Tryz.underlying129 Tryz.underlying5,fun W=>Lib.bytesWorld_size W _ t,fun W b o h=>Lib.bytesWorld_old W _ t ⟨b,o,none⟩ h,
  fun W b o h=>World.frozen?_of_block (w:=W) (Lib.bytesWorld_at_old W _ t b h),fun W=>hcell W a ha,fun W=> ?_,fun W c=> ?_,fun W c=> ?_,fun W W' c hW=> ?_⟩
 ·simp only [World.frozen?,Lib.bytesWorld_at_new]
  have: (Lib.bytesCells W 5 t).size≥t.size:=by
   unfold Lib.bytesCells;rw [Array.size_append,Array.size_map];exact Nat.le_add_right _ _
  simp
  omega
 ·exact run_convert_bytes_arg _ _ _ Tryz.underlying129 Tryz.underlying5 W.heap.size 0 t.size c ((nums t).set a (xorB ((nums t).getD a 0) b)) (by simp [nums_len]) (hset W _) _ Tryz.underlying9
 ·exact run_convert_bytes_arg (P:=Tryz.prog) ((Lib.bytesWorld W 5 t).setCell ⟨W.heap.size,a,none⟩ (.int .u8 (xorB ((nums t).getD a 0) b))).drew _ _ Tryz.underlying129 Tryz.underlying5 W.heap.size 0 t.size c ((nums t).set a (xorB ((nums t).getD a 0) b)) (by simp [nums_len]) (hset W _) _ Tryz.underlying9
 ·exact run_convert_bytes_arg (P:=Tryz.prog) W' _ _ Tryz.underlying129 Tryz.underlying5 W.heap.size 0 t.size c ((nums t).set a (xorB ((nums t).getD a 0) b)) (by simp [nums_len]) (fun i hi=>by rw [hW];exact hset W _ i hi) _ Tryz.underlying9
theorem bytes_below (W:World) (e:TypeId) (t:ByteArray) :Below W.heap.size W (Lib.bytesWorld W e t):=
 ⟨rfl,rfl,rfl,by rw [Lib.bytesWorld_size];omega,fun k hk=>Lib.bytesWorld_at_old W e t k hk⟩
theorem bytesBack (t:List UInt8) (W W':World) (c:Nat) (h: ∀j,W'.cell? ⟨W.heap.size,j,none⟩ = (Lib.bytesWorld W 5 ⟨t.toArray⟩).cell? ⟨W.heap.size,j,none⟩) :
 (convert 129 9 (.slice (some ⟨W.heap.size,0,none⟩) t.length c)).run Tryz.prog W'=.ok (.string ⟨t.toArray⟩) W':=by
 refine run_convert_bytes_back (P:=Tryz.prog) W' 129 9 5 ⟨W.heap.size,0,none⟩ c t Tryz.underlying129 Tryz.underlying5 Tryz.underlying9 ?_;intro i hi;have hs:i< (⟨t.toArray⟩ :ByteArray).size:=by first|exact hi|simpa [ByteArray.size] using hi
 have h1:=Lib.bytesWorld_cell W 5 ⟨t.toArray⟩ i hs;have h2:W'.cell? ⟨W.heap.size,i,none⟩ =some (.int .u8 (t[i].toNat:Int)):=by rw [h,h1];simp [List.getD,hi]
 by_cases hz:i=0
 ·subst hz;simpa [Addr.add] using h2
 ·simpa [Addr.add,hz] using h2
theorem sum_mod {A:Nat×Nat} (b:Nat) (hb:b<256) (h:A.1<65521∧A.2<65521) : ((A.1:Int) + (b:Int)).tmod 65521= ((((A.1+b) % 65521:Nat)) :Int)∧((A.2:Int) + ((((A.1+b) % 65521:Nat)) :Int)).tmod 65521= (((A.2+ (A.1+b)) % 65521:Nat) :Int):=by
 obtain⟨a1,a2⟩:=A;dsimp only at h⊢;rw [Int.tmod_eq_emod_of_nonneg (by omega),Int.tmod_eq_emod_of_nonneg (by omega)];omega
theorem ref23_Of (w:World) (l:List UInt8) (hl:l.length≤1000000000000) :
 Calls Tryz.prog 158 #[.string ⟨l.toArray⟩] w fun e w'=>e=.returned (.tuple #[.int .i64 (sumT (1,0) l).1,.int .i64 (sumT (1,0) l).2])∧Below w.heap.size w w':=by
 have HM:Hid (∀W,Calls Tryz.prog 197 #[.int .i64 1,.int .i64 0,.string ⟨l.toArray⟩] W fun e w'=>e=.returned (.tuple #[.int .i64 (sumT (1,0) l).1,.int .i64 (sumT (1,0) l).2])∧Below W.heap.size W w'):=LH (fun W=>by
  go_enter Tryz.func197,Tryz.ntmps197
  go_wp2_with fail
  go_loopw [0,1,8] (fun a b i wr=>∃q:Nat,i=.int .i64 q∧q≤l.length∧a=.int .i64 (sumT (1,0) (l.take q)).1∧b=.int .i64 (sumT (1,0) (l.take q)).2∧Below W.heap.size W wr) (fun _ _ i _=>l.length - (intOf i).toNat)
  case atStart=>exact⟨0,rfl,Nat.zero_le _,rfl,rfl,Below.refl _ _⟩
  case round=>
   obtain⟨q,rfl,hq,rfl,rfl,hB⟩:=hrel;have HB:=LH hB;clear hB;by_cases hlt:q<l.length
   ·have hqi: (q:Int) < (l.length:Int):=by omega
    have hT:=LH (sumT_take (A:=(1,0)) hlt);have hix:=fun W=>text_at W l q hlt;have hbl: (l[q]).toNat<256:=(l[q]).toNat_lt;have hsl:=sumT_lt (s:=(1,0)) (by decide) (l.take q);generalize l[q] =y at hT hix hbl;generalize hA:sumT (1,0) (l.take q) =A at hT hsl⊢;have HA:=LH hA;have hmm:=sum_mod y.toNat hbl hsl;have HN:Hid (((A.1+y.toNat) % 65521,(A.2+ (A.1+y.toNat)) % 65521) =sumT (1,0) (l.take (q+1))):=LH hT.out.symm;clear hA hT;obtain⟨a1,a2⟩:=A;dsimp only at hmm HN hsl⊢;generalize y.toNat=b at hix hbl hmm HN;obtain⟨n1,h1⟩ : ∃n,n= (a1+b) % 65521:=⟨_,rfl⟩;obtain⟨n2,h2⟩ : ∃n,n= (a2+ (a1+b)) % 65521:=⟨_,rfl⟩;rw [←h1,←h2] at hmm HN;have hn1:n1≤65520:=by omega
    clear h1 h2;obtain⟨m1,m2⟩:=hmm;obtain⟨s1,s2⟩:=hsl;go_wp2_with fail;go_roundw
    case rel=>exact⟨q+1,by go_num,by omega,by rw [←HN.out],by rw [←HN.out],HB.out⟩
    case measure=>simp [intOf];omega
   ·obtain rfl:q=l.length:=by omega
    rw [List.take_length];have hqi:decide ((l.length:Int) < (l.length:Int)) =false:=by simp
    generalize hG:sumT (1,0) l=G;have HG:=LH hG;clear hG;go_wp2_with fail;exact bR (v:=.tuple #[.int .i64 G.1,.int .i64 G.2]) (by simp only [results,Tryz.results197];go_simp) rfl ⟨by rw [HG.out],HB.out⟩)
 go_enter Tryz.func158,Tryz.ntmps158
 go_wp2_with fail;refine(HM.out w).mono ?_;rintro e w1 ⟨rfl,hb1⟩;go_wp2_with fail;exact bR (v:=.tuple #[.int .i64 (sumT (1,0) l).1,.int .i64 (sumT (1,0) l).2]) (by simp only [results,Tryz.results158];go_simp) rfl ⟨rfl,hb1⟩
theorem ref23_Bytes (w:World) (s:Nat×Nat) (h:s.1<65521∧s.2<65521) :Calls Tryz.prog 159 #[.int .i64 s.1,.int .i64 s.2] w fun e w'=>e=.returned (.string ⟨(bytesL s).toArray⟩)∧Below w.heap.size w w':=by
 have h1: (s.2:Int) / 256= ((UInt8.ofNat (s.2 / 256)).toNat:Int):=by rw [UInt8.toNat_ofNat'];omega
 have h2: (s.2:Int) % 256= ((UInt8.ofNat s.2).toNat:Int):=by rw [UInt8.toNat_ofNat'];omega
 have h3: (s.1:Int) / 256= ((UInt8.ofNat (s.1 / 256)).toNat:Int):=by rw [UInt8.toNat_ofNat'];omega
 have h4: (s.1:Int) % 256= ((UInt8.ofNat s.1).toNat:Int):=by rw [UInt8.toNat_ofNat'];omega
 unfold bytesL;generalize UInt8.ofNat (s.2 / 256) =a at h1⊢;generalize UInt8.ofNat s.2=b at h2⊢;generalize UInt8.ofNat (s.1 / 256) =c at h3⊢;generalize UInt8.ofNat s.1=d at h4⊢;have hcv:=back4 w a b c d w.heap.size rfl;have HB:Hid (Below w.heap.size w (w.alloc (.cells #[.int .u8 (a.toNat:Int),.int .u8 (b.toNat:Int),.int .u8 (c.toNat:Int),.int .u8 (d.toNat:Int)] 5))):=LH bE;have h5:=h.1;have h6:=h.2;clear h
 go_enter Tryz.func159,Tryz.ntmps159
 go_wp2_with fail;exact bR (v:=.string ⟨[a,b,c,d].toArray⟩) (by simp only [results,Tryz.results159];go_simp) rfl ⟨rfl,HB.out⟩
theorem ref23_Seal (w:World) (l:List UInt8) (hl:l.length≤8000000) :Calls Tryz.prog 114 #[.string ⟨l.toArray⟩] w fun e w'=>e=.returned (.string ⟨(sealT l).toArray⟩)∧Below w.heap.size w w':=by
 unfold sealT;have HO:=LH (ref23_Of w l (by omega));have HS:=LH (sumT_lt (s:=(1,0)) (by decide) l);generalize sumT (1,0) l=S at HO HS⊢;have hcat:=fun W=>run_string_add_lists (P:=Tryz.prog) W l (bytesL S) (by omega) (by simp [bytesL])
 go_enter Tryz.func114,Tryz.ntmps114
 go_wp2_with fail;refine HO.out.mono ?_;rintro e w1 ⟨rfl,hb1⟩;have HB1:=LH hb1;clear hb1;go_wp2_with fail;refine(ref23_Bytes w1 S HS.out).mono ?_;rintro e w2 ⟨rfl,hb2⟩;have HB2:=LH (Below.then_ HB1.out hb2);clear hb2;go_wp2_with fail;exact bR (v:=.string ⟨(l ++ bytesL S).toArray⟩) (by simp only [results,Tryz.results114];go_simp) rfl ⟨rfl,HB2.out⟩
def OpenPost (s:List UInt8) (w:World) (e:Ending) (w':World) :Prop:=e=.returned (.tuple #[.string ⟨(openT s).1.toArray⟩,.int .i64 (openT s).2])∧Below w.heap.size w w'
theorem text_take (l:List UInt8) (n:Nat) : (ByteArray.mk l.toArray).extract 0 n= ⟨(l.take n).toArray⟩:=by
 apply ByteArray.ext
 simp [ByteArray.data_extract]
theorem ref23_Open (w:World) (s:List UInt8) (hl:s.length≤8000000) :Calls Tryz.prog 64 #[.string ⟨s.toArray⟩] w (OpenPost s w):=by
 unfold OpenPost openT;by_cases h4:s.length<4
 ·have h4i: (s.length:Int) <4:=by omega
  rw [if_pos h4]
  go_enter Tryz.func64,Tryz.ntmps64
  go_wp2_with fail;exact bR (v:=.tuple #[.string ⟨#[]⟩,.int .i64 9]) (by simp only [results,Tryz.results64];go_simp) rfl ⟨rfl,Below.refl _ _⟩
 ·have h4i: ¬(s.length:Int) <4:=by omega
  rw [if_neg h4];obtain⟨n,hn⟩ : ∃n,n=s.length - 4:=⟨_,rfl⟩;rw [←hn];have hni: (s.length:Int) - 4= (n:Int):=by omega
  have htt:=text_take s n;have HSe:=LH (fun W=>ref23_Seal W (s.take n) (by rw [List.length_take];omega));clear hn;generalize s.take n=t at htt HSe⊢;generalize sealT t=u at HSe⊢;by_cases he:u=s
  ·rw [if_pos he]
   have hd: (u == s) =true:=by simpa using he
   clear he
   go_enter Tryz.func64,Tryz.ntmps64
   go_wp2_with fail;refine(HSe.out w).mono ?_;rintro e w1 ⟨rfl,hb1⟩;go_wp2_with fail;exact bR (v:=.tuple #[.string ⟨t.toArray⟩,.int .i64 0]) (by simp only [results,Tryz.results64];go_simp) rfl ⟨rfl,hb1⟩
  ·rw [if_neg he]
   have hd: (u == s) =false:=by simpa using he
   clear he
   go_enter Tryz.func64,Tryz.ntmps64
   go_wp2_with fail;refine(HSe.out w).mono ?_;rintro e w1 ⟨rfl,hb1⟩;go_wp2_with fail;exact bR (v:=.tuple #[.string ⟨#[]⟩,.int .i64 12]) (by simp only [results,Tryz.results64];go_simp) rfl ⟨rfl,hb1⟩
theorem seal_Open (w:World) (s:List UInt8) (hl:s.length≤8000000) :Calls Tryz.prog 101 #[.string ⟨s.toArray⟩] w (OpenPost s w):=by
 unfold OpenPost openT;by_cases h4:s.length<4
 ·have h4i:decide ((s.length:Int) - 4<0) =true:=by simp;omega
  rw [if_pos h4]
  go_enter Tryz.func101,Tryz.ntmps101
  go_wp2_with fail;exact bR (v:=.tuple #[.string ⟨#[]⟩,.int .i64 9]) (by simp only [results,Tryz.results101];go_simp) rfl ⟨rfl,Below.refl _ _⟩
 ·rw [if_neg h4]
  obtain⟨n,hn⟩ : ∃n,n=s.length - 4:=⟨_,rfl⟩;rw [←hn];have hni: (s.length:Int) - 4= (n:Int):=by omega
  have hns:n≤s.length:=by omega
  have h4i:decide ((n:Int) <0) =false:=by simp
  have htt:=text_take s n;have htd:=text_drop s n
  have hcut: (sealT (s.take n) =s)↔(bytesL (sumT (1,0) (s.take n)) =s.drop n):=by
   unfold sealT;refine⟨fun h=> ?_,fun h=> ?_⟩
   ·have h2:s.take n ++ bytesL (sumT (1,0) (s.take n)) =s.take n ++ s.drop n:=by rw [h,List.take_append_drop]
    exact List.append_cancel_left h2
   ·rw [h,List.take_append_drop]
  have htl: (s.take n).length≤8000000:=by rw [List.length_take];omega
  have HS:=LH (sumT_lt (s:=(1,0)) (by decide) (s.take n))
  have HR:Hid (∀(P:List UInt8×Int→Prop),(bytesL (sumT (1,0) (s.take n)) =s.drop n→P (s.take n,0))→(¬bytesL (sumT (1,0) (s.take n)) =s.drop n→P ([],12))→P (if sealT (s.take n) =s then (s.take n,0) else ([],12))):=LH fun P h1 h2=>by
   by_cases he:bytesL (sumT (1,0) (s.take n)) =s.drop n
   ·rw [if_pos (hcut.2 he)];exact h1 he
   ·rw [if_neg (fun h=>he (hcut.1 h))];exact h2 he
  refine HR.out (fun z=>Calls Tryz.prog 101 #[.string ⟨s.toArray⟩] w fun e w'=>e=.returned (.tuple #[.string ⟨z.1.toArray⟩,.int .i64 z.2])∧Below w.heap.size w w') ?_ ?_
  all_goals clear hn hcut HR
  all_goals generalize hT:s.take n=t at htt HS htl⊢
  all_goals generalize s.drop n=d at htd⊢
  all_goals clear hT
  all_goals have HF:Hid (∀W:World,Calls Tryz.prog 150 #[.slice (some ⟨W.heap.size,0,none⟩) 1 1] (W.alloc (.cells #[.string ⟨t.toArray⟩] 9)) fun e w'=>e=.returned (sumV (sumT (1,0) t))∧Below W.heap.size W w'):=LH (fun W=>by
   have h:=seal_Of _ _ _ _ (Own.lit W encT [t] 9 (Nat.le_refl _) (by simp [maxLen])) (by simp;omega) (by simp);rw [show [t].flatten=t by simp] at h;refine h.mono ?_;rintro e w' ⟨he,hb⟩;exact⟨he,((Below.refl W.heap.size W).alloc (Nat.le_refl _) _).trans (hb.mono (by simp))⟩)
  all_goals generalize sumT (1,0) t=S at HF HS⊢
  all_goals have HBy:=LH (fun W=>seal_Bytes W S HS.out)
  all_goals generalize bytesL S=u at HBy⊢
  all_goals intro he
  ·have hd: (u == d) =true:=by simpa using he
   clear he
   go_enter Tryz.func101,Tryz.ntmps101
   go_upto_region 4 with fail;refine wp_region_noPanic ?_;refine wp_region_N (fun _=>True) [] (by kernel_rfl) (trivial) (fun hHeld=> ?_);refine nP 0 (Value.string ⟨s.toArray⟩) (h:= ?_)
   (try simp only [zA,zB,zC,Act.put,zD,zE,zF])
   refine nP 1 (Value.int .i64 n) (h:= ?_)
   (try simp only [zA,zB,zC,Act.put,zD,zE,zF])
   refine nP 2 (Value.string ⟨t.toArray⟩) (h:= ?_)
   (try simp only [zA,zB,zC,Act.put,zD,zE,zF])
   refine nP 6 (Value.string ⟨s.toArray⟩) (h:= ?_)
   (try simp only [zA,zB,zC,Act.put,zD,zE,zF])
   refine nP 7 (Value.int .i64 n) (h:= ?_)
   (try simp only [zA,zB,zC,Act.put,zD,zE,zF])
   refine nP 8 (Value.string ⟨d.toArray⟩) (h:= ?_)
   (try simp only [zA,zB,zC,Act.put,zD,zE,zF])
   refine nO (i:=3) (by kernel_rfl) rfl (fun K hK=> ?_);go_simp;refine hK.out _ _ (fun _ _=>trivial) ?_;clear hK K
   (try simp only [zA,zB,zC,Act.put,zD,zE,zF])
   refine nO (i:=4) (by kernel_rfl) rfl (fun K hK=> ?_);go_simp;refine(HF.out w.drew).mono ?_;rintro e w1 ⟨rfl,hb1⟩;have HB1:=LH hb1;clear hb1;refine hK.out _ _ (fun _ _=>trivial) ?_;clear hK K
   (try simp only [zA,zB,zC,Act.put,zD,zE,zF])
   refine nO (i:=5) (by kernel_rfl) rfl (fun K hK=> ?_);go_simp;refine(HBy.out w1).mono ?_;rintro e w2 ⟨rfl,hb2⟩;have HB2:=LH (Below.then_ HB1.out hb2);clear hb2;refine hK.out _ _ (fun _ _=>trivial) ?_;clear hK K
   (try simp only [zA,zB,zC,Act.put,zD,zE,zF])
   refine nO (i:=9) (by kernel_rfl) rfl (fun K hK=> ?_);go_simp;refine hK.out _ _ (fun _ _=>trivial) ?_;clear hK K
   (try simp only [zA,zB,zC,Act.put,zD,zE,zF])
   refine nD (by kernel_rfl) ?_ _;refine NoPanic.normal ?_;go_wp2_with fail;exact bR (v:=.tuple #[.string ⟨t.toArray⟩,.int .i64 0]) (by simp only [results,Tryz.results101];go_simp) rfl ⟨rfl,(Below.drew (Below.refl _ _)).trans HB2.out⟩
  ·have hd: (u == d) =false:=by simpa using he
   clear he
   go_enter Tryz.func101,Tryz.ntmps101
   go_upto_region 4 with fail;refine wp_region_noPanic ?_;refine wp_region_N (fun _=>True) [] (by kernel_rfl) (trivial) (fun hHeld=> ?_);refine nP 0 (Value.string ⟨s.toArray⟩) (h:= ?_)
   (try simp only [zA,zB,zC,Act.put,zD,zE,zF])
   refine nP 1 (Value.int .i64 n) (h:= ?_)
   (try simp only [zA,zB,zC,Act.put,zD,zE,zF])
   refine nP 2 (Value.string ⟨t.toArray⟩) (h:= ?_)
   (try simp only [zA,zB,zC,Act.put,zD,zE,zF])
   refine nP 6 (Value.string ⟨s.toArray⟩) (h:= ?_)
   (try simp only [zA,zB,zC,Act.put,zD,zE,zF])
   refine nP 7 (Value.int .i64 n) (h:= ?_)
   (try simp only [zA,zB,zC,Act.put,zD,zE,zF])
   refine nP 8 (Value.string ⟨d.toArray⟩) (h:= ?_)
   (try simp only [zA,zB,zC,Act.put,zD,zE,zF])
   refine nO (i:=3) (by kernel_rfl) rfl (fun K hK=> ?_);go_simp;refine hK.out _ _ (fun _ _=>trivial) ?_;clear hK K
   (try simp only [zA,zB,zC,Act.put,zD,zE,zF])
   refine nO (i:=4) (by kernel_rfl) rfl (fun K hK=> ?_);go_simp;refine(HF.out w.drew).mono ?_;rintro e w1 ⟨rfl,hb1⟩;have HB1:=LH hb1;clear hb1;refine hK.out _ _ (fun _ _=>trivial) ?_;clear hK K
   (try simp only [zA,zB,zC,Act.put,zD,zE,zF])
   refine nO (i:=5) (by kernel_rfl) rfl (fun K hK=> ?_);go_simp;refine(HBy.out w1).mono ?_;rintro e w2 ⟨rfl,hb2⟩;have HB2:=LH (Below.then_ HB1.out hb2);clear hb2;refine hK.out _ _ (fun _ _=>trivial) ?_;clear hK K
   (try simp only [zA,zB,zC,Act.put,zD,zE,zF])
   refine nO (i:=9) (by kernel_rfl) rfl (fun K hK=> ?_);go_simp;refine hK.out _ _ (fun _ _=>trivial) ?_;clear hK K
   (try simp only [zA,zB,zC,Act.put,zD,zE,zF])
   refine nD (by kernel_rfl) ?_ _;refine NoPanic.normal ?_;go_wp2_with fail;exact bR (v:=.tuple #[.string ⟨#[]⟩,.int .i64 12]) (by simp only [results,Tryz.results101];go_simp) rfl ⟨rfl,(Below.drew (Below.refl _ _)).trans HB2.out⟩
def LtR (W:World) (g:Nat) (e f:Int) (c:Nat) (b:List UInt8) :Prop:=W.heap[g]? =some (.cells #[.int .i64 e,.int .i64 f,.int .u64 c,.string ⟨b.toArray⟩] 64 (0,0))
theorem LtR.below {w w':World} {g:Nat} {e f:Int} {c:Nat} {b:List UInt8} (h:LtR w g e f c b) (hb:Below w.heap.size w w') :LtR w' g e f c b:=bB h hb
theorem LtR.new (w:World) (e f:Int) (c:Nat) (b:List UInt8) :LtR (w.alloc (.cells #[.int .i64 e,.int .i64 f,.int .u64 c,.string ⟨b.toArray⟩] 64)) w.heap.size e f c b:=heap_alloc_new w _
theorem rightL_at (e f:Int) (c:Nat) (b:List UInt8) :rightL ⟨e,f,c,b⟩ = (decide (0≤e) && (isCrew f && (rightC c && (hasC c f && decide ((b.length:Int)≤1048576))))):=by
 unfold rightL;dsimp only;have h1:decide ((b.length:Int)≤1048576) =decide (b.length≤1048576):=decide_eq_decide.2 (by omega);rw [h1];unfold hasC
 cases decide (0≤e) <;> cases isCrew f <;> cases rightC c <;> cases hasN c f.toNat <;> simp
theorem ref29_Right (w:World) (e f:Int) (c:Nat) (b:List UInt8) (hc:c<2^64) :Calls Tryz.prog 117 #[.agg #[.int .i64 e,.int .i64 f,.int .u64 c,.string ⟨b.toArray⟩]] w fun en w'=>en=.returned (.bool (rightL ⟨e,f,c,b⟩))∧Below w.heap.size w w':=by
 have HI:=LH (fun W=>ref27_Is f W);have HR:=LH (fun W=>ref27_Right c W);have HH:=LH (fun W=>ref27_Has c f hc W);have HB0:Hid (Below w.heap.size w (w.alloc (.cells #[.int .i64 e,.int .i64 f,.int .u64 c,.string ⟨b.toArray⟩] 64))):=LH bE;have HL0:=LH (LtR.new w e f c b);have HV:=LH (rightL_at e f c b);generalize rightL ⟨e,f,c,b⟩ =V at HV⊢;generalize hasC c f=z4 at HH HV;generalize isCrew f=z2 at HI HV;generalize rightC c=z3 at HR HV;clear hc;by_cases h:0≤e
 ·have hd:decide (0≤e) =true:=by simpa using h
  rw [hd,Bool.true_and] at HV
  cases z2
  ·rw [Bool.false_and] at HV
   go_enter Tryz.func117,Tryz.ntmps117
   go_wp2_with fail;refine(HI.out _).mono ?_;rintro e1 w1 ⟨rfl,hb1⟩;have HB1:=LH (HB0.out.trans (hb1.mono (by simp)));clear hb1;go_wp2_with fail;exact bR (v:=.bool false) (by simp only [results,Tryz.results117];go_simp) rfl ⟨by rw [HV.out],HB1.out⟩
  ·rw [Bool.true_and] at HV
   cases z3
   ·rw [Bool.false_and] at HV
    go_enter Tryz.func117,Tryz.ntmps117
    go_wp2_with fail;refine(HI.out _).mono ?_;rintro e1 w1 ⟨rfl,hb1⟩;have HB1:=LH (HB0.out.trans (hb1.mono (by simp)));have HL1:=LH (HL0.out.below hb1);clear hb1;have cc:=bC HL1.out;have cf:=bF HL1.out;have zb:=lB HL1.out;go_wp2_with fail;refine(HR.out _).mono ?_;rintro e2 w2 ⟨rfl,hb2⟩;have HB2:=LH (HB1.out.trans (hb2.mono HB1.out.size));clear hb2 cc cf zb;go_wp2_with fail;exact bR (v:=.bool false) (by simp only [results,Tryz.results117];go_simp) rfl ⟨by rw [HV.out],HB2.out⟩
   ·rw [Bool.true_and] at HV
    go_enter Tryz.func117,Tryz.ntmps117
    go_wp2_with fail;refine(HI.out _).mono ?_;rintro e1 w1 ⟨rfl,hb1⟩;have HB1:=LH (HB0.out.trans (hb1.mono (by simp)));have HL1:=LH (HL0.out.below hb1);clear hb1;have cc:=bC HL1.out;have cf:=bF HL1.out;have zb:=lB HL1.out;go_wp2_with fail;refine(HR.out _).mono ?_;rintro e2 w2 ⟨rfl,hb2⟩;have HB2:=LH (HB1.out.trans (hb2.mono HB1.out.size));have HL2:=LH (HL1.out.below hb2);clear hb2 cc cf zb;have cc:=bC HL2.out;have cf:=bF HL2.out;have zb:=lB HL2.out;go_wp2_with fail;refine(HH.out _).mono ?_;rintro e3 w3 ⟨rfl,hb3⟩;have HB3:=LH (HB2.out.trans (hb3.mono HB2.out.size));have HL3:=LH (HL2.out.below hb3);clear hb3 cc cf zb;have cc:=bC HL3.out;have cf:=bF HL3.out;have zb:=lB HL3.out
    cases z4
    ·rw [Bool.false_and] at HV
     go_wp2_with fail;exact bR (v:=.bool false) (by simp only [results,Tryz.results117];go_simp) rfl ⟨by rw [HV.out],HB3.out⟩
    ·rw [Bool.true_and] at HV
     go_wp2_with fail;exact bR (v:=.bool (decide ((b.length:Int)≤1048576))) (by simp only [results,Tryz.results117];go_simp) rfl ⟨by rw [HV.out],HB3.out⟩
 ·have hd:decide (0≤e) =false:=by simpa using h
  rw [hd,Bool.false_and] at HV
  go_enter Tryz.func117,Tryz.ntmps117
  go_wp2_with fail;exact bR (v:=.bool false) (by simp only [results,Tryz.results117];go_simp) rfl ⟨by rw [HV.out],HB0.out⟩
def enc29 (e f:Int) (c:Nat) (b:List UInt8) :List UInt8×Int:=if rightL ⟨e,f,c,b⟩ =true then (ltrT ⟨e,f,c,b⟩,0) else ([],2)
theorem ref29_Encode (w:World) (e f:Int) (c:Nat) (b:List UInt8) (hc:c<2^64) (he:e≤9223372036854775807) :
 Calls Tryz.prog 70 #[.agg #[.int .i64 e,.int .i64 f,.int .u64 c,.string ⟨b.toArray⟩]] w fun en w'=>en=.returned (.tuple #[.string ⟨(enc29 e f c b).1.toArray⟩,.int .i64 (enc29 e f c b).2])∧Below w.heap.size w w':=by
 have HR:=LH (fun W=>ref29_Right W e f c b hc);have HB0:Hid (Below w.heap.size w (w.alloc (.cells #[.int .i64 e,.int .i64 f,.int .u64 c,.string ⟨b.toArray⟩] 64))):=LH bE;have HL0:=LH (LtR.new w e f c b);unfold enc29
 cases hr:rightL ⟨e,f,c,b⟩
 ·rw [hr] at HR
  rw [if_neg (by simp)];clear hr hc
  go_enter Tryz.func70,Tryz.ntmps70
  go_wp2_with fail;refine(HR.out _).mono ?_;rintro e1 w1 ⟨rfl,hb1⟩;have HB1:=LH (HB0.out.trans (hb1.mono (by simp)));clear hb1;go_wp2_with fail;exact bR (v:=.tuple #[.string ⟨#[]⟩,.int .i64 2]) (by simp only [results,Tryz.results70];go_simp) rfl ⟨rfl,HB1.out⟩
 ·rw [hr] at HR
  rw [if_pos rfl];have hs:=hr;simp only [rightL,hasC,rightC,isCrew,Bool.and_eq_true,decide_eq_true_eq] at hs;obtain⟨⟨⟨h1,⟨h2,_⟩⟩,h3⟩,h4⟩:=hs;obtain⟨en,hen⟩:=Int.eq_ofNat_of_zero_le h1;obtain⟨fn,hfn⟩:=Int.eq_ofNat_of_zero_le h2.1;have HT:Hid (ltrT ⟨e,f,c,b⟩ =sealT ((((([68,87,76,1] ++ oneB en) ++ oneB fn) ++ oneB c) ++ oneB b.length) ++ b)):=LH (by unfold ltrT ltrL;rw [hen,hfn];simp only [putB_cons,putB_nil,Int.toNat_natCast,List.append_nil,List.append_assoc]);rw [HT.out];subst hen hfn;have H1:=LH (fun W=>ref22_One W en (by omega));have H2:=LH (fun W=>ref22_One W fn (by omega));have H3:=LH (fun W=>ref22_One W c (by omega));have H4:=LH (fun W=>ref22_One W b.length (by omega));have o1:=oneB_le (n:=en) (by omega);have o2:=oneB_le (n:=fn) (by omega);have o3:=oneB_le (n:=c) (by omega);have o4:=oneB_le (n:=b.length) (by omega);have hcw:wrap64 (c:Int) = (c:Int):=by unfold wrap64;omega
  clear hr hc HT;generalize oneB en=t1 at H1 o1⊢;generalize oneB fn=t2 at H2 o2⊢;generalize oneB c=t3 at H3 o3⊢;generalize oneB b.length=t4 at H4 o4⊢;have hc1:=fun W=>run_string_add_lists (P:=Tryz.prog) W [68,87,76,1] t1 (by simp) (by omega);obtain⟨U1,hU1⟩ : ∃U,U= ([68,87,76,1] ++ t1:List UInt8):=⟨_,rfl⟩;rw [←hU1] at hc1⊢;have l1:U1.length≤13:=by rw [hU1];simp only [List.length_append,List.length_cons,List.length_nil];omega
  have hc2:=fun W=>run_string_add_lists (P:=Tryz.prog) W U1 t2 (by omega) (by omega);obtain⟨U2,hU2⟩ : ∃U,U=U1 ++ t2:=⟨_,rfl⟩;rw [←hU2] at hc2⊢;have l2:U2.length≤22:=by rw [hU2];simp only [List.length_append];omega
  have hc3:=fun W=>run_string_add_lists (P:=Tryz.prog) W U2 t3 (by omega) (by omega);obtain⟨U3,hU3⟩ : ∃U,U=U2 ++ t3:=⟨_,rfl⟩;rw [←hU3] at hc3⊢;have l3:U3.length≤31:=by rw [hU3];simp only [List.length_append];omega
  have hc4:=fun W=>run_string_add_lists (P:=Tryz.prog) W U3 t4 (by omega) (by omega);obtain⟨U4,hU4⟩ : ∃U,U=U3 ++ t4:=⟨_,rfl⟩;rw [←hU4] at hc4⊢;have l4:U4.length≤40:=by rw [hU4];simp only [List.length_append];omega
  have hc5:=fun W=>run_string_add_lists (P:=Tryz.prog) W U4 b (by omega) (by omega);obtain⟨U5,hU5⟩ : ∃U,U=U4 ++ b:=⟨_,rfl⟩;rw [←hU5] at hc5⊢;have l5:U5.length≤8000000:=by rw [hU5];simp only [List.length_append];omega
  have HS:=LH (fun W=>ref23_Seal W U5 l5);clear hU1 hU2 hU3 hU4 hU5;generalize sealT U5=Z at HS⊢
  go_enter Tryz.func70,Tryz.ntmps70
  go_wp2_with fail;refine(HR.out _).mono ?_;rintro e1 w1 ⟨rfl,hb1⟩;have HB1:=LH (HB0.out.trans (hb1.mono (by simp)));have HL1:=LH (HL0.out.below hb1);clear hb1 HB0 HL0;go_upto_region 3 with fail;have zb:=lB HL1.out;have cc:=bC HL1.out;refine rX (by kernel_rfl) (by kernel_rfl) ?_
  repeat (go_big_quiet_step (first
   | (go_at_call_of 118 (Value.int .i64 en);exact quiet_ext (H1.out _))
   | (go_at_call_of 118 (Value.int .i64 fn);exact quiet_ext (H2.out _))
   | (go_at_call_of 118 (Value.int .i64 c);exact quiet_ext (H3.out _))
   | (go_at_call_of 118 (Value.int .i64 b.length);exact quiet_ext (H4.out _))
   | (go_at_call 114;exact quiet_ext (HS.out _))))
  refine wpQuiet_nil ?_;intro w9 hb9;replace hb9:=bX hb9;have HB9:=LH (Below.then_ HB1.out hb9);go_wp2_with fail;exact bR (v:=.tuple #[.string ⟨Z.toArray⟩,.int .i64 0]) (by simp only [results,Tryz.results70];go_simp) rfl ⟨rfl,HB9.out⟩
def DigTo (w:World) (g K l:Nat) (k:Int) (s:List Nd) (F:Nat→Prop) (w':World) :Prop:=∃F',DigAt w' g K l k s F'∧Turn F w w'∧Grow w F F'
theorem DigTo.below {w:World} {g K l:Nat} {k:Int} {s:List Nd} {F:Nat→Prop} {w':World} (h:DigAt w g K l k s F) (hb:Below w.heap.size w w') :DigTo w g K l k s F w':=⟨F,h.below hb,.of_below hb,Grow.refl⟩
theorem PoolAt.not_dig {w:World} {p K l g:Nat} {r:List Nd} {F:Nat→Prop} (h:PoolAt w p K l r F) {cs:Array Value} (hh:w.heap[g]? =some (.cells cs 140 (0,0))) : ¬F g:=fun hf=>by
 obtain⟨t,ht,ha⟩:=h.typed g hf;have:=typeAt_eq ha (.of hh);subst this;rcases ht with h|h|h|h|h <;> revert h <;> decide
theorem DigAt.parts {w:World} {g K l:Nat} {k:Int} {r:List Nd} {F:Nat→Prop} (h:DigAt w g K l k r F) : ∃p F0,F=footP g F0∧w.heap[g]? =some (.cells #[.int .i64 k,.pointer (some ⟨p,0,none⟩)] 140 (0,0))∧PoolAt w p K l r F0∧¬F0 g∧1≤k∧k≤1048576:=by
 obtain⟨h1,h2,p,F0,hF,hh,hP⟩:=h;exact⟨p,F0,hF,hh,hP,hP.not_dig hh,h1,h2⟩
theorem digest_Len (w:World) (g K l:Nat) (k:Int) (r:List Nd) (F:Nat→Prop) (h:DigAt w g K l k r F) :Calls Tryz.prog 129 #[.pointer (some ⟨g,0,none⟩)] w fun e w'=>e=.returned (.int .i64 r.length)∧Below w.heap.size w w':=by
 obtain⟨h1,h2,p,F0,rfl,hh,hP⟩:=h;have c:=bC hh;have z:=lB hh;have HP:=LH hP;clear hh hP
 go_enter Tryz.func129,Tryz.ntmps129
 go_wp2_with fail;refine(pool_Len _ p K l r F0 HP.out).mono ?_;rintro e w1 ⟨rfl,hb1⟩;have B1:Below w.heap.size w w1:=Below.then_ bE hb1;have s1:=B1.size;go_wp2_with fail;go_ret;exact⟨rfl,bE⟩
theorem made_room (w:World) (k:Int) (h1:1≤k) (h2:k≤1048576) :Calls Tryz.prog 130 #[.agg #[.int .i64 k]] w fun e w'=>e=.returned (.int .i64 (8*k))∧Below w.heap.size w w':=by
 go_enter Tryz.func130,Tryz.ntmps130
 go_wp2_with fail;go_ret;exact⟨rfl,bE⟩
def CompPost (g K l:Nat) (k:Int) (r:List Nd) (F:Nat→Prop) (w:World) (e:Ending) (w':World) :Prop:=
 ∃(ps:List Int) (s:List Nd),e=.returned (.int .i64 ps.length)∧RunTo l (sumR r / k) r ps s∧DigTo w g K l k s F w'
theorem digest_Compress (w:World) (g K l:Nat) (k:Int) (r:List Nd) (F:Nat→Prop) (h:DigAt w g K l k r F) (hn:r.length≤67108864) :
 Calls Tryz.prog 82 #[.pointer (some ⟨g,0,none⟩)] w (CompPost g K l k r F w):=by
 obtain⟨h1,h2,p,F0,rfl,hh,hP⟩:=h;have hgF:=hP.not_dig hh;have c:=bC hh;have z:=lB hh;have HR:=LH (fun W h=>press_Run W p K l r F0 h hn k h1 h2);have HP:=LH hP;have HH:=LH hh;unfold CompPost;generalize sumR r / k=most at HR⊢;clear hh hP
 go_enter Tryz.func82,Tryz.ntmps82
 go_upto_region 3 with fail
 go_region_with (first
  | (go_at_call 132;refine(HR.out w.drew (HP.out.keep fun _ _=>rfl)).mono ?_;rintro e w1 ⟨ps,s,rfl,hR,_,F1,hP1,hT,hG⟩;have HE:Hid (RunTo l most r ps s∧DigTo w g K l k s (footP g F0) w1):=LH ⟨hR,footP g F1,⟨h1,h2,p,F1,rfl,hT.keep (w:=w.drew) HH.out hgF,hP1⟩,((Turn.refl _ w).drew.trans hT Grow.refl).mono (fun b _ hb=>.inr hb),hG.foot (w:=w.drew)⟩;clear hR hP1 hT hG))
 all_goals
  clear c z;go_wp2_with fail;go_ret;exact⟨ps,s,rfl,HE.out⟩
theorem digest_Insert (w:World) (g K l:Nat) (k:Int) (r:List Nd) (F:Nat→Prop) (h:DigAt w g K l k r F) (hn:r.length≤67108864) (x c:Int) :
 Calls Tryz.prog 81 #[.pointer (some ⟨g,0,none⟩),.int .i64 x,.int .i64 c] w fun e w'=>∃r',e=.returned (.int .i64 (insErr l r x c))∧InsTo l k r x c r'∧DigTo w g K l k r' F w':=by
 have hD:=LH h;have hll:=h.l_le;have hCo:=LH (fun W h=>digest_Compress W g K l k r F h hn);have hLn:=LH (fun W h=>digest_Len W g K l k r F h);obtain⟨h1,h2,p,F0,hFe,hh,hP⟩:=h;have s0:=sumR_nonneg hP.fits.roll;have s1:=hP.fits.sum;have HL:=LH (fun W h=>pool_L W p K l r F0 h);have HT:=LH (fun W h=>pool_Total W p K l r F0 h);have HLf:=LH (fun W=>twig_Leaf W l x hll.1 hll.2);have HP:=LH hP;have c0:=bC hh;have z0:=lB hh
 cases hv:isVal l x
 ·have e1:insErr l r x c=3:=by unfold insErr;rw [if_pos hv]
  have HE:Hid (InsTo l k r x c r):=LH (.inl ⟨by rw [e1];omega,rfl⟩);rw [e1];rw [leafV_no hv] at HLf;clear hh hP hv e1
  go_enter Tryz.func81,Tryz.ntmps81
  go_wp2_with fail;refine(HL.out _ HP.out).mono ?_;rintro e w1 ⟨rfl,hb1⟩;have B1:Below w.heap.size w w1:=Below.then_ bE hb1;have s1:=B1.size;have z1_0:g<w1.heap.size:=by have:=hb1.size;(try simp at this);omega
  have y1_0:g≤w1.heap.size:=Nat.le_of_lt z1_0;have c1_0:=czB hb1 (g);have f1_0:=fzB hb1 (g);go_wp2_with fail;refine(HLf.out _).mono ?_;rintro e w2 ⟨rfl,hb2⟩;have B2:Below w.heap.size w w2:=Below.then_ bE hb2;have s2:=B2.size;have z2_0:g<w2.heap.size:=by have:=hb2.size;(try simp at this);omega
  have y2_0:g≤w2.heap.size:=Nat.le_of_lt z2_0;have c2_0:=czB hb2 (g);have f2_0:=fzB hb2 (g);go_wp2_with fail;go_ret;exact⟨r,rfl,HE.out,.below hD.out B2⟩
 ·rw [leafV_yes hv] at HLf
  by_cases hc:c<1
  ·have e1:insErr l r x c=4:=by unfold insErr;rw [if_neg (by simp [hv]),if_pos hc]
   have HE:Hid (InsTo l k r x c r):=LH (.inl ⟨by rw [e1];omega,rfl⟩);rw [e1];clear hh hP hv e1
   go_enter Tryz.func81,Tryz.ntmps81
   go_wp2_with fail;refine(HL.out _ HP.out).mono ?_;rintro e w1 ⟨rfl,hb1⟩;have B1:Below w.heap.size w w1:=Below.then_ bE hb1;have s1:=B1.size;have z1_0:g<w1.heap.size:=by have:=hb1.size;(try simp at this);omega
   have y1_0:g≤w1.heap.size:=Nat.le_of_lt z1_0;have c1_0:=czB hb1 (g);have f1_0:=fzB hb1 (g);go_wp2_with fail;refine(HLf.out _).mono ?_;rintro e w2 ⟨rfl,hb2⟩;have B2:Below w.heap.size w w2:=Below.then_ bE hb2;have s2:=B2.size;have z2_0:g<w2.heap.size:=by have:=hb2.size;(try simp at this);omega
   have y2_0:g≤w2.heap.size:=Nat.le_of_lt z2_0;have c2_0:=czB hb2 (g);have f2_0:=fzB hb2 (g);go_wp2_with fail;go_ret;exact⟨r,rfl,HE.out,.below hD.out B2⟩
  ·have hc':decide (c<1) =false:=by simpa using hc
   by_cases hs:72057594037927935<sumR r+c
   ·have e1:insErr l r x c=5:=by unfold insErr;rw [if_neg (by simp [hv]),if_neg hc,if_pos hs]
    have HE:Hid (InsTo l k r x c r):=LH (.inl ⟨by rw [e1];omega,rfl⟩);rw [e1];generalize sumR r=n at hs s0 s1 HT;have hs2:72057594037927935 - n<c:=by omega
    clear hh hP hv e1 hs hc
    go_enter Tryz.func81,Tryz.ntmps81
    go_wp2_with fail;refine(HL.out _ HP.out).mono ?_;rintro e w1 ⟨rfl,hb1⟩;have B1:Below w.heap.size w w1:=Below.then_ bE hb1;have s1:=B1.size;have z1_0:g<w1.heap.size:=by have:=hb1.size;(try simp at this);omega
    have y1_0:g≤w1.heap.size:=Nat.le_of_lt z1_0;have c1_0:=czB hb1 (g);have f1_0:=fzB hb1 (g);go_wp2_with fail;refine(HLf.out _).mono ?_;rintro e w2 ⟨rfl,hb2⟩;have B2:Below w.heap.size w w2:=Below.then_ bE hb2;have s2:=B2.size;have z2_0:g<w2.heap.size:=by have:=hb2.size;(try simp at this);omega
    have y2_0:g≤w2.heap.size:=Nat.le_of_lt z2_0;have c2_0:=czB hb2 (g);have f2_0:=fzB hb2 (g);go_wp2_with fail;have P2:=LH (HP.out.below B2);refine(HT.out _ P2.out).mono ?_;rintro e w3 ⟨rfl,hb3⟩;have B3:Below w.heap.size w w3:=Below.then_ bE hb3;have s3:=B3.size;go_wp2_with fail;go_ret;exact⟨r,rfl,HE.out,.below hD.out B3⟩
   ·have e1:insErr l r x c=0:=by unfold insErr;rw [if_neg (by simp [hv]),if_neg hc,if_neg hs]
    have hE: ∀s,PreTo l k r (2^l+x) s→InsTo l k r x c (addR s (2^l+x) c):=fun s hp=>.inr ⟨e1,s,hp,rfl⟩;have HE:=LH hE;rw [e1];obtain⟨v1,v2,v3⟩:=ins_ok e1;obtain⟨y1,y2⟩:=isVal_iff.1 v1;have hpw:=pow_pos' l;have hp48:=pow_48 hll.2;obtain⟨id,hid⟩ : ∃id:Nat,(2:Int) ^l+x=id:=⟨(2^l+x).toNat,by omega⟩;have hid1:1≤id:=by omega
    have hid2:id<2*2^l:=by
     have: (id:Int) <2*2^l:=by omega
     exact_mod_cast this
    rw [hid] at HLf HE;have HG:=LH (fun W h=>pool_Get W p K l r F0 h id);have HPre:=LH (fun s (h:PreTo l k r id s)=>h.same hP.fits);have HAdd:=LH (fun W q s F' (hs:PreTo l k r id s) h=>pool_Add W q K l s F' h id hid1 hid2 c (by omega) (by rw [(hs.same hP.fits).2.1];omega) (by have:=(hs.same hP.fits).2.2;omega));have HC1:Hid (∀ps s,getR r id=0→8*k≤r.length→RunTo l (sumR r / k) r ps s→PreTo l k r id s):=LH fun ps s a b h=>.inl ⟨a,b,ps,h⟩;have HC2:Hid (¬(getR r id=0∧8*k≤r.length)→PreTo l k r id r):=LH fun h=>.inr ⟨h,rfl⟩;have hs2:decide (72057594037927935 - sumR r<c) =false:=by simp;omega
    have hlr: (r.length:Int)≤67108864:=by omega
    have HFe:=LH hFe;have HH:=LH hh;generalize sumR r=n at hs2 s0 s1 HT;obtain⟨gt,hgt⟩ : ∃gt,gt=getR r id:=⟨_,rfl⟩;rw [←hgt] at HG HC1 HC2;clear hh hP hv e1 hs hc v1 v2 v3 y1 y2 hpw hp48 hid hid1 hid2 hE hgt HPre hFe
    go_enter Tryz.func81,Tryz.ntmps81
    go_wp2_with fail;refine(HL.out _ HP.out).mono ?_;rintro e w1 ⟨rfl,hb1⟩;have B1:Below w.heap.size w w1:=Below.then_ bE hb1;have s1:=B1.size;have z1_0:g<w1.heap.size:=by have:=hb1.size;(try simp at this);omega
    have y1_0:g≤w1.heap.size:=Nat.le_of_lt z1_0;have c1_0:=czB hb1 (g);have f1_0:=fzB hb1 (g);go_wp2_with fail;refine(HLf.out _).mono ?_;rintro e w2 ⟨rfl,hb2⟩;have B2:Below w.heap.size w w2:=Below.then_ bE hb2;have s2:=B2.size;have z2_0:g<w2.heap.size:=by have:=hb2.size;(try simp at this);omega
    have y2_0:g≤w2.heap.size:=Nat.le_of_lt z2_0;have c2_0:=czB hb2 (g);have f2_0:=fzB hb2 (g);go_wp2_with fail;have P2:=LH (HP.out.below B2);refine(HT.out _ P2.out).mono ?_;rintro e w3 ⟨rfl,hb3⟩;have B3:Below w.heap.size w w3:=Below.then_ bE hb3;have s3:=B3.size;have z3_0:g<w3.heap.size:=by have:=hb3.size;(try simp at this);omega
    have y3_0:g≤w3.heap.size:=Nat.le_of_lt z3_0;have c3_0:=czB hb3 (g);have f3_0:=fzB hb3 (g);have P3:=LH (HP.out.below B3);have D3:=LH (hD.out.below B3);have BB3:=LH B3;clear hb1 hb2 hb3 B1 B2 B3 P2;by_cases h0:gt=0
    ·subst h0
     by_cases h8:8*k≤r.length
     ·have HC3:=LH (fun ps s h=>HC1.out ps s rfl h8 h)
      clear HC1 HC2;go_wp2_with fail;refine rX (by kernel_rfl) (by kernel_rfl) ?_
      repeat (go_big_quiet_step (first| (go_at_call 128;exact quiet_ext (HG.out _ (P3.out.below (ext_below _ _)))) | (go_at_call 129;exact quiet_ext (hLn.out _ (D3.out.below (ext_below _ _)))) | (go_at_call 130;exact quiet_ext (made_room _ k h1 h2))))
      refine wpQuiet_nil ?_;intro w4 hb4;replace hb4:=bX hb4;have D4:=LH (D3.out.below hb4);have B4:=LH (BB3.out.trans (hb4.mono BB3.out.size));clear hb4 P3 D3 BB3;go_wp2_with fail;refine(hCo.out w4 D4.out).mono ?_;rintro e w5 ⟨ps,s,rfl,hR,F5,hD5,hT5,hG5⟩;have HPs:=LH (HC3.out ps s hR);replace hT5:Turn F w w5:=(Turn.of_below B4.out).trans hT5 Grow.refl;replace hG5:Grow w F F5:=fun b hb=>(hG5 b hb).imp (fun h=>h) fun h=>Nat.le_trans B4.out.size h;clear hR D4 B4;obtain⟨p5,F05,rfl,hh5,hP5,hgF5,_,_⟩:=hD5.parts;have P5:=LH hP5;have H5:=LH hh5;have T5:=LH hT5;have G5:=LH hG5;have c5:=bC hh5;have z5:=lB hh5;clear hD5 hP5 hh5 hT5 hG5 c0 z0;go_wp2_with fail;refine(HAdd.out w5 p5 s F05 HPs.out P5.out).mono ?_;rintro e w6 ⟨F6,rfl,hP6,hT6,hG6⟩;have HF:Hid (DigTo w g K l k (addR s id c) F w6):=LH ⟨footP g F6,⟨h1,h2,p5,F6,rfl,hT6.keep H5.out hgF5,hP6⟩,T5.out.trans (hT6.mono fun b _ hb=>.inr hb) G5.out,G5.out.trans hG6.foot T5.out.size⟩;clear hP6 hT6 hG6 c5 z5;go_wp2_with fail;go_ret;exact⟨_,rfl,HE.out s HPs.out,HF.out⟩
     ·have HPs0:=LH (HC2.out fun h=>h8 h.2)
      have h8':decide (8*k≤(r.length:Int)) =false:=by simpa using h8
      obtain⟨s,hs⟩ : ∃s,s=r:=⟨_,rfl⟩;have HPs:Hid (PreTo l k r id s):=LH (by rw [hs];exact HPs0.out);clear HPs0;clear HC1 HC2 h8;go_wp2_with fail;refine rX (by kernel_rfl) (by kernel_rfl) ?_
      repeat (go_big_quiet_step (first| (go_at_call 128;exact quiet_ext (HG.out _ (P3.out.below (ext_below _ _)))) | (go_at_call 129;exact quiet_ext (hLn.out _ (D3.out.below (ext_below _ _)))) | (go_at_call 130;exact quiet_ext (made_room _ k h1 h2))))
      refine wpQuiet_nil ?_;intro w5 hb4;replace hb4:=bX hb4;have hT5:Turn F w w5:=Turn.of_below (BB3.out.trans (hb4.mono BB3.out.size));obtain⟨F5,hF5⟩ : ∃F5,F5=F:=⟨_,rfl⟩;have hG5:Grow w F F5:=by rw [hF5];exact Grow.refl
      have hD5:=D3.out.below hb4;rw [←hF5] at hD5;clear hF5;clear hb4 P3 D3 BB3;rw [←hs] at hD5;obtain⟨p5,F05,rfl,hh5,hP5,hgF5,_,_⟩:=hD5.parts;have P5:=LH hP5;have H5:=LH hh5;have T5:=LH hT5;have G5:=LH hG5;have c5:=bC hh5;have z5:=lB hh5;clear hD5 hP5 hh5 hT5 hG5 c0 z0;go_wp2_with fail;refine(HAdd.out w5 p5 s F05 HPs.out P5.out).mono ?_;rintro e w6 ⟨F6,rfl,hP6,hT6,hG6⟩;have HF:Hid (DigTo w g K l k (addR s id c) F w6):=LH ⟨footP g F6,⟨h1,h2,p5,F6,rfl,hT6.keep H5.out hgF5,hP6⟩,T5.out.trans (hT6.mono fun b _ hb=>.inr hb) G5.out,G5.out.trans hG6.foot T5.out.size⟩;clear hP6 hT6 hG6 c5 z5;go_wp2_with fail;go_ret;exact⟨_,rfl,HE.out s HPs.out,HF.out⟩
    ·have HPs0:=LH (HC2.out fun h=>h0 h.1)
     have h0': (gt == 0) =false:=by simpa using h0
     obtain⟨s,hs⟩ : ∃s,s=r:=⟨_,rfl⟩;have HPs:Hid (PreTo l k r id s):=LH (by rw [hs];exact HPs0.out);clear HPs0;clear HC1 HC2 h0;go_wp2_with fail;refine rX (by kernel_rfl) (by kernel_rfl) ?_
     repeat (go_big_quiet_step (first| (go_at_call 128;exact quiet_ext (HG.out _ (P3.out.below (ext_below _ _)))) | (go_at_call 129;exact quiet_ext (hLn.out _ (D3.out.below (ext_below _ _)))) | (go_at_call 130;exact quiet_ext (made_room _ k h1 h2))))
     refine wpQuiet_nil ?_;intro w5 hb4;replace hb4:=bX hb4;have hT5:Turn F w w5:=Turn.of_below (BB3.out.trans (hb4.mono BB3.out.size));obtain⟨F5,hF5⟩ : ∃F5,F5=F:=⟨_,rfl⟩;have hG5:Grow w F F5:=by rw [hF5];exact Grow.refl
     have hD5:=D3.out.below hb4;rw [←hF5] at hD5;clear hF5;clear hb4 P3 D3 BB3;rw [←hs] at hD5;obtain⟨p5,F05,rfl,hh5,hP5,hgF5,_,_⟩:=hD5.parts;have P5:=LH hP5;have H5:=LH hh5;have T5:=LH hT5;have G5:=LH hG5;have c5:=bC hh5;have z5:=lB hh5;clear hD5 hP5 hh5 hT5 hG5 c0 z0;go_wp2_with fail;refine(HAdd.out w5 p5 s F05 HPs.out P5.out).mono ?_;rintro e w6 ⟨F6,rfl,hP6,hT6,hG6⟩;have HF:Hid (DigTo w g K l k (addR s id c) F w6):=LH ⟨footP g F6,⟨h1,h2,p5,F6,rfl,hT6.keep H5.out hgF5,hP6⟩,T5.out.trans (hT6.mono fun b _ hb=>.inr hb) G5.out,G5.out.trans hG6.foot T5.out.size⟩;clear hP6 hT6 hG6 c5 z5;go_wp2_with fail;go_ret;exact⟨_,rfl,HE.out s HPs.out,HF.out⟩
theorem dig_pool {w:World} {g K l:Nat} {k:Int} {r:List Nd} {F:Nat→Prop} (h:DigAt w g K l k r F) :isPool K l=true:=by
 obtain⟨_,_,p,F0,rfl,_,a,b,_,q,F1,_,hk⟩:=h;simp only [isPool,decide_eq_true_eq];rcases hk with ⟨hk,h16,_⟩ | ⟨hk,_⟩ <;> omega
theorem vary_Put0 (w:World) (base:Nat) (v:Value) (ho:Own w base 3 encZ v []) :Calls Tryz.prog 133 #[v] w fun e w'=>e=.returned (.tuple #[.string ⟨#[]⟩,.int .i64 0])∧Below w.heap.size w w':=by
 obtain⟨A,c,rfl,_⟩:=ho.form;clear ho;simp only [List.length_nil];have hcv: ∀W,(convert 129 9 (.slice none 0 0)).run Tryz.prog W=.ok (.string ⟨#[]⟩) W:=fun W=>by kernel_rfl
 go_enter Tryz.func133,Tryz.ntmps133
 go_wp2_with fail
 go_loopw [4,9] (fun u j wr=>j=.int .i64 (0:Nat)∧u=.slice none 0 0∧Below w.heap.size w wr) (fun _ j _=>0)
 case atStart=>exact⟨rfl,rfl,Below.refl _ _⟩
 case round=>
  obtain⟨rfl,rfl,hB⟩:=hrel;have HB:=LH hB;clear hB;have hc:=hcv wr;go_wp2_with fail
  all_goals exact bR (v:=.tuple #[.string ⟨#[]⟩,.int .i64 0]) (by simp only [results,Tryz.results133];go_simp) rfl ⟨rfl,HB.out⟩
theorem vary_PutC (w:World) (base:Nat) (v:Value) (L:List Int) (ho:Own w base 3 encZ v L) (hi: ∀x∈L,i64 x∧0≤x) (hl:L.length≤65536) :
 Calls Tryz.prog 133 #[v] w fun e w'=>e=.returned (.tuple #[.string ⟨(putB L).toArray⟩,.int .i64 0])∧Below w.heap.size w w':=by
 cases L with
 |nil=>exact vary_Put0 w base v ho
 |cons x L=>
  refine(vary_Put w base v (x :: L) ho (fun y hy=>(hi y hy).1) hl (by simp)).mono ?_;rintro e w' ⟨⟨t,he,ht⟩,hb⟩;have hal: (x :: L).all (fun y=>decide (0≤y)) =true:=List.all_eq_true.2 fun y hy=>by simpa using (hi y hy).2
  rw [if_pos hal] at he;exact⟨by rw [he,ht hal],hb⟩
structure TwoL (B:Nat) (w3:World) (U1:Value) (L1:List Int) (U2:Value) (L2:List Int) (W:World) :Prop where
 o1:Own W B 3 encZ U1 L1
 o2:Own W B 3 encZ U2 L2
 sep:Sep U1 U2
 b:Below B w3 W
 size:B≤W.heap.size
section
variable {B:Nat} {w3:World} {U1 U1' U2 U2':Value} {L1 L1' L2 L2':List Int} {W W':World}
theorem TwoL.below (h:TwoL B w3 U1 L1 U2 L2 W) (hb:Below W.heap.size W W') :TwoL B w3 U1 L1 U2 L2 W':=⟨h.o1.below hb,h.o2.below hb,h.sep,h.b.trans (hb.mono h.size),Nat.le_trans h.size hb.size⟩
theorem TwoL.alloc (h:TwoL B w3 U1 L1 U2 L2 W) (o:Obj) :TwoL B w3 U1 L1 U2 L2 (W.alloc o):=h.below ((Below.refl _ _).alloc (Nat.le_refl _) o)
theorem TwoL.drew (h:TwoL B w3 U1 L1 U2 L2 W) :TwoL B w3 U1 L1 U2 L2 W.drew:=h.below (Below.refl _ _).drew
theorem TwoL.app1 (h:TwoL B w3 U1 L1 U2 L2 W) (hg:W.grownBy W' U1.ownBlock) (ho:Own W' B 3 encZ U1' L1') (hl:U1'.ownBlock=U1.ownBlock∨U1'.ownBlock=some W.heap.size) (hb:Below B W W') :TwoL B w3 U1' L1' U2 L2 W':=
 ⟨ho,h.o2.kept hg (by
  cases e:U2.ownBlock with
  |none=>exact .inl rfl
  |some g=>exact .inr fun he=>h.sep g (by rw [←he]) e),fun g h1 h2=>by
   rcases hl with hl|hl
   ·exact h.sep g (hl ▸ h1) h2
   ·rw [hl] at h1;cases h1;exact absurd (h.o2.lt _ h2).2 (Nat.lt_irrefl _),h.b.trans hb,Nat.le_trans h.size hb.size⟩
theorem TwoL.swap (h:TwoL B w3 U1 L1 U2 L2 W) :TwoL B w3 U2 L2 U1 L1 W:=⟨h.o2,h.o1,h.sep.symm,h.b,h.size⟩
theorem TwoL.app2 (h:TwoL B w3 U1 L1 U2 L2 W) (hg:W.grownBy W' U2.ownBlock) (ho:Own W' B 3 encZ U2' L2') (hl:U2'.ownBlock=U2.ownBlock∨U2'.ownBlock=some W.heap.size) (hb:Below B W W') :TwoL B w3 U1 L1 U2' L2' W':=(h.swap.app1 hg ho hl hb).swap
end
structure OffB (x:Nat) (o:Obj) (U1 U2:Value) (W:World) :Prop where
 h:W.heap[x]? =some o
 n1:U1.ownBlock≠some x
 n2:U2.ownBlock≠some x
section
variable {x:Nat} {o:Obj} {U1 U1' U2 U2':Value} {W W':World}
theorem OffB.below (h:OffB x o U1 U2 W) (hb:Below W.heap.size W W') :OffB x o U1 U2 W':=⟨bB h.h hb,h.n1,h.n2⟩
theorem OffB.alloc (h:OffB x o U1 U2 W) (p:Obj) :OffB x o U1 U2 (W.alloc p):=h.below ((Below.refl _ _).alloc (Nat.le_refl _) p)
theorem OffB.drew (h:OffB x o U1 U2 W) :OffB x o U1 U2 W.drew:=⟨h.h,h.n1,h.n2⟩
theorem OffB.app1 (h:OffB x o U1 U2 W) (hg:W.grownBy W' U1.ownBlock) (hl:U1'.ownBlock=U1.ownBlock∨U1'.ownBlock=some W.heap.size) :OffB x o U1' U2 W':=
 ⟨blk_grown_not h.h hg h.n1,fun e=>by
  rcases hl with hl|hl
  ·exact h.n1 (hl ▸ e)
  ·rw [hl] at e;cases e;exact absurd (lB h.h) (Nat.lt_irrefl _),h.n2⟩
theorem OffB.swap (h:OffB x o U1 U2 W) :OffB x o U2 U1 W:=⟨h.h,h.n2,h.n1⟩
theorem OffB.app2 (h:OffB x o U1 U2 W) (hg:W.grownBy W' U2.ownBlock) (hl:U2'.ownBlock=U2.ownBlock∨U2'.ownBlock=some W.heap.size) :OffB x o U1 U2' W':=(h.swap.app1 hg hl).swap
theorem OffB.new {B:Nat} {w3:World} {L1 L2:List Int} (h:TwoL B w3 U1 L1 U2 L2 W) (cs:Array Value) (t:TypeId) :OffB W.heap.size (.cells cs t (0,0)) U1 U2 (W.alloc (.cells cs t)):=
 ⟨heap_alloc_new W _,h.o1.not_at _ (Nat.le_refl _),h.o2.not_at _ (Nat.le_refl _)⟩
end
theorem sl_one {W:World} {b t:Nat} {x:Int} (h:W.heap[b]? =some (.cells #[.int .i64 x] t (0,0))) :Sl W W.heap.size encZ (some ⟨b,0,none⟩) [x]:=sl_cell (by rw [bC h];rfl) (lB h)
theorem back1 (W:World) (a:UInt8) (n:Nat) (hn:n=W.heap.size) :
 (convert 129 9 (.slice (some ⟨n,0,none⟩) 1 1)).run Tryz.prog (W.alloc (.cells #[.int .u8 (a.toNat:Int)] 5)) =.ok (.string ⟨[a].toArray⟩) (W.alloc (.cells #[.int .u8 (a.toNat:Int)] 5)):=by
 subst hn;refine run_convert_bytes_back (P:=Tryz.prog) _ 129 9 5 ⟨W.heap.size,0,none⟩ 1 [a] Tryz.underlying129 Tryz.underlying5 Tryz.underlying9 ?_;intro j hj;rw [show Addr.add ⟨W.heap.size,0,none⟩ j= ⟨W.heap.size,j,none⟩ by unfold Addr.add;split <;> simp_all];rw [World.cell?_alloc_mark];simp only [List.length_cons,List.length_nil] at hj
 match j,hj with
 |0,_=>rfl
structure WireF (l:Nat) (k:Int) (r:List Nd) :Prop where
 up:risesOk (r.map (·.1)) =true
 ids: ∀x∈r.map (·.1),i64 x
 cts: ∀x∈r.map (·.2),i64 x∧0≤x
 hd: ∀x∈ [k,sumR r],i64 x∧0≤x
 l1: (putB [k,sumR r]).length≤18
 l2: (risesB (r.map (·.1))).length≤9+9*r.length
 l3: (putB (r.map (·.2))).length≤9*r.length
theorem steps_ok: ∀{L:List Int} {p:Int},(p :: L).Pairwise (· < ·)→(List.zipWith (fun x q=>x - q) L (p :: L)).all (fun d=>decide (0<d)) =true:=by
 intro L
 induction L with
 |nil=>intro p _;simp
 |cons x L ih=>
  intro p h;obtain⟨h1,h2⟩:=List.pairwise_cons.1 h;have:=h1 x (by simp);simp only [List.zipWith_cons_cons,List.all_cons,Bool.and_eq_true,decide_eq_true_eq];exact⟨by omega,ih h2⟩
theorem steps_le: ∀{L:List Int} {p:Int},0≤p→(p :: L).Pairwise (· < ·)→(∀x∈L,x≤9223372036854775807)→∀d∈List.zipWith (fun x q=>x - q) L (p :: L),d≤9223372036854775807:=by
 intro L
 induction L with
 |nil=>intro p _ _ _ d hd;simp at hd
 |cons x L ih=>
  intro p hp h hx d hd;obtain⟨h1,h2⟩:=List.pairwise_cons.1 h;have:=h1 x (by simp);have:=hx x (by simp);simp only [List.zipWith_cons_cons,List.mem_cons] at hd;rcases hd with rfl|hd
  ·omega
  ·exact ih (by omega) h2 (fun y hy=>hx y (by simp [hy])) d hd
theorem WireF.of {l:Nat} {k:Int} {r:List Nd} (hl:1≤l∧l≤48) (hf:Fits l r) (hk:1≤k) (hk2:k≤1048576) (hn:r.length≤60000) :WireF l k r:=by
 have hs0:=sumR_nonneg hf.roll;have hs1:=hf.sum
 have hup: ((0:Int) :: r.map (·.1)).Pairwise (· < ·):=by
  refine List.pairwise_cons.2 ⟨?_,?_⟩
  ·intro x hx
   obtain⟨y,hy,rfl⟩:=List.mem_map.1 hx;have:=(hf.roll.2 y hy).1;omega
  ·rw [List.pairwise_map];exact hf.roll.1
 have hi: ∀x∈r.map (·.1),i64 x:=by
  intro x hx;obtain⟨y,hy,rfl⟩:=List.mem_map.1 hx;have h1:=isNode_lt (hf.nodes hl y hy);have h2:=pow_48 hl.2
  constructor <;> omega
 have hc: ∀x∈r.map (·.2),i64 x∧0≤x:=by
  intro x hx;obtain⟨y,hy,rfl⟩:=List.mem_map.1 hx;have h1:=(hf.roll.2 y hy).2;have h2:=getR_le_sum hf.roll y.1;rw [getR_mem hf.roll hy] at h2;exact⟨by constructor <;> omega,by omega⟩
 have hh: ∀x∈ [k,sumR r],i64 x∧0≤x:=by
  intro x hx;simp only [List.mem_cons,List.not_mem_nil,or_false] at hx;rcases hx with rfl|rfl
  ·exact⟨by constructor <;> omega,by omega⟩
  ·exact⟨by constructor <;> omega,by omega⟩
 refine⟨steps_ok hup,hi,hc,hh,?_,?_,?_⟩
 ·exact putB_len (L:= [k,sumR r]) fun x hx=>(hh x hx).1.2
 ·have h1:=putB_len (L:=stepD (r.map (·.1))) (steps_le (Int.le_refl 0) hup fun x hx=>(hi x hx).2)
  have h2:=oneB_le (n:=(r.map (·.1)).length) (by simp;omega);unfold risesB;rw [stepD_len] at h1;simp only [List.length_append,List.length_map] at h1 h2⊢;omega
 ·have:=putB_len (L:=r.map (·.2)) fun x hx=>(hc x hx).1.2
  simpa using this
theorem map_take {r:List Nd} {q:Nat} {y:Nd} (h:q<r.length) (hy:r[q] =y) : (r.take (q+1)).map (·.1) = (r.take q).map (·.1) ++ [y.1]∧(r.take (q+1)).map (·.2) = (r.take q).map (·.2) ++ [y.2]:=by
 rw [List.take_succ_eq_append_getElem h,hy];simp
theorem wire_Encode (w:World) (g K l:Nat) (k:Int) (r:List Nd) (F:Nat→Prop) (h:DigAt w g K l k r F) (hn:r.length≤60000) :
 Calls Tryz.prog 83 #[.pointer (some ⟨g,0,none⟩)] w fun e w'=>e=.returned (.tuple #[.string ⟨(wireT l k r).toArray⟩,.int .i64 0])∧Below w.heap.size w w':=by
 have HD:=LH h;have hll:=h.l_le;have hk:1≤k∧k≤1048576:=by obtain⟨p,F0,_,_,_,_,h1,h2⟩:=h.parts;exact⟨h1,h2⟩
 have HC:=LH (digest_Conf w g K l k r F h);have HF:=LH h.fits;obtain⟨G,hG⟩ : ∃G,G=wireT l k r:=⟨_,rfl⟩;rw [←hG];have HG:=LH hG;clear h hG
 go_enter Tryz.func83,Tryz.ntmps83
 go_wp2_with fail;refine HC.out.mono ?_;rintro e w1 ⟨rfl,hb1⟩;have X2:=LH (heap_alloc_new w1 (.cells #[.int .i64 l,.int .i64 k,.int .i64 K] 23));have B2:Hid (Below w.heap.size w (w1.alloc (.cells #[.int .i64 l,.int .i64 k,.int .i64 K] 23))):=LH bE;have D2:=LH (HD.out.below B2.out);clear HC hb1;go_upto_region 5 with fail;generalize w1.alloc (.cells #[.int .i64 l,.int .i64 k,.int .i64 K] 23) =w2 at X2 B2 D2⊢;go_wp2_with fail;refine(digest_Nodes w2 g K l k r F D2.out (by omega)).mono ?_;rintro e w3 ⟨v,rfl,ho,hb3⟩;obtain⟨A,cap,rfl,_⟩:=ho.form;have O3:=LH ho;have X3:=LH (bB X2.out hb3);have D3:=LH (D2.out.below hb3);have B3:=LH (Below.then_ B2.out hb3);obtain⟨B,hBe⟩ : ∃B,B=w3.heap.size:=⟨_,rfl⟩;have HBe:=LH hBe;have TS:Hid (TwoL B w3 (.slice none 0 0) [] (.slice none 0 0) [] w3):=LH ⟨Own.nil _ _ _ _,Own.nil _ _ _ _,(fun g h1=>by cases h1),Below.refl _ _,by omega⟩;clear ho hb3 D2 X2 B2 hBe;go_wp2_with fail
 go_loopw [5,6,22] (fun V1 V2 j wr=>∃q:Nat,q≤r.length∧j=.int .i64 q∧TwoL B w3 V1 ((r.take q).map (·.1)) V2 ((r.take q).map (·.2)) wr) (fun _ _ j _=>r.length - (intOf j).toNat)
 case atStart=>exact⟨0,Nat.zero_le _,rfl,by simpa using TS.out⟩
 case round=>
  obtain⟨q,hq,rfl,hT⟩:=hrel;have KT:=LH hT;have hBw:=hT.size;have OR:=LH (O3.out.sl.keep (B':=wr.heap.size) (by have:=HBe.out;omega) fun p hp=>hT.b.cell (by have:=HBe.out;omega));clear hT;by_cases hlt:q<r.length
  ·have hqi: (q:Int) < (r.length:Int):=by omega
   obtain⟨b,off,rfl,hb,hc⟩:=OR.out.at_ hlt;have d0:=hc 0 (.int .i64 r[q].1) rfl;have d1:=hc 1 (.int .i64 r[q].2) rfl;simp only [Nat.add_zero] at d0;obtain⟨y,hy⟩ : ∃y,r[q] =y:=⟨_,rfl⟩;have HT1:=LH (map_take hlt hy).1;have HT2:=LH (map_take hlt hy).2;rw [hy] at d0 d1;have T0:=LH (KT.out.alloc (.cells #[.int .i64 y.1,.int .i64 y.2] 154));have N0:=LH (OffB.new KT.out #[.int .i64 y.1,.int .i64 y.2] 154);clear hc hy;go_upto_region 8 with fail;generalize wr.alloc (.cells #[.int .i64 y.1,.int .i64 y.2] 154) =Wa at T0 N0⊢;replace T0:=LH T0.out.drew;replace N0:=LH N0.out.drew;refine wp_region_noPanic ?_;refine wp_region_N (fun w'=>w'.heap[wr.heap.size]? =some (.cells #[.int .i64 y.1,.int .i64 y.2] 154 (0,0))) [] (by kernel_rfl) (N0.out.h) (fun hHeld=> ?_);generalize Wa.drew=Wd at T0 N0 hHeld⊢;refine nP 0 (u5) (h:= ?_)
   (try simp only [zA,zB,zC,Act.put,zD,zE,zF])
   refine nP 1 (Value.pointer (some ⟨wr.heap.size,0,none⟩)) (h:= ?_)
   (try simp only [zA,zB,zC,Act.put,zD,zE,zF])
   refine nT 2 (Value.int .i64 y.1) (y:=Or.inl ⟨by rfl,fun W hW=>by have q1:=bC hW;have q2:=lB hW;go_simp⟩) (s:=N0.out.h) (h:= ?_)
   (try simp only [zA,zB,zC,Act.put,zD,zE,zF])
   refine nP 5 (u6) (h:= ?_)
   (try simp only [zA,zB,zC,Act.put,zD,zE,zF])
   refine nP 6 (Value.pointer (some ⟨wr.heap.size,1,none⟩)) (h:= ?_)
   (try simp only [zA,zB,zC,Act.put,zD,zE,zF])
   refine nT 7 (Value.int .i64 y.2) (y:=Or.inl ⟨by rfl,fun W hW=>by have q1:=bC hW;have q2:=lB hW;go_simp⟩) (s:=N0.out.h) (h:= ?_)
   (try simp only [zA,zB,zC,Act.put,zD,zE,zF])
   clear hHeld;refine wpAnyN_two (i:=3) (k:=8) (by kernel_rfl) rfl rfl (fun K hK=> ?_) (fun K hK=> ?_)
   ·skip
    go_simp;refine hK.out _ _ (fun _ hS=>bB hS ((Below.refl _ _).alloc (Nat.le_refl _) _)) ?_;clear hK K
    (try simp only [zA,zB,zC,Act.put,zD,zE,zF])
    have L1:=LH (OffB.new T0.out #[.int .i64 y.1] 3);have T1:=LH (T0.out.alloc (.cells #[.int .i64 y.1] 3));have N1:=LH (N0.out.alloc (.cells #[.int .i64 y.1] 3));have hs1:Wd.heap.size< (Wd.alloc (.cells #[.int .i64 y.1] 3)).heap.size:=by simp
    generalize Wd.alloc (.cells #[.int .i64 y.1] 3) =W1 at L1 T1 N1 hs1⊢;refine wpAnyN_two (i:=4) (k:=8) (by kernel_rfl) rfl rfl (fun K hK=> ?_) (fun K hK=> ?_)
    ·skip
     refine step_app (o:=⟨some 30,_,_,_,_,_⟩) tyZ (by rfl) _ _ (by rfl) encZ B u5 ((r.take q).map (·.1)) (by rfl) T1.out.o1 _ 1 [y.1] _ (by rfl) (sl_one L1.out.h) (by simp only [List.length_map,List.length_take,List.length_append,List.length_cons,List.length_nil];omega) (by simp only [maxLen,List.length_map,List.length_take,List.length_append,List.length_cons,List.length_nil];omega) T1.out.size ?_;intro v2 W2 ho2 hg2 hl2 hb2 hn2;refine hK.out _ _ (fun _ hS=>blk_grown_not hS hg2 N1.out.n1) ?_;clear hK K
     (try simp only [zA,zB,zC,Act.put,zD,zE,zF])
     have T2:=LH (T1.out.app1 hg2 ho2 hl2 hb2);have N2:=LH (N1.out.app1 hg2 hl2);clear ho2 hg2 hl2 hb2 hn2;refine nO (i:=8) (by kernel_rfl) rfl (fun K hK=> ?_);go_simp;refine hK.out _ _ (fun _ hS=>bB hS ((Below.refl _ _).alloc (Nat.le_refl _) _)) ?_;clear hK K
     (try simp only [zA,zB,zC,Act.put,zD,zE,zF])
     have L3:=LH (OffB.new T2.out #[.int .i64 y.2] 3);have T3:=LH (T2.out.alloc (.cells #[.int .i64 y.2] 3));have N3:=LH (N2.out.alloc (.cells #[.int .i64 y.2] 3));have M3:=LH (L1.out.alloc (.cells #[.int .i64 y.2] 3));have hs3:W2.heap.size< (W2.alloc (.cells #[.int .i64 y.2] 3)).heap.size:=by simp
     generalize W2.alloc (.cells #[.int .i64 y.2] 3) =W3 at L3 T3 N3 M3 hs3⊢;refine nO (i:=9) (by kernel_rfl) rfl (fun K hK=> ?_);refine step_app (o:=⟨some 35,_,_,_,_,_⟩) tyZ (by rfl) _ _ (by rfl) encZ B u6 ((r.take q).map (·.2)) (by rfl) T3.out.o2 _ 1 [y.2] _ (by rfl) (sl_one L3.out.h) (by simp only [List.length_map,List.length_take,List.length_append,List.length_cons,List.length_nil];omega) (by simp only [maxLen,List.length_map,List.length_take,List.length_append,List.length_cons,List.length_nil];omega) T3.out.size ?_;intro v4 W4 ho4 hg4 hl4 hb4 hn4;refine hK.out _ _ (fun _ hS=>blk_grown_not hS hg4 N3.out.n2) ?_;clear hK K
     (try simp only [zA,zB,zC,Act.put,zD,zE,zF])
     have T4:=LH (T3.out.app2 hg4 ho4 hl4 hb4);have N4:=LH (N3.out.app2 hg4 hl4);clear ho4 hg4 hl4 hb4 hn4;refine nP 10 (v2) (h:= ?_)
     (try simp only [zA,zB,zC,Act.put,zD,zE,zF])
     refine nO (i:=11) (by kernel_rfl) rfl (fun K hK=> ?_);go_simp;refine hK.out _ _ (fun _ _=>N4.out.h) ?_;clear hK K
     (try simp only [zA,zB,zC,Act.put,zD,zE,zF])
     refine nD (by kernel_rfl) ?_ _;refine NoPanic.normal ?_;have HE:=LH T4.out;obtain⟨A1,c1,e1,_⟩:=HE.out.o1.form;obtain⟨A2,c2,e2,_⟩:=HE.out.o2.form;go_wp2_with fail;go_roundw
     case rel=>exact⟨q+1,by omega,by go_num,by rw [HT1.out,HT2.out];exact HE.out⟩
     case measure=>simp [intOf];omega
    ·skip
     go_simp;refine hK.out _ _ (fun _ hS=>bB hS ((Below.refl _ _).alloc (Nat.le_refl _) _)) ?_;clear hK K
     (try simp only [zA,zB,zC,Act.put,zD,zE,zF])
     have L5:=LH (OffB.new T1.out #[.int .i64 y.2] 3);have T5:=LH (T1.out.alloc (.cells #[.int .i64 y.2] 3));have N5:=LH (N1.out.alloc (.cells #[.int .i64 y.2] 3));have M5:=LH (L1.out.alloc (.cells #[.int .i64 y.2] 3));have hs5:W1.heap.size< (W1.alloc (.cells #[.int .i64 y.2] 3)).heap.size:=by simp
     generalize W1.alloc (.cells #[.int .i64 y.2] 3) =W5 at L5 T5 N5 M5 hs5⊢;refine nO (i:=4) (by kernel_rfl) rfl (fun K hK=> ?_);refine step_app (o:=⟨some 30,_,_,_,_,_⟩) tyZ (by rfl) _ _ (by rfl) encZ B u5 ((r.take q).map (·.1)) (by rfl) T5.out.o1 _ 1 [y.1] _ (by rfl) (sl_one M5.out.h) (by simp only [List.length_map,List.length_take,List.length_append,List.length_cons,List.length_nil];omega) (by simp only [maxLen,List.length_map,List.length_take,List.length_append,List.length_cons,List.length_nil];omega) T5.out.size ?_;intro v6 W6 ho6 hg6 hl6 hb6 hn6;refine hK.out _ _ (fun _ hS=>blk_grown_not hS hg6 N5.out.n1) ?_;clear hK K
     (try simp only [zA,zB,zC,Act.put,zD,zE,zF])
     have T6:=LH (T5.out.app1 hg6 ho6 hl6 hb6);have N6:=LH (N5.out.app1 hg6 hl6);have M6:=LH (L5.out.app1 hg6 hl6);clear ho6 hg6 hl6 hb6 hn6;refine nO (i:=9) (by kernel_rfl) rfl (fun K hK=> ?_);refine step_app (o:=⟨some 35,_,_,_,_,_⟩) tyZ (by rfl) _ _ (by rfl) encZ B u6 ((r.take q).map (·.2)) (by rfl) T6.out.o2 _ 1 [y.2] _ (by rfl) (sl_one M6.out.h) (by simp only [List.length_map,List.length_take,List.length_append,List.length_cons,List.length_nil];omega) (by simp only [maxLen,List.length_map,List.length_take,List.length_append,List.length_cons,List.length_nil];omega) T6.out.size ?_;intro v7 W7 ho7 hg7 hl7 hb7 hn7;refine hK.out _ _ (fun _ hS=>blk_grown_not hS hg7 N6.out.n2) ?_;clear hK K
     (try simp only [zA,zB,zC,Act.put,zD,zE,zF])
     have T7:=LH (T6.out.app2 hg7 ho7 hl7 hb7);have N7:=LH (N6.out.app2 hg7 hl7);clear ho7 hg7 hl7 hb7 hn7;refine nP 10 (v6) (h:= ?_)
     (try simp only [zA,zB,zC,Act.put,zD,zE,zF])
     refine nO (i:=11) (by kernel_rfl) rfl (fun K hK=> ?_);go_simp;refine hK.out _ _ (fun _ _=>N7.out.h) ?_;clear hK K
     (try simp only [zA,zB,zC,Act.put,zD,zE,zF])
     refine nD (by kernel_rfl) ?_ _;refine NoPanic.normal ?_;have HE:=LH T7.out;obtain⟨A1,c1,e1,_⟩:=HE.out.o1.form;obtain⟨A2,c2,e2,_⟩:=HE.out.o2.form;go_wp2_with fail;go_roundw
     case rel=>exact⟨q+1,by omega,by go_num,by rw [HT1.out,HT2.out];exact HE.out⟩
     case measure=>simp [intOf];omega
   ·skip
    go_simp;refine hK.out _ _ (fun _ hS=>bB hS ((Below.refl _ _).alloc (Nat.le_refl _) _)) ?_;clear hK K
    (try simp only [zA,zB,zC,Act.put,zD,zE,zF])
    have L8:=LH (OffB.new T0.out #[.int .i64 y.2] 3);have T8:=LH (T0.out.alloc (.cells #[.int .i64 y.2] 3));have N8:=LH (N0.out.alloc (.cells #[.int .i64 y.2] 3));have hs8:Wd.heap.size< (Wd.alloc (.cells #[.int .i64 y.2] 3)).heap.size:=by simp
    generalize Wd.alloc (.cells #[.int .i64 y.2] 3) =W8 at L8 T8 N8 hs8⊢;refine nO (i:=3) (by kernel_rfl) rfl (fun K hK=> ?_);go_simp;refine hK.out _ _ (fun _ hS=>bB hS ((Below.refl _ _).alloc (Nat.le_refl _) _)) ?_;clear hK K
    (try simp only [zA,zB,zC,Act.put,zD,zE,zF])
    have L9:=LH (OffB.new T8.out #[.int .i64 y.1] 3);have T9:=LH (T8.out.alloc (.cells #[.int .i64 y.1] 3));have N9:=LH (N8.out.alloc (.cells #[.int .i64 y.1] 3));have M9:=LH (L8.out.alloc (.cells #[.int .i64 y.1] 3));have hs9:W8.heap.size< (W8.alloc (.cells #[.int .i64 y.1] 3)).heap.size:=by simp
    generalize W8.alloc (.cells #[.int .i64 y.1] 3) =W9 at L9 T9 N9 M9 hs9⊢;refine nO (i:=4) (by kernel_rfl) rfl (fun K hK=> ?_);refine step_app (o:=⟨some 30,_,_,_,_,_⟩) tyZ (by rfl) _ _ (by rfl) encZ B u5 ((r.take q).map (·.1)) (by rfl) T9.out.o1 _ 1 [y.1] _ (by rfl) (sl_one L9.out.h) (by simp only [List.length_map,List.length_take,List.length_append,List.length_cons,List.length_nil];omega) (by simp only [maxLen,List.length_map,List.length_take,List.length_append,List.length_cons,List.length_nil];omega) T9.out.size ?_;intro v10 W10 ho10 hg10 hl10 hb10 hn10;refine hK.out _ _ (fun _ hS=>blk_grown_not hS hg10 N9.out.n1) ?_;clear hK K
    (try simp only [zA,zB,zC,Act.put,zD,zE,zF])
    have T10:=LH (T9.out.app1 hg10 ho10 hl10 hb10);have N10:=LH (N9.out.app1 hg10 hl10);have M10:=LH (M9.out.app1 hg10 hl10);clear ho10 hg10 hl10 hb10 hn10;refine nO (i:=9) (by kernel_rfl) rfl (fun K hK=> ?_);refine step_app (o:=⟨some 35,_,_,_,_,_⟩) tyZ (by rfl) _ _ (by rfl) encZ B u6 ((r.take q).map (·.2)) (by rfl) T10.out.o2 _ 1 [y.2] _ (by rfl) (sl_one M10.out.h) (by simp only [List.length_map,List.length_take,List.length_append,List.length_cons,List.length_nil];omega) (by simp only [maxLen,List.length_map,List.length_take,List.length_append,List.length_cons,List.length_nil];omega) T10.out.size ?_;intro v11 W11 ho11 hg11 hl11 hb11 hn11;refine hK.out _ _ (fun _ hS=>blk_grown_not hS hg11 N10.out.n2) ?_;clear hK K
    (try simp only [zA,zB,zC,Act.put,zD,zE,zF])
    have T11:=LH (T10.out.app2 hg11 ho11 hl11 hb11);have N11:=LH (N10.out.app2 hg11 hl11);clear ho11 hg11 hl11 hb11 hn11;refine nP 10 (v10) (h:= ?_)
    (try simp only [zA,zB,zC,Act.put,zD,zE,zF])
    refine nO (i:=11) (by kernel_rfl) rfl (fun K hK=> ?_);go_simp;refine hK.out _ _ (fun _ _=>N11.out.h) ?_;clear hK K
    (try simp only [zA,zB,zC,Act.put,zD,zE,zF])
    refine nD (by kernel_rfl) ?_ _;refine NoPanic.normal ?_;have HE:=LH T11.out;obtain⟨A1,c1,e1,_⟩:=HE.out.o1.form;obtain⟨A2,c2,e2,_⟩:=HE.out.o2.form;go_wp2_with fail;go_roundw
    case rel=>exact⟨q+1,by omega,by go_num,by rw [HT1.out,HT2.out];exact HE.out⟩
    case measure=>simp [intOf];omega
  ·obtain rfl:q=r.length:=by omega
   rw [List.take_length] at KT;have hTb:Below w3.heap.size w3 wr:=HBe.out ▸ KT.out.b;have X4:=LH (bB X3.out hTb);have X5:=LH (show wr.drew.heap[w1.heap.size]? =_ from X4.out);have D5:=LH ((D3.out.below hTb).below (w':=wr.drew) bE);have B5:=LH ((Below.then_ B3.out hTb).drew);obtain⟨A1,c1,rfl,_⟩:=KT.out.o1.form;obtain⟨A2,c2,rfl,_⟩:=KT.out.o2.form;have O51:=LH (KT.out.o1.drew);have O52:=LH (KT.out.o2.drew);simp only [List.length_map] at O51 O52;have HW:=LH (WireF.of hll HF.out hk.1 hk.2 hn);have hlw:=HW.out.l1;have hlr:=HW.out.l2;have hlc:=HW.out.l3
   have HPt:Hid (∀W n,W.heap.size=n→Calls Tryz.prog 133 #[.slice (some ⟨n,0,none⟩) 2 2] (W.alloc (.cells #[.int .i64 k,.int .i64 (sumR r)] 3)) fun e w'=>e=.returned (.tuple #[.string ⟨(putB [k,sumR r]).toArray⟩,.int .i64 0])∧Below W.heap.size W w'):=LH (fun W n hn=>by
    subst hn;refine(vary_PutC _ _ _ [k,sumR r] (Own.lit W encZ [k,sumR r] 3 (Nat.le_refl _) (by simp [maxLen])) HW.out.hd (by simp)).mono ?_;rintro e w' ⟨he,hb⟩;exact⟨he,((Below.refl W.heap.size W).alloc (Nat.le_refl _) _).trans (hb.mono (by simp))⟩)
   have HRi:=LH (fun W h=>vary_Rises W B (.slice A1 (r.map (·.1)).length c1) (r.map (·.1)) h HW.out.ids (by simp;omega) HW.out.up);have HPc:=LH (fun W h=>vary_PutC W B (.slice A2 (r.map (·.2)).length c2) (r.map (·.2)) h HW.out.cts (by simp;omega));obtain⟨a,ha⟩ : ∃a,a=UInt8.ofNat l:=⟨_,rfl⟩;have hal: (a.toNat:Int) = (l:Int):=by rw [ha,UInt8.toNat_ofNat'];omega
   have hg:=HG.out;unfold wireT at hg;rw [←ha] at hg;obtain⟨P1,hP1⟩ : ∃P1,P1=putB [k,sumR r]:=⟨_,rfl⟩;obtain⟨R1,hR1⟩ : ∃R1,R1=risesB (r.map (·.1)):=⟨_,rfl⟩;obtain⟨C1,hC1⟩ : ∃C1,C1=putB (r.map (·.2)):=⟨_,rfl⟩;rw [←hP1] at HPt hlw hg;rw [←hR1] at HRi hlr hg;rw [←hC1] at HPc hlc hg;have hc1:=fun W=>run_string_add_lists (P:=Tryz.prog) W [68,87,80,1] [a] (by simp) (by simp);obtain⟨U1,hU1⟩ : ∃U1:List UInt8,U1= [68,87,80,1] ++ [a]:=⟨_,rfl⟩;have lU1:U1.length=5:=by rw [hU1];rfl
   rw [←hU1] at hc1 hg;have hc2:=fun W=>run_string_add_lists (P:=Tryz.prog) W U1 P1 (by omega) (by omega);obtain⟨U2,hU2⟩ : ∃U2,U2=U1 ++ P1:=⟨_,rfl⟩;have lU2:U2.length≤23:=by rw [hU2,List.length_append];omega
   rw [←hU2] at hc2 hg;have hc3:=fun W=>run_string_add_lists (P:=Tryz.prog) W U2 R1 (by omega) (by omega);obtain⟨U3,hU3⟩ : ∃U3,U3=U2 ++ R1:=⟨_,rfl⟩;have lU3:U3.length≤32+9*r.length:=by rw [hU3,List.length_append];omega
   rw [←hU3] at hc3 hg;have hc4:=fun W=>run_string_add_lists (P:=Tryz.prog) W U3 C1 (by omega) (by omega);obtain⟨U4,hU4⟩ : ∃U4,U4=U3 ++ C1:=⟨_,rfl⟩;have lU4:U4.length≤8000000:=by rw [hU4,List.length_append];omega
   rw [←hU4] at hc4 hg;have HSe:=LH (fun W=>seal_Seal W U4 lU4);have hcv:=fun W=>back1 W a W.heap.size rfl;rw [hal] at hcv;clear hal;rw [←hg] at HSe;simp only [List.length_map] at HRi HPc;clear hg hP1 hR1 hC1 hU1 hU2 hU3 hU4 lU1 lU2 lU3 lU4 hlw hlr hlc HW ha KT hTb OR hBw X3 D3 B3;go_upto_region 10 with fail;refine wp_region_noPanic ?_;refine wp_region_N (fun w'=>w'.heap[w1.heap.size]? =some (.cells #[.int .i64 l,.int .i64 k,.int .i64 K] 23 (0,0))) [] (by kernel_rfl) (X4.out) (fun hHeld=> ?_);generalize wr.drew=Wd at X5 D5 B5 O51 O52 hHeld⊢;refine nP 0 (Value.pointer (some ⟨w1.heap.size,1,none⟩)) (h:= ?_)
   (try simp only [zA,zB,zC,Act.put,zD,zE,zF])
   refine nT 1 (Value.int .i64 k) (y:=Or.inl ⟨by rfl,fun W hW=>by have q1:=bC hW;have q2:=lB hW;go_simp⟩) (s:=X5.out) (h:= ?_)
   (try simp only [zA,zB,zC,Act.put,zD,zE,zF])
   refine nP 2 (Value.pointer (some ⟨g,0,none⟩)) (h:= ?_)
   (try simp only [zA,zB,zC,Act.put,zD,zE,zF])
   refine nO (i:=3) (by kernel_rfl) rfl (fun K hK=> ?_);go_simp;refine(digest_N _ g _ l k r F D5.out).mono ?_;rintro e w5 ⟨rfl,hb5⟩;have X6:=LH (bB X5.out hb5);have B6:=LH (Below.then_ B5.out hb5);have O61:=LH (O51.out.below hb5);have O62:=LH (O52.out.below hb5);clear hb5;refine hK.out _ _ (fun _ _=>X6.out) ?_;clear hK K
   (try simp only [zA,zB,zC,Act.put,zD,zE,zF])
   refine nO (i:=4) (by kernel_rfl) rfl (fun K hK=> ?_);go_simp;go_simp;refine hK.out _ _ (fun _ hS=>bB hS ((Below.refl _ _).alloc (Nat.le_refl _) _)) ?_;clear hK K
   (try simp only [zA,zB,zC,Act.put,zD,zE,zF])
   refine nO (i:=5) (by kernel_rfl) rfl (fun K hK=> ?_);go_simp;refine(HPt.out w5 _ rfl).mono ?_;rintro e w6 ⟨rfl,hb6⟩;have X7:=LH (bB X6.out hb6);have B7:=LH (Below.then_ B6.out hb6);have O71:=LH (O61.out.below hb6);have O72:=LH (O62.out.below hb6);clear hb6;refine hK.out _ _ (fun _ _=>X7.out) ?_;clear hK K
   (try simp only [zA,zB,zC,Act.put,zD,zE,zF])
   refine nP 6 (Value.tuple #[.string ⟨P1.toArray⟩,.int .i64 0]) (h:= ?_)
   (try simp only [zA,zB,zC,Act.put,zD,zE,zF])
   refine nP 7 (Value.string ⟨P1.toArray⟩) (h:= ?_)
   (try simp only [zA,zB,zC,Act.put,zD,zE,zF])
   refine nP 8 (Value.int .i64 0) (h:= ?_)
   (try simp only [zA,zB,zC,Act.put,zD,zE,zF])
   refine nP 9 (Value.string ⟨P1.toArray⟩) (h:= ?_)
   (try simp only [zA,zB,zC,Act.put,zD,zE,zF])
   refine nO (i:=10) (by kernel_rfl) rfl (fun K hK=> ?_);go_simp;refine hK.out _ _ (fun _ _=>X7.out) ?_;clear hK K
   (try simp only [zA,zB,zC,Act.put,zD,zE,zF])
   refine nD (by kernel_rfl) ?_ _;refine NoPanic.normal ?_;clear O61 O62 O51 O52 X4 X5 X6 B5 B6 D5;go_wp2_with fail;refine(HRi.out _ O71.out).mono ?_;rintro e w8 ⟨rfl,hb8⟩;have X8:=LH (bB X7.out hb8);have B8:=LH (Below.then_ B7.out hb8);have O82:=LH (O72.out.below hb8);clear hb8 X7 B7 O71 O72;go_wp2_with fail;refine(HPc.out _ O82.out).mono ?_;rintro e w9 ⟨rfl,hb9⟩;have X9:=LH (bB X8.out hb9);have B9:=LH (Below.then_ B8.out hb9);have c9:=bC X9.out;have z9:=lB X9.out;clear hb9 X8 B8 O82;go_wp2_with fail;refine(HSe.out _).mono ?_;rintro e wa ⟨rfl,hba⟩
   have Ba:Hid (Below w.heap.size w wa):=LH (by
    have B9:=B9.out;exact Below.then_ bE hba)
   clear hba;go_wp2_with fail;exact bR (v:=.tuple #[.string ⟨G.toArray⟩,.int .i64 0]) (by simp only [results,Tryz.results83];go_simp) rfl ⟨rfl,Ba.out⟩
theorem back1B {W:World} {a:UInt8} {px:Nat} {z:Int} (hz:z= (a.toNat:Int)) (h:W.heap[px]? =some (.cells #[.int .u8 z] 5 (0,0))) :
 (convert 129 9 (.slice (some ⟨px,0,none⟩) 1 1)).run Tryz.prog W=.ok (.string ⟨[a].toArray⟩) W:=by
 subst hz;refine run_convert_bytes_back (P:=Tryz.prog) _ 129 9 5 ⟨px,0,none⟩ 1 [a] Tryz.underlying129 Tryz.underlying5 Tryz.underlying9 ?_;intro j hj;rw [show Addr.add ⟨px,0,none⟩ j= ⟨px,j,none⟩ by unfold Addr.add;split <;> simp_all];simp only [List.length_cons,List.length_nil] at hj
 match j,hj with
 |0,_=>rw [bC h];rfl
structure EncR (w:World) (l:Nat) (k:Int) (r:List Nd) (A:Option Addr) (c:Nat) (W:World) :Prop where
 x:W.heap[w.heap.size]? =some (.cells #[.int .i64 k,.int .i64 l,.slice A r.length c] 35 (0,0))
 s:Sl W w.heap.size encN A r
 b:Below w.heap.size w W
theorem EncR.below {w:World} {l:Nat} {k:Int} {r:List Nd} {A:Option Addr} {c:Nat} {W W':World} (h:EncR w l k r A c W) (hb:Below W.heap.size W W') :EncR w l k r A c W':=
 ⟨bB h.x hb,h.s.below (hb.mono h.b.size),h.b.trans (hb.mono h.b.size)⟩
theorem EncR.sl {w:World} {l:Nat} {k:Int} {r:List Nd} {A:Option Addr} {c:Nat} {W:World} (h:EncR w l k r A c W) :Sl W W.heap.size encN A r:=h.s.keep h.b.size fun _ _=>rfl
theorem EncR.alloc {w:World} {l:Nat} {k:Int} {r:List Nd} {A:Option Addr} {c:Nat} {W:World} (h:EncR w l k r A c W) (o:Obj) :EncR w l k r A c (W.alloc o):=h.below ((Below.refl _ _).alloc (Nat.le_refl _) o)
theorem EncR.drew {w:World} {l:Nat} {k:Int} {r:List Nd} {A:Option Addr} {c:Nat} {W:World} (h:EncR w l k r A c W) :EncR w l k r A c W.drew:=h.below (Below.refl _ _).drew
theorem ref24_Encode (w:World) (l:Nat) (k:Int) (A:Option Addr) (cap:Nat) (r:List Nd) (hl:1≤l∧l≤48) (hS:Sl w w.heap.size encN A r) (hf:Fits l r) (hlen:r.length≤50000) (hk:1≤k) (hk2:k≤1048576) :
 Calls Tryz.prog 71 #[.agg #[.int .i64 k,.int .i64 l,.slice A r.length cap]] w fun e w'=>e=.returned (.string ⟨(wireT l k r).toArray⟩)∧Below w.heap.size w w':=by
 have HWF:=LH (WireF.of hl hf hk hk2 (by omega));have hI:=fits_ints hf hl.2;have htot:=tot_roll hf.roll hf.sum;have HW:=LH (fun W h=>ref13_Weight W k l A cap r h hI (by unfold maxLen;omega));rw [htot] at HW;have R0:Hid (EncR w l k r A cap (w.alloc (.cells #[.int .i64 k,.int .i64 l,.slice A r.length cap] 35))):=LH ⟨heap_alloc_new w _,hS.below ((Below.refl _ _).alloc (Nat.le_refl _) _),bE⟩;obtain⟨kn,hkn⟩:=Int.eq_ofNat_of_zero_le (show 0≤k by omega);have hs0:=sumR_nonneg hf.roll;have hs1:=hf.sum;obtain⟨sn,hsn⟩:=Int.eq_ofNat_of_zero_le hs0;have hput:putB [k,sumR r] =oneB kn ++ oneB sn:=by rw [hkn,hsn];simp [putB]
 have HG:Hid (wireT l k r=sealT ((([68,87,80,1] ++ [UInt8.ofNat l]) ++ oneB kn) ++ oneB sn ++ risesB (r.map (·.1)) ++ putB (r.map (·.2)))):=LH (by unfold wireT;rw [hput];simp only [List.append_assoc]);have hbl: (l:Int) = ((UInt8.ofNat l).toNat:Int):=by rw [UInt8.toNat_ofNat'];omega
 have hkn9:kn≤1048576:=by omega
 have hsn9:sn≤72057594037927935:=by omega
 have HI:=LH hI;rw [hsn] at HW;have H1k:=LH (fun W=>ref22_One W kn (by omega));have H1s:=LH (fun W=>ref22_One W sn (by omega));have hok:=oneB_le (n:=kn) (by omega);have hos:=oneB_le (n:=sn) (by omega);have HWl:=LH (And.intro HWF.out.l2 HWF.out.l3);subst hkn;rw [HG.out];clear hS hf hput htot hs0 hs1 hsn hI HG hk hk2;generalize oneB kn=ok at H1k hok⊢;generalize oneB sn=os at H1s hos⊢;generalize UInt8.ofNat l=b8 at hbl⊢;have HBl:=LH hbl;have hwl:IntKind.u8.wrap (l:Int) = (l:Int):=by rw [IntKind.wrap_u8];omega
 clear hbl;have hc1:=fun W=>run_string_add_lists (P:=Tryz.prog) W [68,87,80,1] [b8] (by simp) (by simp);have hc2:=fun W=>run_string_add_lists (P:=Tryz.prog) W ([68,87,80,1] ++ [b8]) ok (by simp) (by omega);have hc3:=fun W=>run_string_add_lists (P:=Tryz.prog) W (([68,87,80,1] ++ [b8]) ++ ok) os (by simp;omega) (by omega);obtain⟨U1,hU1⟩ : ∃U,U= ([68,87,80,1] ++ [b8] :List UInt8):=⟨_,rfl⟩;rw [←hU1] at hc1 hc2 hc3⊢;obtain⟨U2,hU2⟩ : ∃U,U=U1 ++ ok:=⟨_,rfl⟩;rw [←hU2] at hc2 hc3⊢;obtain⟨U3,hU3⟩ : ∃U,U=U2 ++ os:=⟨_,rfl⟩;rw [←hU3] at hc3⊢;have hU3l:U3.length≤23:=by rw [hU3,hU2,hU1];simp only [List.length_append,List.length_cons,List.length_nil];omega
 clear hU1 hU2 hU3;have HP:Hid (∀W:World,True):=LH fun _=>trivial
 go_enter Tryz.func71,Tryz.ntmps71
 go_upto_region 1 with fail;generalize w.alloc (.cells #[.int .i64 kn,.int .i64 l,.slice A r.length cap] 35) =W0 at R0⊢;have R1:=LH R0.out.drew
 go_cut [3] (fun sv W=>sv=.string ⟨U3.toArray⟩∧EncR w l kn r A cap W)
 case first=>
  refine wp_region_noPanic ?_;refine wp_region_N (fun w'=>w'.heap[w.heap.size]? =some (.cells #[.int .i64 kn,.int .i64 l,.slice A r.length cap] 35 (0,0))) [] (by kernel_rfl) (R0.out.x) (fun hHeld=> ?_);generalize W0.drew=Wd at R1 hHeld⊢;refine nP 0 (Value.pointer (some ⟨w.heap.size,1,none⟩)) (h:= ?_)
  (try simp only [zA,zB,zC,Act.put,zD,zE,zF])
  refine nP 1 (Value.pointer (some ⟨w.heap.size,1,none⟩)) (h:= ?_)
  (try simp only [zA,zB,zC,Act.put,zD,zE,zF])
  refine nT 2 (Value.int .i64 l) (y:=Or.inl ⟨by rfl,fun W hW=>by have q1:=bC hW;have q2:=lB hW;go_simp⟩) (s:=R1.out.x) (h:= ?_)
  (try simp only [zA,zB,zC,Act.put,zD,zE,zF])
  refine nP 3 (Value.int .u8 l) (h:= ?_)
  (try simp only [zA,zB,zC,Act.put,zD,zE,zF])
  refine nP 7 (Value.pointer (some ⟨w.heap.size,0,none⟩)) (h:= ?_)
  (try simp only [zA,zB,zC,Act.put,zD,zE,zF])
  refine nT 8 (Value.int .i64 kn) (y:=Or.inl ⟨by rfl,fun W hW=>by have q1:=bC hW;have q2:=lB hW;go_simp⟩) (s:=R1.out.x) (h:= ?_)
  (try simp only [zA,zB,zC,Act.put,zD,zE,zF])
  refine nT 11 (Value.agg #[.int .i64 kn,.int .i64 l,.slice A r.length cap]) (y:=Or.inl ⟨by rfl,fun W hW=>by have q1:=bC hW;have q2:=lB hW;go_simp⟩) (s:=R1.out.x) (h:= ?_)
  (try simp only [zA,zB,zC,Act.put,zD,zE,zF])
  clear hHeld R0;refine wpAnyN_two (i:=4) (k:=9) (by kernel_rfl) rfl rfl (fun K hK=> ?_) (fun K hK=> ?_)
  ·skip
   go_simp;refine hK.out _ _ (fun _ hS=>bB hS ((Below.refl _ _).alloc (Nat.le_refl _) _)) ?_;clear hK K
   (try simp only [zA,zB,zC,Act.put,zD,zE,zF])
   have L1:=LH (heap_alloc_new Wd (.cells #[.int .u8 l] 5));have R1:=LH (R1.out.alloc (.cells #[.int .u8 l] 5));obtain⟨px,hpx⟩ : ∃q,q=Wd.heap.size:=⟨_,rfl⟩;rw [←hpx] at L1⊢;generalize Wd.alloc (.cells #[.int .u8 l] 5) =W1 at L1 R1⊢;clear hpx;refine wpAnyN_two (i:=5) (k:=9) (by kernel_rfl) rfl rfl (fun K hK=> ?_) (fun K hK=> ?_)
   ·skip
    have hcv2:=back1B HBl.out L1.out;go_simp;refine hK.out _ _ (fun _ hS=>hS) ?_;clear hK K
    (try simp only [zA,zB,zC,Act.put,zD,zE,zF])
    refine nP 6 (Value.string ⟨U1.toArray⟩) (h:= ?_)
    (try simp only [zA,zB,zC,Act.put,zD,zE,zF])
    refine nO (i:=9) (by kernel_rfl) rfl (fun K hK=> ?_);go_simp;refine(H1k.out W1).mono ?_;rintro e W3 ⟨rfl,hb3⟩;refine hK.out _ _ (fun _ hS=>bB hS hb3) ?_;clear hK K
    (try simp only [zA,zB,zC,Act.put,zD,zE,zF])
    have R3:=LH (R1.out.below hb3);have L3:=LH (bB L1.out hb3);clear hb3;refine nP 10 (Value.string ⟨U2.toArray⟩) (h:= ?_)
    (try simp only [zA,zB,zC,Act.put,zD,zE,zF])
    refine nO (i:=12) (by kernel_rfl) rfl (fun K hK=> ?_);go_simp;refine(HW.out W3 R3.out.sl).mono ?_;rintro e W4 ⟨rfl,hb4⟩;refine hK.out _ _ (fun _ hS=>bB hS hb4) ?_;clear hK K
    (try simp only [zA,zB,zC,Act.put,zD,zE,zF])
    have R4:=LH (R3.out.below hb4);have L4:=LH (bB L3.out hb4);clear hb4;refine nO (i:=13) (by kernel_rfl) rfl (fun K hK=> ?_);go_simp;refine(H1s.out W4).mono ?_;rintro e W5 ⟨rfl,hb5⟩;refine hK.out _ _ (fun _ hS=>bB hS hb5) ?_;clear hK K
    (try simp only [zA,zB,zC,Act.put,zD,zE,zF])
    have R5:=LH (R4.out.below hb5);have L5:=LH (bB L4.out hb5);clear hb5;refine nP 14 (Value.string ⟨U3.toArray⟩) (h:= ?_)
    (try simp only [zA,zB,zC,Act.put,zD,zE,zF])
    refine nO (i:=15) (by kernel_rfl) rfl (fun K hK=> ?_);go_simp;refine hK.out _ _ (fun _ _=>R5.out.x) ?_;clear hK K
    (try simp only [zA,zB,zC,Act.put,zD,zE,zF])
    refine nD (by kernel_rfl) ?_ _;refine NoPanic.normal ?_;have HE:=LH R5.out;go_wp2_with fail
    go_meet
    exact⟨rfl,HE.out⟩
   ·skip
    go_simp;refine(H1k.out W1).mono ?_;rintro e W6 ⟨rfl,hb6⟩;refine hK.out _ _ (fun _ hS=>bB hS hb6) ?_;clear hK K
    (try simp only [zA,zB,zC,Act.put,zD,zE,zF])
    have R6:=LH (R1.out.below hb6);have L6:=LH (bB L1.out hb6);clear hb6;refine wpAnyN_two (i:=5) (k:=12) (by kernel_rfl) rfl rfl (fun K hK=> ?_) (fun K hK=> ?_)
    ·skip
     have hcv7:=back1B HBl.out L6.out;go_simp;refine hK.out _ _ (fun _ hS=>hS) ?_;clear hK K
     (try simp only [zA,zB,zC,Act.put,zD,zE,zF])
     refine nP 6 (Value.string ⟨U1.toArray⟩) (h:= ?_)
     (try simp only [zA,zB,zC,Act.put,zD,zE,zF])
     refine nP 10 (Value.string ⟨U2.toArray⟩) (h:= ?_)
     (try simp only [zA,zB,zC,Act.put,zD,zE,zF])
     refine nO (i:=12) (by kernel_rfl) rfl (fun K hK=> ?_);go_simp;refine(HW.out W6 R6.out.sl).mono ?_;rintro e W8 ⟨rfl,hb8⟩;refine hK.out _ _ (fun _ hS=>bB hS hb8) ?_;clear hK K
     (try simp only [zA,zB,zC,Act.put,zD,zE,zF])
     have R8:=LH (R6.out.below hb8);have L8:=LH (bB L6.out hb8);clear hb8;refine nO (i:=13) (by kernel_rfl) rfl (fun K hK=> ?_);go_simp;refine(H1s.out W8).mono ?_;rintro e W9 ⟨rfl,hb9⟩;refine hK.out _ _ (fun _ hS=>bB hS hb9) ?_;clear hK K
     (try simp only [zA,zB,zC,Act.put,zD,zE,zF])
     have R9:=LH (R8.out.below hb9);have L9:=LH (bB L8.out hb9);clear hb9;refine nP 14 (Value.string ⟨U3.toArray⟩) (h:= ?_)
     (try simp only [zA,zB,zC,Act.put,zD,zE,zF])
     refine nO (i:=15) (by kernel_rfl) rfl (fun K hK=> ?_);go_simp;refine hK.out _ _ (fun _ _=>R9.out.x) ?_;clear hK K
     (try simp only [zA,zB,zC,Act.put,zD,zE,zF])
     refine nD (by kernel_rfl) ?_ _;refine NoPanic.normal ?_;have HE:=LH R9.out;go_wp2_with fail
     go_meet
     exact⟨rfl,HE.out⟩
    ·skip
     go_simp;refine(HW.out W6 R6.out.sl).mono ?_;rintro e W10 ⟨rfl,hb10⟩;refine hK.out _ _ (fun _ hS=>bB hS hb10) ?_;clear hK K
     (try simp only [zA,zB,zC,Act.put,zD,zE,zF])
     have R10:=LH (R6.out.below hb10);have L10:=LH (bB L6.out hb10);clear hb10;refine wpAnyN_two (i:=5) (k:=13) (by kernel_rfl) rfl rfl (fun K hK=> ?_) (fun K hK=> ?_)
     ·skip
      have hcv11:=back1B HBl.out L10.out;go_simp;refine hK.out _ _ (fun _ hS=>hS) ?_;clear hK K
      (try simp only [zA,zB,zC,Act.put,zD,zE,zF])
      refine nP 6 (Value.string ⟨U1.toArray⟩) (h:= ?_)
      (try simp only [zA,zB,zC,Act.put,zD,zE,zF])
      refine nP 10 (Value.string ⟨U2.toArray⟩) (h:= ?_)
      (try simp only [zA,zB,zC,Act.put,zD,zE,zF])
      refine nO (i:=13) (by kernel_rfl) rfl (fun K hK=> ?_);go_simp;refine(H1s.out W10).mono ?_;rintro e W12 ⟨rfl,hb12⟩;refine hK.out _ _ (fun _ hS=>bB hS hb12) ?_;clear hK K
      (try simp only [zA,zB,zC,Act.put,zD,zE,zF])
      have R12:=LH (R10.out.below hb12);have L12:=LH (bB L10.out hb12);clear hb12;refine nP 14 (Value.string ⟨U3.toArray⟩) (h:= ?_)
      (try simp only [zA,zB,zC,Act.put,zD,zE,zF])
      refine nO (i:=15) (by kernel_rfl) rfl (fun K hK=> ?_);go_simp;refine hK.out _ _ (fun _ _=>R12.out.x) ?_;clear hK K
      (try simp only [zA,zB,zC,Act.put,zD,zE,zF])
      refine nD (by kernel_rfl) ?_ _;refine NoPanic.normal ?_;have HE:=LH R12.out;go_wp2_with fail
      go_meet
      exact⟨rfl,HE.out⟩
     ·skip
      go_simp;refine(H1s.out W10).mono ?_;rintro e W13 ⟨rfl,hb13⟩;refine hK.out _ _ (fun _ hS=>bB hS hb13) ?_;clear hK K
      (try simp only [zA,zB,zC,Act.put,zD,zE,zF])
      have R13:=LH (R10.out.below hb13);have L13:=LH (bB L10.out hb13);clear hb13;refine nO (i:=5) (by kernel_rfl) rfl (fun K hK=> ?_);have hcv14:=back1B HBl.out L13.out;go_simp;refine hK.out _ _ (fun _ hS=>hS) ?_;clear hK K
      (try simp only [zA,zB,zC,Act.put,zD,zE,zF])
      refine nP 6 (Value.string ⟨U1.toArray⟩) (h:= ?_)
      (try simp only [zA,zB,zC,Act.put,zD,zE,zF])
      refine nP 10 (Value.string ⟨U2.toArray⟩) (h:= ?_)
      (try simp only [zA,zB,zC,Act.put,zD,zE,zF])
      refine nP 14 (Value.string ⟨U3.toArray⟩) (h:= ?_)
      (try simp only [zA,zB,zC,Act.put,zD,zE,zF])
      refine nO (i:=15) (by kernel_rfl) rfl (fun K hK=> ?_);go_simp;refine hK.out _ _ (fun _ _=>R13.out.x) ?_;clear hK K
      (try simp only [zA,zB,zC,Act.put,zD,zE,zF])
      refine nD (by kernel_rfl) ?_ _;refine NoPanic.normal ?_;have HE:=LH R13.out;go_wp2_with fail
      go_meet
      exact⟨rfl,HE.out⟩
  ·skip
   go_simp;refine(H1k.out Wd).mono ?_;rintro e W15 ⟨rfl,hb15⟩;refine hK.out _ _ (fun _ hS=>bB hS hb15) ?_;clear hK K
   (try simp only [zA,zB,zC,Act.put,zD,zE,zF])
   have R15:=LH (R1.out.below hb15);clear hb15;refine wpAnyN_two (i:=4) (k:=12) (by kernel_rfl) rfl rfl (fun K hK=> ?_) (fun K hK=> ?_)
   ·skip
    go_simp;refine hK.out _ _ (fun _ hS=>bB hS ((Below.refl _ _).alloc (Nat.le_refl _) _)) ?_;clear hK K
    (try simp only [zA,zB,zC,Act.put,zD,zE,zF])
    have L16:=LH (heap_alloc_new W15 (.cells #[.int .u8 l] 5));have R16:=LH (R15.out.alloc (.cells #[.int .u8 l] 5));obtain⟨px,hpx⟩ : ∃q,q=W15.heap.size:=⟨_,rfl⟩;rw [←hpx] at L16⊢;generalize W15.alloc (.cells #[.int .u8 l] 5) =W16 at L16 R16⊢;clear hpx;refine wpAnyN_two (i:=5) (k:=12) (by kernel_rfl) rfl rfl (fun K hK=> ?_) (fun K hK=> ?_)
    ·skip
     have hcv17:=back1B HBl.out L16.out;go_simp;refine hK.out _ _ (fun _ hS=>hS) ?_;clear hK K
     (try simp only [zA,zB,zC,Act.put,zD,zE,zF])
     refine nP 6 (Value.string ⟨U1.toArray⟩) (h:= ?_)
     (try simp only [zA,zB,zC,Act.put,zD,zE,zF])
     refine nP 10 (Value.string ⟨U2.toArray⟩) (h:= ?_)
     (try simp only [zA,zB,zC,Act.put,zD,zE,zF])
     refine nO (i:=12) (by kernel_rfl) rfl (fun K hK=> ?_);go_simp;refine(HW.out W16 R16.out.sl).mono ?_;rintro e W18 ⟨rfl,hb18⟩;refine hK.out _ _ (fun _ hS=>bB hS hb18) ?_;clear hK K
     (try simp only [zA,zB,zC,Act.put,zD,zE,zF])
     have R18:=LH (R16.out.below hb18);have L18:=LH (bB L16.out hb18);clear hb18;refine nO (i:=13) (by kernel_rfl) rfl (fun K hK=> ?_);go_simp;refine(H1s.out W18).mono ?_;rintro e W19 ⟨rfl,hb19⟩;refine hK.out _ _ (fun _ hS=>bB hS hb19) ?_;clear hK K
     (try simp only [zA,zB,zC,Act.put,zD,zE,zF])
     have R19:=LH (R18.out.below hb19);have L19:=LH (bB L18.out hb19);clear hb19;refine nP 14 (Value.string ⟨U3.toArray⟩) (h:= ?_)
     (try simp only [zA,zB,zC,Act.put,zD,zE,zF])
     refine nO (i:=15) (by kernel_rfl) rfl (fun K hK=> ?_);go_simp;refine hK.out _ _ (fun _ _=>R19.out.x) ?_;clear hK K
     (try simp only [zA,zB,zC,Act.put,zD,zE,zF])
     refine nD (by kernel_rfl) ?_ _;refine NoPanic.normal ?_;have HE:=LH R19.out;go_wp2_with fail
     go_meet
     exact⟨rfl,HE.out⟩
    ·skip
     go_simp;refine(HW.out W16 R16.out.sl).mono ?_;rintro e W20 ⟨rfl,hb20⟩;refine hK.out _ _ (fun _ hS=>bB hS hb20) ?_;clear hK K
     (try simp only [zA,zB,zC,Act.put,zD,zE,zF])
     have R20:=LH (R16.out.below hb20);have L20:=LH (bB L16.out hb20);clear hb20;refine wpAnyN_two (i:=5) (k:=13) (by kernel_rfl) rfl rfl (fun K hK=> ?_) (fun K hK=> ?_)
     ·skip
      have hcv21:=back1B HBl.out L20.out;go_simp;refine hK.out _ _ (fun _ hS=>hS) ?_;clear hK K
      (try simp only [zA,zB,zC,Act.put,zD,zE,zF])
      refine nP 6 (Value.string ⟨U1.toArray⟩) (h:= ?_)
      (try simp only [zA,zB,zC,Act.put,zD,zE,zF])
      refine nP 10 (Value.string ⟨U2.toArray⟩) (h:= ?_)
      (try simp only [zA,zB,zC,Act.put,zD,zE,zF])
      refine nO (i:=13) (by kernel_rfl) rfl (fun K hK=> ?_);go_simp;refine(H1s.out W20).mono ?_;rintro e W22 ⟨rfl,hb22⟩;refine hK.out _ _ (fun _ hS=>bB hS hb22) ?_;clear hK K
      (try simp only [zA,zB,zC,Act.put,zD,zE,zF])
      have R22:=LH (R20.out.below hb22);have L22:=LH (bB L20.out hb22);clear hb22;refine nP 14 (Value.string ⟨U3.toArray⟩) (h:= ?_)
      (try simp only [zA,zB,zC,Act.put,zD,zE,zF])
      refine nO (i:=15) (by kernel_rfl) rfl (fun K hK=> ?_);go_simp;refine hK.out _ _ (fun _ _=>R22.out.x) ?_;clear hK K
      (try simp only [zA,zB,zC,Act.put,zD,zE,zF])
      refine nD (by kernel_rfl) ?_ _;refine NoPanic.normal ?_;have HE:=LH R22.out;go_wp2_with fail
      go_meet
      exact⟨rfl,HE.out⟩
     ·skip
      go_simp;refine(H1s.out W20).mono ?_;rintro e W23 ⟨rfl,hb23⟩;refine hK.out _ _ (fun _ hS=>bB hS hb23) ?_;clear hK K
      (try simp only [zA,zB,zC,Act.put,zD,zE,zF])
      have R23:=LH (R20.out.below hb23);have L23:=LH (bB L20.out hb23);clear hb23;refine nO (i:=5) (by kernel_rfl) rfl (fun K hK=> ?_);have hcv24:=back1B HBl.out L23.out;go_simp;refine hK.out _ _ (fun _ hS=>hS) ?_;clear hK K
      (try simp only [zA,zB,zC,Act.put,zD,zE,zF])
      refine nP 6 (Value.string ⟨U1.toArray⟩) (h:= ?_)
      (try simp only [zA,zB,zC,Act.put,zD,zE,zF])
      refine nP 10 (Value.string ⟨U2.toArray⟩) (h:= ?_)
      (try simp only [zA,zB,zC,Act.put,zD,zE,zF])
      refine nP 14 (Value.string ⟨U3.toArray⟩) (h:= ?_)
      (try simp only [zA,zB,zC,Act.put,zD,zE,zF])
      refine nO (i:=15) (by kernel_rfl) rfl (fun K hK=> ?_);go_simp;refine hK.out _ _ (fun _ _=>R23.out.x) ?_;clear hK K
      (try simp only [zA,zB,zC,Act.put,zD,zE,zF])
      refine nD (by kernel_rfl) ?_ _;refine NoPanic.normal ?_;have HE:=LH R23.out;go_wp2_with fail
      go_meet
      exact⟨rfl,HE.out⟩
   ·skip
    go_simp;refine(HW.out W15 R15.out.sl).mono ?_;rintro e W25 ⟨rfl,hb25⟩;refine hK.out _ _ (fun _ hS=>bB hS hb25) ?_;clear hK K
    (try simp only [zA,zB,zC,Act.put,zD,zE,zF])
    have R25:=LH (R15.out.below hb25);clear hb25;refine wpAnyN_two (i:=4) (k:=13) (by kernel_rfl) rfl rfl (fun K hK=> ?_) (fun K hK=> ?_)
    ·skip
     go_simp;refine hK.out _ _ (fun _ hS=>bB hS ((Below.refl _ _).alloc (Nat.le_refl _) _)) ?_;clear hK K
     (try simp only [zA,zB,zC,Act.put,zD,zE,zF])
     have L26:=LH (heap_alloc_new W25 (.cells #[.int .u8 l] 5));have R26:=LH (R25.out.alloc (.cells #[.int .u8 l] 5));obtain⟨px,hpx⟩ : ∃q,q=W25.heap.size:=⟨_,rfl⟩;rw [←hpx] at L26⊢;generalize W25.alloc (.cells #[.int .u8 l] 5) =W26 at L26 R26⊢;clear hpx;refine wpAnyN_two (i:=5) (k:=13) (by kernel_rfl) rfl rfl (fun K hK=> ?_) (fun K hK=> ?_)
     ·skip
      have hcv27:=back1B HBl.out L26.out;go_simp;refine hK.out _ _ (fun _ hS=>hS) ?_;clear hK K
      (try simp only [zA,zB,zC,Act.put,zD,zE,zF])
      refine nP 6 (Value.string ⟨U1.toArray⟩) (h:= ?_)
      (try simp only [zA,zB,zC,Act.put,zD,zE,zF])
      refine nP 10 (Value.string ⟨U2.toArray⟩) (h:= ?_)
      (try simp only [zA,zB,zC,Act.put,zD,zE,zF])
      refine nO (i:=13) (by kernel_rfl) rfl (fun K hK=> ?_);go_simp;refine(H1s.out W26).mono ?_;rintro e W28 ⟨rfl,hb28⟩;refine hK.out _ _ (fun _ hS=>bB hS hb28) ?_;clear hK K
      (try simp only [zA,zB,zC,Act.put,zD,zE,zF])
      have R28:=LH (R26.out.below hb28);have L28:=LH (bB L26.out hb28);clear hb28;refine nP 14 (Value.string ⟨U3.toArray⟩) (h:= ?_)
      (try simp only [zA,zB,zC,Act.put,zD,zE,zF])
      refine nO (i:=15) (by kernel_rfl) rfl (fun K hK=> ?_);go_simp;refine hK.out _ _ (fun _ _=>R28.out.x) ?_;clear hK K
      (try simp only [zA,zB,zC,Act.put,zD,zE,zF])
      refine nD (by kernel_rfl) ?_ _;refine NoPanic.normal ?_;have HE:=LH R28.out;go_wp2_with fail
      go_meet
      exact⟨rfl,HE.out⟩
     ·skip
      go_simp;refine(H1s.out W26).mono ?_;rintro e W29 ⟨rfl,hb29⟩;refine hK.out _ _ (fun _ hS=>bB hS hb29) ?_;clear hK K
      (try simp only [zA,zB,zC,Act.put,zD,zE,zF])
      have R29:=LH (R26.out.below hb29);have L29:=LH (bB L26.out hb29);clear hb29;refine nO (i:=5) (by kernel_rfl) rfl (fun K hK=> ?_);have hcv30:=back1B HBl.out L29.out;go_simp;refine hK.out _ _ (fun _ hS=>hS) ?_;clear hK K
      (try simp only [zA,zB,zC,Act.put,zD,zE,zF])
      refine nP 6 (Value.string ⟨U1.toArray⟩) (h:= ?_)
      (try simp only [zA,zB,zC,Act.put,zD,zE,zF])
      refine nP 10 (Value.string ⟨U2.toArray⟩) (h:= ?_)
      (try simp only [zA,zB,zC,Act.put,zD,zE,zF])
      refine nP 14 (Value.string ⟨U3.toArray⟩) (h:= ?_)
      (try simp only [zA,zB,zC,Act.put,zD,zE,zF])
      refine nO (i:=15) (by kernel_rfl) rfl (fun K hK=> ?_);go_simp;refine hK.out _ _ (fun _ _=>R29.out.x) ?_;clear hK K
      (try simp only [zA,zB,zC,Act.put,zD,zE,zF])
      refine nD (by kernel_rfl) ?_ _;refine NoPanic.normal ?_;have HE:=LH R29.out;go_wp2_with fail
      go_meet
      exact⟨rfl,HE.out⟩
    ·skip
     go_simp;refine(H1s.out W25).mono ?_;rintro e W31 ⟨rfl,hb31⟩;refine hK.out _ _ (fun _ hS=>bB hS hb31) ?_;clear hK K
     (try simp only [zA,zB,zC,Act.put,zD,zE,zF])
     have R31:=LH (R25.out.below hb31);clear hb31;refine nO (i:=4) (by kernel_rfl) rfl (fun K hK=> ?_);go_simp;refine hK.out _ _ (fun _ hS=>bB hS ((Below.refl _ _).alloc (Nat.le_refl _) _)) ?_;clear hK K
     (try simp only [zA,zB,zC,Act.put,zD,zE,zF])
     have L32:=LH (heap_alloc_new W31 (.cells #[.int .u8 l] 5));have R32:=LH (R31.out.alloc (.cells #[.int .u8 l] 5));obtain⟨px,hpx⟩ : ∃q,q=W31.heap.size:=⟨_,rfl⟩;rw [←hpx] at L32⊢;generalize W31.alloc (.cells #[.int .u8 l] 5) =W32 at L32 R32⊢;clear hpx;refine nO (i:=5) (by kernel_rfl) rfl (fun K hK=> ?_);have hcv33:=back1B HBl.out L32.out;go_simp;refine hK.out _ _ (fun _ hS=>hS) ?_;clear hK K
     (try simp only [zA,zB,zC,Act.put,zD,zE,zF])
     refine nP 6 (Value.string ⟨U1.toArray⟩) (h:= ?_)
     (try simp only [zA,zB,zC,Act.put,zD,zE,zF])
     refine nP 10 (Value.string ⟨U2.toArray⟩) (h:= ?_)
     (try simp only [zA,zB,zC,Act.put,zD,zE,zF])
     refine nP 14 (Value.string ⟨U3.toArray⟩) (h:= ?_)
     (try simp only [zA,zB,zC,Act.put,zD,zE,zF])
     refine nO (i:=15) (by kernel_rfl) rfl (fun K hK=> ?_);go_simp;refine hK.out _ _ (fun _ _=>R32.out.x) ?_;clear hK K
     (try simp only [zA,zB,zC,Act.put,zD,zE,zF])
     refine nD (by kernel_rfl) ?_ _;refine NoPanic.normal ?_;have HE:=LH R32.out;go_wp2_with fail
     go_meet
     exact⟨rfl,HE.out⟩
 case rest=>
  obtain⟨rfl,hr3⟩:=hcut;have R3:=LH hr3;clear hr3 R0 R1;have HWF2:=LH (And.intro HWF.out.up HWF.out.ids);have HCt:=LH HWF.out.cts;clear HWF;go_wp2_with fail
  go_loopw [4,5] (fun u i W=>∃q:Nat,i=.int .i64 q∧q≤r.length∧Own W wc.heap.size 3 encZ u ((r.take q).map (·.1))∧Below wc.heap.size wc W) (fun _ i _=>r.length - (intOf i).toNat)
  case atStart=>exact⟨0,rfl,Nat.zero_le _,Own.nil _ _ _ _,Below.refl _ _⟩
  case round=>
   obtain⟨q,rfl,hq,ho,hB⟩:=hrel;obtain⟨L,hL⟩ : ∃L,L= (r.take q).map (·.1):=⟨_,rfl⟩;rw [←hL] at ho;have HL:=LH hL;have hll:L.length≤50000:=by rw [hL,List.length_map,List.length_take];omega
   obtain⟨Ao,co,rfl,_⟩:=ho.form;have HO:=LH ho;have HB:=LH hB;have RR:=LH (R3.out.below hB);have sz:=hB.size;have cx:=bC RR.out.x;have zx:=lB RR.out.x;clear ho hB hL;by_cases hlt:q<r.length
   ·have hqi: (q:Int) < (r.length:Int):=by omega
    obtain⟨b,off,rfl,hb,hc⟩:=RR.out.sl.at_ hlt;have d0:=hc 0 (.int .i64 r[q].1) rfl;obtain⟨y,hy⟩ : ∃y,r[q] =y:=⟨_,rfl⟩;have HT1:=LH (map_take hlt hy).1;rw [←HL.out] at HT1;rw [hy] at d0;simp only [Nat.add_zero] at d0;clear hc hy HL;go_wp2_with ((at_builtin;go_loud (refine wpList_push tyZ rfl _ _ rfl encZ wr wc.heap.size (.slice Ao L.length co) L rfl HO.out y.1 (by go_simp) (by simp [encZ]) ?c1 ?c2 ?c3 ?c4)))
    case c1=>omega
    case c2=>unfold maxLen;omega
    case c3=>omega
    case c4=>
     intro v' w' ho' _ _ _ hb' _;have HO3:=LH ho';have HB3:=LH (HB.out.trans hb');clear ho' hb';go_wp2_with fail;go_roundw
     case rel=>exact⟨q+1,by go_num,by omega,by rw [HT1.out];exact HO3.out,HB3.out⟩
     case measure=>simp [intOf];omega
   ·obtain rfl:q=r.length:=by omega
    have hqi:decide ((r.length:Int) < (r.length:Int)) =false:=by simp
    rw [List.take_length] at HL;rw [←HL.out] at HWF2 HWl;have HRi:=LH (fun W h=>ref22_Rises W Ao co L h HWF2.out.2 (by omega) HWF2.out.1);have S4:=LH HO.out.sl;obtain⟨t1,ht1⟩ : ∃t,t=risesB L:=⟨_,rfl⟩;rw [←ht1] at HRi HWl;have Ht1:=LH ht1;have ht1l:t1.length≤450009:=by have:=HWl.out.1;omega
    clear ht1 HO HWF2;go_wp2_with fail;refine(HRi.out wr S4.out).mono ?_;rintro e w5 ⟨rfl,hb5⟩;have R5:=LH (RR.out.below hb5);clear hb5 RR HRi S4 cx zx HB;have hc4:=fun W=>run_string_add_lists (P:=Tryz.prog) W U3 t1 (by omega) (by omega);obtain⟨T,hT⟩ : ∃T,T=U3 ++ t1:=⟨_,rfl⟩;rw [←hT] at hc4;have HTe:=LH hT;have hTl:T.length≤450040:=by rw [hT,List.length_append];omega
    clear hT;go_wp2_with fail
    go_loopw [3,8] (fun sv i W=>∃q:Nat,i=.int .i64 q∧q≤r.length∧sv=.string ⟨(T ++ putB ((r.take q).map (·.2))).toArray⟩∧Below w5.heap.size w5 W) (fun _ i _=>r.length - (intOf i).toNat)
    case atStart=>exact⟨0,rfl,Nat.zero_le _,by simp [putB],Below.refl _ _⟩
    case round=>
     obtain⟨q,rfl,hq,rfl,hB⟩:=hrel;have HB:=LH hB;have RR:=LH (R5.out.below hB);have sz:=hB.size;have cx:=bC RR.out.x;have zx:=lB RR.out.x
     have hsl: (T ++ putB ((r.take q).map (·.2))).length≤8000000:=by
      have h1:=putB_len (L:=(r.take q).map (·.2)) fun x hx=>(HCt.out x (by
       obtain⟨y,hy,rfl⟩:=List.mem_map.1 hx;exact List.mem_map_of_mem (List.mem_of_mem_take hy))).1.2
      rw [List.length_map,List.length_take] at h1;rw [List.length_append];omega
     clear hB;by_cases hlt:q<r.length
     ·have hqi: (q:Int) < (r.length:Int):=by omega
      obtain⟨b,off,rfl,hb,hc⟩:=RR.out.sl.at_ hlt;have d0:=hc 1 (.int .i64 r[q].2) rfl;have hct:=HCt.out r[q].2 (List.mem_map_of_mem (List.getElem_mem hlt));obtain⟨y,hy⟩ : ∃y,r[q] =y:=⟨_,rfl⟩;have HT2:=LH (map_take hlt hy).2;rw [hy] at d0 hct;obtain⟨n,hn⟩:=Int.eq_ofNat_of_zero_le hct.2;rw [hn] at d0 HT2;have hn9:n≤9223372036854775807:=by have:=hct.1.2;omega
      have HT3:Hid (putB ((r.take (q+1)).map (·.2)) =putB ((r.take q).map (·.2)) ++ oneB n):=LH (by rw [HT2.out];simp [putB]);have H1:=LH (fun W=>ref22_One W n hn9);have hon:=oneB_le hn9;generalize oneB n=on at HT3 H1 hon;obtain⟨U,hU⟩ : ∃U,U=T ++ putB ((r.take q).map (·.2)):=⟨_,rfl⟩;rw [←hU] at hsl⊢;have HU:=LH hU;have hcat:=fun W=>run_string_add_lists (P:=Tryz.prog) W U on (by omega) (by omega);clear hc hy HT2 hct hn hU;go_wp2_with fail;refine(H1.out wr).mono ?_;rintro e w6 ⟨rfl,hb6⟩;have HB6:=LH (HB.out.trans (hb6.mono sz));clear hb6;go_wp2_with fail;go_roundw
      case rel=>exact⟨q+1,by go_num,by omega,by rw [HT3.out,←List.append_assoc,←HU.out],HB6.out⟩
      case measure=>simp [intOf];omega
     ·obtain rfl:q=r.length:=by omega
      have hqi:decide ((r.length:Int) < (r.length:Int)) =false:=by simp
      rw [List.take_length] at hsl⊢;generalize hZ:T ++ putB (r.map (·.2)) =Z at hsl⊢;have HZ:=LH hZ;clear hZ;have HSe:=LH (fun W=>ref23_Seal W Z hsl);go_wp2_with fail;refine(HSe.out wr).mono ?_;rintro e w6 ⟨rfl,hb6⟩;have R6:=LH (RR.out.below hb6);clear hb6;go_wp2_with fail;exact bR (v:=.string ⟨(sealT Z).toArray⟩) (by simp only [results,Tryz.results71];go_simp) rfl ⟨by rw [←HZ.out,HTe.out,Ht1.out,HL.out],R6.out.b⟩
structure Nt where
 on:Int
 fr:Int
 k:Int
 l:Int
 cover:Nat
 ops:List Op3
 at_:Int
 by_:UInt8
def turnT (t:List UInt8) (p:Int) (y:UInt8) :List UInt8:=if 0≤p∧p<t.length then (spoilT ⟨t.toArray⟩ p.toNat (y.toNat:Int)).data.toList else t
def textL (ep:Int) (B:Nt) (d:List Nd) :List UInt8:=
 if (enc29 (wrap64 (ep+B.on)) B.fr B.cover (wireT B.l.toNat B.k d)).2≠0 then [] else turnT (enc29 (wrap64 (ep+B.on)) B.fr B.cover (wireT B.l.toNat B.k d)).1 B.at_ B.by_
def TextTo (ep:Int) (B:Nt) (t:List UInt8) :Prop:=
 (isDig B.l B.k 2=false∧t= [])∨(isDig B.l B.k 2=true∧∃d,OfTo B.l.toNat B.k [] B.ops d∧t=textL ep B d)
theorem TextTo.unique {ep:Int} {B:Nt} {a b:List UInt8} (h1:TextTo ep B a) (h2:TextTo ep B b) :b=a:=by
 rcases h1 with ⟨e1,rfl⟩ | ⟨e1,d1,o1,rfl⟩
 ·rcases h2 with ⟨_,rfl⟩ | ⟨e2,_⟩
  ·rfl
  ·rw [e1] at e2;cases e2
 ·rcases h2 with ⟨e2,_⟩ | ⟨_,d2,o2,rfl⟩
  ·rw [e1] at e2;cases e2
  ·rw [o1.unique o2]
theorem crew_Of1 (w:World) (base:Nat) (v:Value) (i:Int) (ho:Own w base 3 encZ v [i]) :Calls Tryz.prog 106 #[v] w fun e w'=>e=.returned (.tuple #[.int .u64 (if isCrew i=true then withC 0 i else 0:Nat),.bool (isCrew i)])∧Below w.heap.size w w':=by
 obtain⟨A,c,rfl,_⟩:=ho.form;have HO:=LH (ho.base_le (Nat.zero_le _));clear ho
 go_enter Tryz.func106,Tryz.ntmps106
 go_wp2_with fail
 go_loopw [4,9] (fun u j wr=>∃q:Nat,j=.int .i64 q∧q≤1∧u=.int .u64 ((if q=0 then 0 else withC 0 i:Nat) :Int)∧(q=1→isCrew i=true)∧Below w.heap.size w wr) (fun _ j _=>1 - (intOf j).toNat)
 case atStart=>exact⟨0,rfl,by omega,rfl,by omega,Below.refl _ _⟩
 case round=>
  obtain⟨q,rfl,hq,rfl,hcr,hB⟩:=hrel;have HB:=LH hB;have HR:=LH (HO.out.below hB);have sz:=hB.size;clear hB;by_cases hlt:q=0
  ·subst hlt
   obtain⟨b,off,rfl,hb,hc⟩:=HR.out.sl.at_ (k:=0) (by simp);have d0:=hc 0 (.int .i64 i) rfl;simp only [Nat.zero_mul,Nat.add_zero] at d0;rw [if_pos rfl];clear hc hcr;go_wp2_with fail;refine(crew_is i _).mono ?_;rintro e w1 ⟨rfl,hb1⟩;have HB1:=LH (HB.out.trans (hb1.mono sz));clear hb1
   cases hi:isCrew i
   ·go_wp2_with fail
    all_goals exact bR (v:=.tuple #[.int .u64 0,.bool false]) (by simp only [results,Tryz.results106];go_simp) rfl ⟨by simp [hi],HB1.out⟩
   ·go_wp2_with fail
    refine(crew_With 0 i (by decide) _).mono ?_;rintro e w2 ⟨rfl,hb2⟩;have HB2:=LH (HB1.out.trans (hb2.mono HB1.out.size));clear hb2;go_wp2_with fail;go_roundw
    case rel=>exact⟨1,by go_num,by omega,rfl,fun _=>hi,HB2.out⟩
    case measure=>simp [intOf]
  ·obtain rfl:q=1:=by omega
   have hi:=hcr rfl;rw [if_neg (by decide)];go_wp2_with fail
   all_goals exact bR (v:=.tuple #[.int .u64 (withC 0 i:Nat),.bool true]) (by simp only [results,Tryz.results106];go_simp) rfl ⟨by simp [hi],HB.out⟩
def PlcAt (W:World) (g:Nat) (p:Plc) :Prop:=W.heap[g]? =some (.cells #[.int .i64 p.me,.int .u64 p.kids,.int .i64 p.wait] 82 (0,0))
theorem PlcAt.below {w w':World} {g:Nat} {p:Plc} (h:PlcAt w g p) (hb:Below w.heap.size w w') :PlcAt w' g p:=bB h hb
theorem PlcAt.new (w:World) (p:Plc) :PlcAt (w.alloc (.cells #[.int .i64 p.me,.int .u64 p.kids,.int .i64 p.wait] 82)) w.heap.size p:=heap_alloc_new w _
def rightS (p:Plc) :Bool:=isCrew p.me && rightC p.kids && !hasC p.kids p.me && decide (1≤p.wait) && decide (p.wait≤1048576)
theorem sensor_right (w:World) (p:Plc) (hk:p.kids<2^64) :Calls Tryz.prog 80 #[plcV p] w fun e w'=>e=.returned (.bool (rightS p))∧Below w.heap.size w w':=by
 have HA0:=LH (PlcAt.new w p);have HB0:Hid (Below w.heap.size w (w.alloc (.cells #[.int .i64 p.me,.int .u64 p.kids,.int .i64 p.wait] 82))):=LH bE;have HR:=LH (fun W=>crew_Right p.kids W);have HH:=LH (fun W=>crew_Has p.kids p.me hk W)
 have HO:Hid (∀W n,W.heap.size=n→Calls Tryz.prog 106 #[.slice (some ⟨n,0,none⟩) 1 1] (W.alloc (.cells #[.int .i64 p.me] 3)) fun e w'=>e=.returned (.tuple #[.int .u64 (if isCrew p.me=true then withC 0 p.me else 0:Nat),.bool (isCrew p.me)])∧Below W.heap.size W w'):=LH (fun W n hn=>by
  subst hn;refine(crew_Of1 _ _ _ p.me (Own.lit W encZ [p.me] 3 (Nat.le_refl _) (by simp [maxLen]))).mono ?_;rintro e w' ⟨he,hb⟩;exact⟨he,((Below.refl W.heap.size W).alloc (Nat.le_refl _) _).trans (hb.mono (by simp))⟩)
 generalize hZ:rightS p=Z;have HZ:=LH hZ;clear hZ hk;generalize hU: (if isCrew p.me=true then withC 0 p.me else 0) =U at HO;clear hU;obtain⟨me,kids,wait⟩:=p;unfold plcV;unfold rightS at HZ;dsimp only at*;generalize isCrew me=z1 at*;generalize rightC kids=z2 at*;generalize hasC kids me=z3 at*
 go_enter Tryz.func80,Tryz.ntmps80
 go_wp2_with fail;refine(HO.out _ _ (by simp)).mono ?_;rintro e1 w1 ⟨rfl,hb1⟩;have HB1:=LH (HB0.out.trans (hb1.mono (by simp)));have HA1:=LH (HA0.out.below hb1);clear hb1;have cc:=bC HA1.out;have cf:=bF HA1.out;have zb:=lB HA1.out
 cases z1
 ·go_wp2_with fail
  exact bR (v:=.bool false) (by simp only [results,Tryz.results80];go_simp) rfl ⟨by rw [←HZ.out];rfl,HB1.out⟩
 go_wp2_with fail;refine(HR.out _).mono ?_;rintro e2 w2 ⟨rfl,hb2⟩;have HB2:=LH (HB1.out.trans (hb2.mono HB1.out.size));have HA2:=LH (HA1.out.below hb2);clear hb2 cc cf zb;have cc2:=bC HA2.out;have cf2:=bF HA2.out;have zb2:=lB HA2.out
 cases z2
 ·go_wp2_with fail
  exact bR (v:=.bool false) (by simp only [results,Tryz.results80];go_simp) rfl ⟨by rw [←HZ.out];rfl,HB2.out⟩
 go_wp2_with fail;refine(HH.out _).mono ?_;rintro e3 w3 ⟨rfl,hb3⟩;have HB3:=LH (HB2.out.trans (hb3.mono HB2.out.size));have HA3:=LH (HA2.out.below hb3);clear hb3 cc2 cf2 zb2;have cc3:=bC HA3.out;have cf3:=bF HA3.out;have zb3:=lB HA3.out
 cases z3
 ·by_cases h1:1≤wait
  ·have hd:decide (1≤wait) =true:=by simpa using h1
   rw [hd] at HZ;go_wp2_with fail;exact bR (v:=.bool (decide (wait≤1048576))) (by simp only [results,Tryz.results80];go_simp) rfl ⟨by rw [←HZ.out];rfl,HB3.out⟩
  ·have hd:decide (1≤wait) =false:=by simpa using h1
   rw [hd] at HZ;go_wp2_with fail;exact bR (v:=.bool false) (by simp only [results,Tryz.results80];go_simp) rfl ⟨by rw [←HZ.out];rfl,HB3.out⟩
 ·go_wp2_with fail
  exact bR (v:=.bool false) (by simp only [results,Tryz.results80];go_simp) rfl ⟨by rw [←HZ.out];rfl,HB3.out⟩
def SensAt (w:World) (g K l:Nat) (s:Sen) (r:List Nd) (F:Nat→Prop) :Prop:=∃dg F0,F=footP g F0∧SenAt w g dg s∧s.l=l∧s.kd=K∧DigAt w dg K l s.k r F0∧¬F0 g
section
variable {w w':World} {g K l:Nat} {s:Sen} {r:List Nd} {F:Nat→Prop}
theorem SensAt.lt (h:SensAt w g K l s r F) : ∀b,F b→b<w.heap.size:=by
 obtain⟨dg,F0,rfl,h1,_,_,h2,_⟩:=h;rintro b (rfl|hb)
 ·exact lB h1
 ·exact h2.lt b hb
theorem SensAt.below (h:SensAt w g K l s r F) (hb:Below w.heap.size w w') :SensAt w' g K l s r F:=by
 obtain⟨dg,F0,rfl,h1,h3,h4,h2,h5⟩:=h;exact⟨dg,F0,rfl,h1.below hb,h3,h4,h2.below hb,h5⟩
theorem SensAt.keep (h:SensAt w g K l s r F) (hk: ∀b,F b→w'.heap[b]? =w.heap[b]?) :SensAt w' g K l s r F:=by
 obtain⟨dg,F0,rfl,h1,h3,h4,h2,h5⟩:=h;exact⟨dg,F0,rfl,(hk g (.inl rfl)).trans h1,h3,h4,h2.keep fun b hb=>hk b (.inr hb),h5⟩
theorem SensAt.own (h:SensAt w g K l s r F) :F g:=by
 obtain⟨dg,F0,rfl,_⟩:=h;exact .inl rfl
end
def SensTo (w:World) (g K l:Nat) (s:Sen) (r:List Nd) (F:Nat→Prop) (w':World) :Prop:=∃F',SensAt w' g K l s r F'∧Turn F w w'∧Grow w F F'
theorem SensTo.below {w w':World} {g K l:Nat} {s:Sen} {r:List Nd} {F:Nat→Prop} (h:SensAt w g K l s r F) (hb:Below w.heap.size w w') :SensTo w g K l s r F w':=⟨F,h.below hb,.of_below hb,Grow.refl⟩
theorem SensTo.then_ {w w1 w':World} {g K l:Nat} {s:Sen} {r:List Nd} {F:Nat→Prop} (h:SensTo w g K l s r F w1) (hB:Below w1.heap.size w1 w') :SensTo w g K l s r F w':=by
 obtain⟨F',h1,h2,h3⟩:=h;exact⟨F',h1.below hB,h2.more hB,h3⟩
theorem SensTo.from_ {w W w':World} {g K l:Nat} {s:Sen} {r:List Nd} {F:Nat→Prop} (hB:Below w.heap.size w W) (h:SensTo W g K l s r F w') :SensTo w g K l s r F w':=by
 obtain⟨F',h1,h2,h3⟩:=h;exact⟨F',h1,(Turn.of_below hB).trans h2 fun b hb=>.inl hb,fun b hb=>(h3 b hb).imp id fun h=>Nat.le_trans hB.size h⟩
def newS (l k K:Int) (p:Plc) (ep:Int) :Bool:=isDig l k K && rightS p && decide (0≤ep) && decide (ep≤1099511627776)
def senNew (l k K:Int) (p:Plc) (ep:Int) :Sen:=⟨l,k,K,p,ep,0,0,withC 0 p.me,false⟩
def confV (l k K:Int) :Value:=.agg #[.int .i64 l,.int .i64 k,.int .i64 K]
structure NewS (w:World) (l k K:Int) (p:Plc) (W:World) :Prop where
 c:W.heap[w.heap.size]? =some (.cells #[.int .i64 l,.int .i64 k,.int .i64 K] 23 (0,0))
 p:W.heap[w.heap.size+1]? =some (.cells #[.int .i64 p.me,.int .u64 p.kids,.int .i64 p.wait] 82 (0,0))
 b:Below w.heap.size w W
theorem NewS.below {w W W':World} {l k K:Int} {p:Plc} (h:NewS w l k K p W) (hb:Below W.heap.size W W') :NewS w l k K p W':=⟨bB h.c hb,bB h.p hb,h.b.trans (hb.mono h.b.size)⟩
theorem NewS.first (w:World) (l k K:Int) (p:Plc) :NewS w l k K p ((w.alloc (.cells #[.int .i64 l,.int .i64 k,.int .i64 K] 23)).alloc (.cells #[.int .i64 p.me,.int .u64 p.kids,.int .i64 p.wait] 82)):=
 ⟨(heap_new_lt _ _ _ (by simp)).trans (heap_alloc_new w _),heap_new_at (w.alloc _) _ _ (by simp),bE⟩
def SenPost (K l:Nat) (s:Sen) (w:World) (e:Ending) (w':World) :Prop:=∃g F,e=.returned (.tuple #[.pointer (some ⟨g,0,none⟩),.int .i64 0])∧SensAt w' g K l s [] F∧(∀b,F b→w.heap.size≤b)∧Below w.heap.size w w'
theorem sensor_New_no (w:World) (l k K:Int) (p:Plc) (ep:Int) (hk:p.kids<2^64) (h:newS l k K p ep=false) :
 Calls Tryz.prog 29 #[confV l k K,plcV p,.int .i64 ep] w fun e w'=>e=.returned (.tuple #[.pointer none,.int .i64 2])∧Below w.heap.size w w':=by
 have N0:=LH (NewS.first w l k K p);have HR:=LH (fun W=>sensor_right W p hk);have HD:=LH (fun W=>digest_New_no W l k K)
 have HE:Hid (∀W,isDig l k K=true→∃K' l',Calls Tryz.prog 79 #[.agg #[.int .i64 l,.int .i64 k,.int .i64 K]] W (DigPost K' l' k [] W)):=LH fun W hd=>by
  obtain⟨l',hl⟩ : ∃n:Nat,l=n:=Int.eq_ofNat_of_zero_le (by simp only [isDig,isPool,Bool.and_eq_true,decide_eq_true_eq] at hd;omega);obtain⟨K',hK⟩ : ∃n:Nat,K=n:=Int.eq_ofNat_of_zero_le (by simp only [isDig,isPool,Bool.and_eq_true,decide_eq_true_eq] at hd;omega);subst hl hK;exact⟨K',l',digest_New W l' K' k hd⟩
 unfold newS at h;unfold confV;unfold plcV at HR⊢;clear hk;generalize rightS p=z at HR h;obtain⟨me,kids,wait⟩:=p;dsimp only at*;generalize isDig l k K=d at*
 go_enter Tryz.func29,Tryz.ntmps29
 go_upto_region 1 with fail;generalize (w.alloc (.cells #[.int .i64 l,.int .i64 k,.int .i64 K] 23)).alloc (.cells #[.int .i64 me,.int .u64 kids,.int .i64 wait] 82) =W0 at N0⊢;have c0:=bC N0.out.c;have z0:=lB N0.out.c
 cases d
 ·go_wp2_with fail
  refine(HD.out _ trivial).mono ?_;rintro e w1 ⟨rfl,hb1⟩;have N1:=LH (N0.out.below hb1);clear hb1;go_wp2_with fail;exact bR (v:=.tuple #[.pointer none,.int .i64 2]) (by simp only [results,Tryz.results29];go_simp) rfl ⟨rfl,N1.out.b⟩
 ·go_wp2_with fail
  obtain⟨K',l',HC⟩:=HE.out W0 trivial;refine HC.mono ?_;rintro e w1 ⟨dg,F,rfl,_,_,hb1⟩;have N1:=LH (N0.out.below hb1);have c1:=bC N1.out.p;have z1:=lB N1.out.p;clear hb1 c0 z0 HC HE;go_wp2_with fail;refine(HR.out _).mono ?_;rintro e w2 ⟨rfl,hb2⟩;have N2:=LH (N1.out.below hb2);clear hb2 c1 z1
  cases z
  ·go_wp2_with fail
   exact bR (v:=.tuple #[.pointer none,.int .i64 2]) (by simp only [results,Tryz.results29];go_simp) rfl ⟨rfl,N2.out.b⟩
  ·by_cases h0:ep<0
   ·go_wp2_with fail
    exact bR (v:=.tuple #[.pointer none,.int .i64 2]) (by simp only [results,Tryz.results29];go_simp) rfl ⟨rfl,N2.out.b⟩
   ·have h1:1099511627776<ep:=by
     simp only [Bool.true_and,Bool.and_eq_false_iff,decide_eq_false_iff_not] at h;omega
    have h0':decide (ep<0) =false:=by simpa using h0
    go_wp2_with fail;exact bR (v:=.tuple #[.pointer none,.int .i64 2]) (by simp only [results,Tryz.results29];go_simp) rfl ⟨rfl,N2.out.b⟩
theorem sensor_New (w:World) (l K:Nat) (k:Int) (p:Plc) (ep:Int) (hk:p.kids<2^64) (h:newS l k K p ep=true) :
 Calls Tryz.prog 29 #[confV l k K,plcV p,.int .i64 ep] w (SenPost K l (senNew l k K p ep) w):=by
 have N0:=LH (NewS.first w l k K p);have HR:=LH (fun W=>sensor_right W p hk);have HW:=LH (fun W=>crew_With 0 p.me (by decide) W);unfold newS at h;simp only [Bool.and_eq_true,decide_eq_true_eq] at h;obtain⟨⟨⟨hd,hr⟩,h0⟩,h1⟩:=h;have HD:=LH (fun W=>digest_New W l K k hd);rw [hr] at HR;unfold confV;unfold plcV at HR⊢;clear hk hd hr;obtain⟨me,kids,wait⟩:=p;dsimp only at*;unfold senNew;dsimp only
 go_enter Tryz.func29,Tryz.ntmps29
 go_upto_region 1 with fail;generalize (w.alloc (.cells #[.int .i64 l,.int .i64 k,.int .i64 K] 23)).alloc (.cells #[.int .i64 me,.int .u64 kids,.int .i64 wait] 82) =W0 at N0⊢;have c0:=bC N0.out.c;have z0:=lB N0.out.c;go_wp2_with fail;refine(HD.out W0).mono ?_;rintro e w1 ⟨dg,F,rfl,hd1,hF1,hb1⟩;have D1:=LH hd1;have HF:=LH hF1;have N1:=LH (N0.out.below hb1);have B1:=LH N1.out.b;have c1:=bC N1.out.p;have z1:=lB N1.out.p;clear hd1 hF1 hb1 c0 z0;go_wp2_with fail;refine(HR.out _).mono ?_;rintro e w2 ⟨rfl,hb2⟩;have N2:=LH (N1.out.below hb2);have D2:=LH (D1.out.below hb2);have B2:=LH (Below.then_ B1.out hb2);clear hb2 c1 z1 N1 D1 B1;have h0':decide (ep<0) =false:=by simpa using h0
 have h1':decide (1099511627776<ep) =false:=by simpa using h1
 clear h0 h1;have N0s:=LH N0.out.b.size;go_upto_region 4 with fail;refine wp_region_noPanic ?_;refine wp_region_N (fun w'=>NewS w l k K ⟨me,kids,wait⟩ w') [] (by kernel_rfl) (N2.out.below bE) (fun hHeld=> ?_);refine wpAnyN_take (i:=0) (v:=Value.agg #[.int .i64 l,.int .i64 k,.int .i64 K]) rfl (by kernel_rfl) (by kernel_rfl) (by kernel_rfl) (by kernel_rfl) (fun _ _ _ h=>h) (Or.inl ⟨by rfl,fun W hW=>by have q1:=bC hW.c;have q2:=lB hW.c;have q3:=bC hW.p;have q4:=lB hW.p;go_simp⟩) (N2.out.below bE) ?_
 (try simp only [zA,zB,zC,Act.put,zD,zE,zF])
 refine wpAnyN_take (i:=1) (v:=Value.agg #[.int .i64 me,.int .u64 kids,.int .i64 wait]) rfl (by kernel_rfl) (by kernel_rfl) (by kernel_rfl) (by kernel_rfl) (fun _ _ _ h=>h) (Or.inl ⟨by rfl,fun W hW=>by have q1:=bC hW.c;have q2:=lB hW.c;have q3:=bC hW.p;have q4:=lB hW.p;go_simp⟩) (N2.out.below bE) ?_
 (try simp only [zA,zB,zC,Act.put,zD,zE,zF])
 refine nP 2 (Value.int .i64 ep) (h:= ?_)
 (try simp only [zA,zB,zC,Act.put,zD,zE,zF])
 refine nP 3 (Value.pointer (some ⟨w.heap.size+1,0,none⟩)) (h:= ?_)
 (try simp only [zA,zB,zC,Act.put,zD,zE,zF])
 refine wpAnyN_take (i:=4) (v:=Value.int .i64 me) rfl (by kernel_rfl) (by kernel_rfl) (by kernel_rfl) (by kernel_rfl) (fun _ _ _ h=>h) (Or.inl ⟨by rfl,fun W hW=>by have q1:=bC hW.c;have q2:=lB hW.c;have q3:=bC hW.p;have q4:=lB hW.p;go_simp⟩) (N2.out.below bE) ?_
 (try simp only [zA,zB,zC,Act.put,zD,zE,zF])
 refine nP 6 (Value.pointer (some ⟨dg,0,none⟩)) (h:= ?_)
 (try simp only [zA,zB,zC,Act.put,zD,zE,zF])
 refine nO (i:=5) (by kernel_rfl) rfl (fun K hK=> ?_);go_simp;refine(HW.out _).mono ?_;rintro e w3 ⟨rfl,hb3⟩;have N3:=LH ((N2.out.below (W':=w2.drew) bE).below hb3);have D3:=LH ((D2.out.below (w':=w2.drew) bE).below hb3);have B3:=LH (Below.then_ (W:=w2.drew) (B2.out.drew) hb3);clear hb3;refine hK.out _ _ (fun _ _=>N3.out) ?_;clear hK K
 (try simp only [zA,zB,zC,Act.put,zD,zE,zF])
 refine nP 7 (Value.agg #[.int .i64 l,.int .i64 k,.int .i64 K,.int .i64 me,.int .u64 kids,.int .i64 wait,.int .i64 ep,.int .i64 0,.int .u64 0,.int .u64 ((withC 0 me:Nat) :Int),.bool false,.pointer (some ⟨dg,0,none⟩)]) (h:= ?_)
 (try simp only [zA,zB,zC,Act.put,zD,zE,zF])
 refine nO (i:=8) (by kernel_rfl) rfl (fun K hK=> ?_);go_simp;refine hK.out _ _ (fun _ _=>N3.out.below bE) ?_;clear hK K
 (try simp only [zA,zB,zC,Act.put,zD,zE,zF])
 refine nP 9 (Value.pointer (some ⟨w3.heap.size,0,none⟩)) (h:= ?_)
 (try simp only [zA,zB,zC,Act.put,zD,zE,zF])
 refine nO (i:=10) (by kernel_rfl) rfl (fun K hK=> ?_);go_simp;refine hK.out _ _ (fun _ _=>N3.out.below bE) ?_;clear hK K
 (try simp only [zA,zB,zC,Act.put,zD,zE,zF])
 refine nD (by kernel_rfl) ?_ _;refine NoPanic.normal ?_;clear N0 N2 D2 B2;go_wp2_with fail;have HZ:=LH B3.out.size
 have HX:Hid (SensAt (w3.alloc (.cells #[.int .i64 l,.int .i64 k,.int .i64 K,.int .i64 me,.int .u64 kids,.int .i64 wait,.int .i64 ep,.int .i64 0,.int .u64 0,.int .u64 ((withC 0 me:Nat) :Int),.bool false,.pointer (some ⟨dg,0,none⟩)] 116)) w3.heap.size K l ⟨l,k,K,⟨me,kids,wait⟩,ep,0,0,withC 0 me,false⟩ [] (footP w3.heap.size F)):=
  LH ⟨dg,F,rfl,heap_alloc_new w3 _,rfl,rfl,D3.out.below bE,fun h=>by have:=D3.out.lt _ h;omega⟩
 refine bR (v:=.tuple #[.pointer (some ⟨w3.heap.size,0,none⟩),.int .i64 0]) (by simp only [results,Tryz.results29];go_simp) rfl ⟨w3.heap.size,footP w3.heap.size F,rfl,HX.out,?_,?_⟩
 ·rintro b (rfl|hb)
  ·exact HZ.out
  ·exact Nat.le_trans N0s.out (HF.out b hb)
 ·have B3:=B3.out
  exact bE
theorem flatZC (C:List Int) :C.flatMap encZ.enc=C.map (fun x=>Value.int .i64 x):=by
 induction C with
 |nil=>rfl
 |cons x C ih=>rw [List.flatMap_cons,ih];rfl
theorem dense_Clone_nil (w:World) :Calls Tryz.prog 160 #[.pointer none] w fun e w'=>e=.returned (.pointer none)∧Below w.heap.size w w':=by
 go_enter Tryz.func160,Tryz.ntmps160
 go_wp2_with fail;go_ret;exact⟨rfl,bE⟩
theorem dense_Clone (w:World) (g l:Nat) (r:List Nd) (F:Nat→Prop) (h:DenseAt w g l r F) (h16:l≤16) :Calls Tryz.prog 160 #[.pointer (some ⟨g,0,none⟩)] w fun e w'=>
 ∃g' F',e=.returned (.pointer (some ⟨g',0,none⟩))∧DenseAt w' g' l r F'∧(∀b,F' b→w.heap.size≤b)∧Below w.heap.size w w':=by
 obtain⟨i,hi,hz0,hz1,hz2⟩:=info_parts infoZ;obtain⟨v,C,hh,ho,hl,hc,_⟩:=h;have q5:2^l≤65536:=by have:=Nat.pow_le_pow_right (n:=2) (by decide) h16;simpa using this
 have q6:=Nat.two_pow_pos l;obtain⟨b,off,cap,rfl,hcap⟩:=own_at0 ho (by omega);obtain⟨n,hn⟩ : ∃n,n=C.length:=⟨_,rfl⟩;have n1:n≤131072:=by omega
 have n0:0<n:=by omega
 rw [←hn] at ho hh;have HN:=LH hn;have HL:=LH hl;have HC:=LH hc;have HO:=LH ho;have H:=LH hh;have c:=bC hh;have z:=lB hh;clear hh ho hl hc q5 q6 hn hcap
 go_enter Tryz.func160,Tryz.ntmps160
 go_upto_region 4 with fail;go_wp2_with ((at_make;refine wpList_make_full _ rfl _ _ 104 rfl w.heap.size 3 i (.int .i64 0) 1 Tryz.underlying104 hi hz0 hz1 _ _ _ _ n rfl rfl ?hL ?hC ?b2 ?b3 ?b4 ?hK))
 case hL=>simp
 case hC=>simp
 case b2=>rw [hz2];omega
 case b3=>simp only [maxLen];omega
 case b4=>simp
 case hK=>
  intro w1 hr hg;have hmf:=made_flat encZ 0 #[.int .i64 0] n rfl (by decide);rw [Nat.mul_one] at hmf;rw [hmf] at hr;have b0:Below (w.heap.size+1) (w.alloc (.cells #[.int .i64 l,.int .i64 r.length,.int .i64 (sumR r),.slice (some ⟨b,off,none⟩) n cap] 223)) w1:=(Below.refl _ _).grown hg (by simp) (fun k hk=>by cases hk);have b1:Below w.heap.size w w1:=((Below.refl w.heap.size w).alloc (Nat.le_refl _) _).trans (b0.mono (Nat.le_succ _));have k1:=(b0.block w.heap.size (by omega)).trans (heap_alloc_new w _)
  obtain⟨cur,kc,hcs⟩ : ∃cur,w1.heap[w.heap.size+1]? =some (.cells cur 3 (0,0))∧cur.size=n:=by
   obtain⟨_,⟨_,h0⟩ | ⟨g',cap',cur,he,_,hc,_,_,hs,_⟩⟩:=hr
   ·omega
   ·simp only [Value.slice.injEq,Option.some.injEq,Addr.mk.injEq,true_and,and_true] at he
    obtain⟨rfl,rfl⟩:=he;exact⟨cur,hc,by omega⟩
  have kg:=LH ((b1.block g z).trans H.out);have ko:=LH ((HO.out.of_block fun q hq=>b1.block q (HO.out.lt q hq).2:Own w1 0 3 encZ _ C));have K1:=LH k1;have KC:=LH kc;have cs1:=LH hcs;have c1:=bC k1;have z1:=lB k1;have f1:=bF k1;have B1:=LH b1;clear b0 b1 hr hg hmf c k1 kc hcs;go_upto_region 5 with fail
  have hne:Value.ownBlock (.slice (some ⟨b,off,none⟩) n cap)≠some w.heap.size:=fun he=>by
   have:=(HO.out.lt _ he).2;omega
  have k2: (w1.setCell ⟨w.heap.size,3,none⟩ (.slice (some ⟨w.heap.size+1,0,none⟩) n n)).heap[w.heap.size]? =some (.cells #[.int .i64 l,.int .i64 r.length,.int .i64 (sumR r),.slice (some ⟨w.heap.size+1,0,none⟩) n n] 223 (0,0)):=zH (i:=3) K1.out _;have g2:=(Below.heap_setCell w1 ⟨w.heap.size,3,none⟩ (.slice (some ⟨w.heap.size+1,0,none⟩) n n) g (by simp;omega)).trans kg.out;have r2:=(Below.heap_setCell w1 ⟨w.heap.size,3,none⟩ (.slice (some ⟨w.heap.size+1,0,none⟩) n n) (w.heap.size+1) (by simp)).trans KC.out;have o2:=ko.out.setCell (p:=⟨w.heap.size,3,none⟩) hne (.slice (some ⟨w.heap.size+1,0,none⟩) n n);have b2:Below w.heap.size w (w1.setCell ⟨w.heap.size,3,none⟩ (.slice (some ⟨w.heap.size+1,0,none⟩) n n)):=B1.out.setCell (Nat.le_refl _) _;generalize w1.setCell ⟨w.heap.size,3,none⟩ (.slice (some ⟨w.heap.size+1,0,none⟩) n n) =W2 at k2 g2 r2 o2 b2⊢;clear K1 kg ko KC B1 c1 z1 f1;obtain⟨cs,hcs⟩ : ∃cs,cs=C.map (fun x=>Value.int .i64 x):=⟨_,rfl⟩;have el:cs.length=n:=by rw [hcs,List.length_map];exact HN.out.symm
  have e1: ∀u∈cs,u.oneCell'=true:=by
   intro u hu;rw [hcs] at hu;obtain⟨x,_,rfl⟩:=List.mem_map.1 hu
   rfl
  have src: ∀j u,cs[j]? =some u→W2.cell? ((⟨b,off,none⟩ :Addr).add j) =some u:=by
   intro j u hj;rcases o2 with ⟨h0,_⟩ | ⟨b',off',cap',cur',he,_,hb2,_,_,_,hx⟩
   ·cases h0
   ·simp only [Value.slice.injEq,Option.some.injEq,Addr.mk.injEq,and_true] at he
    obtain⟨⟨rfl,rfl⟩,_⟩:=he;rw [add_plain,bC hb2];refine hx j u ?_;rw [hcs,List.getElem?_map] at hj;rw [flatZC,List.getElem?_map];exact hj
  have c2:=bC k2;have z2:=lB k2;have f2:=bF k2;have c3:=bC g2;have HB:=LH b2;have hlt0:Hid (b<W2.heap.size):=LH (o2.lt b rfl).2;have HK:=LH k2;have G2:=LH g2;have HS:=LH src;have HE:=LH e1;have R2:=LH r2;have EL:=LH el;have CS:=LH cs1.out;have HCS:=LH hcs;clear b2 k2 src e1 r2 el g2 o2 hcs;refine wp_region_N (fun W=>Below W2.heap.size W2 W) [6] (by kernel_rfl) (Below.drew (Below.refl _ _)) (fun hHeld=> ?_);refine nP 0 (.pointer (some ⟨w.heap.size,3,none⟩)) (h:= ?_)
  (try simp only [Act.put,zD,zE,zF])
  refine nT 1 (.slice (some ⟨w.heap.size+1,0,none⟩) n n) (y:=Or.inl ⟨by rfl,fun W hW=>by have q1:=bC (bB HK.out hW);have q2:=bC (bB G2.out hW);go_simp⟩) (s:=hHeld) (h:= ?_)
  (try simp only [Act.put,zD,zE,zF])
  refine nP 2 (.pointer (some ⟨g,0,none⟩)) (h:= ?_)
  (try simp only [Act.put,zD,zE,zF])
  refine nP 3 (.pointer (some ⟨g,0,none⟩)) (h:= ?_)
  (try simp only [Act.put,zD,zE,zF])
  refine nP 4 (.pointer (some ⟨g,3,none⟩)) (h:= ?_)
  (try simp only [Act.put,zD,zE,zF])
  refine nT 5 (.slice (some ⟨b,off,none⟩) n cap) (y:=Or.inl ⟨by rfl,fun W hW=>by have q1:=bC (bB HK.out hW);have q2:=bC (bB G2.out hW);go_simp⟩) (s:=hHeld) (h:= ?_)
  (try simp only [Act.put,zD,zE,zF])
  have BW:=LH hHeld;clear hHeld;generalize W2.drew=W3 at BW⊢;have r3:=bB R2.out BW.out;have k3:=LH (bB HK.out BW.out);refine nO (i:=6) (by kernel_rfl) rfl (fun K hK=> ?_);go_simp;rw [run_copy_row (P:=Tryz.prog) W3 104 104 _ 3 (w.heap.size+1) 0 n n ⟨b,off,none⟩ n cap cur 3 cs Tryz.underlying104 (by kernel_rfl) r3 (by rw [EL.out];exact(Nat.min_self n).symm) (fun j u hj=>(BW.out.cell ?hlt).trans (HS.out j u hj)) (by rw [EL.out,CS.out];omega) HE.out]
  case hlt=>rw [add_plain];exact hlt0.out
  go_simp;refine hK.out _ _ (fun h=>absurd (by simp) h) ?_;refine nD (by kernel_rfl) ?_ _;have row:=LH (setRow_heap W3 (w.heap.size+1) _ (cs ++ List.drop cs.length cur.toList).toArray 3 _ r3);have k4:=LH ((setRow_other W3 (w.heap.size+1) w.heap.size (cs ++ List.drop cs.length cur.toList).toArray (by omega)).trans k3.out);have b4:=LH (below_setRow (HB.out.trans (BW.out.mono HB.out.size)) (Nat.le_succ _) (cs ++ List.drop cs.length cur.toList).toArray:Below w.heap.size w (W3.setRow (w.heap.size+1) _));generalize W3.setRow (w.heap.size+1) (cs ++ List.drop cs.length cur.toList).toArray=W4 at row k4 b4⊢;clear hK K r3 k3;go_wp2_with fail;go_ret;refine⟨w.heap.size,_,rfl,⟨_,C,k4.out,.inr ⟨w.heap.size+1,0,n,_,by rw [HN.out],Nat.zero_le _,row.out,Nat.le_of_eq HN.out.symm,by simp only [maxLen];omega,by simp [EL.out],fun j u hj=> ?_⟩,HL.out,HC.out,rfl⟩,?_,b4.out⟩
  ·rw [flatZC,←HCS.out] at hj
   have hlt:j<cs.length:=(List.getElem?_eq_some_iff.1 hj).1;simp only [Nat.zero_add,List.getElem?_toArray];rw [List.getElem?_append_left hlt];exact hj
  ·rintro q (rfl|hq)
   ·exact Nat.le_refl _
   ·cases hq;exact Nat.le_succ _
theorem clone_T (w:World) (A:Option Addr) (cap:Nat) (l:List Nd) (hS:Sl w w.heap.size encN A l) (hn:l.length≤17179869184) :
 Calls Tryz.prog 198 #[.slice A l.length cap] w (OwnPost 154 encN l w):=by
 rcases A with _|a
 ·have h0:l= []:=by
   rcases hS with h| ⟨b,off,hA,_⟩
   ·exact h
   ·cases hA
  subst h0
  go_enter Tryz.func198,Tryz.ntmps198
  go_wp2_with fail;go_ret;exact⟨_,rfl,Own.nil _ _ _ _,bE⟩
 ·have HS:=LH hS
  clear hS
  go_enter Tryz.func198,Tryz.ntmps198
  go_wp2_with ((at_builtin;refine wpList_app tyN rfl _ _ rfl encN w.heap.size (.slice (some ⟨w.heap.size,0,none⟩) 0 0) [] rfl ?ho (some a) cap l w.heap.size rfl ?hs ?c1 ?c2 ?c3 ?c4))
  case ho=>exact .inr ⟨w.heap.size,0,0, #[],rfl,Nat.le_refl _,heap_alloc_new w _,Nat.le_refl _,by simp,by simp,fun j u hj=>by simp at hj⟩
  case hs=>exact HS.out.keep (Nat.le_refl _) fun p hp=>((Below.refl w.heap.size w).alloc (Nat.le_refl _) _).cell hp
  case c1=>simp;omega
  case c2=>simp [maxLen];omega
  case c3=>simp
  case c4=>
   intro v' w1 ho1 _ _ hb1 _;have B1:Below w.heap.size w w1:=((Below.refl w.heap.size w).alloc (Nat.le_refl _) _).trans hb1;have HO1:=LH (show Own w1 w.heap.size 154 encN v' l by simpa using ho1);clear ho1;go_wp2_with fail;go_ret;exact⟨_,rfl,HO1.out,B1⟩
theorem probe_Clone_nil (w:World) :Calls Tryz.prog 161 #[.pointer none] w fun e w'=>e=.returned (.pointer none)∧Below w.heap.size w w':=by
 go_enter Tryz.func161,Tryz.ntmps161
 go_wp2_with fail;go_ret;exact⟨rfl,bE⟩
theorem PInv.length {b:Nat} {S m:List Nd} (h:PInv b S m) :S.length=2^b:=h.len
theorem probe_Clone (w:World) (g l:Nat) (r:List Nd) (F:Nat→Prop) (h:ProbeAt w g l r F) :Calls Tryz.prog 161 #[.pointer (some ⟨g,0,none⟩)] w fun e w'=>
 ∃g' F',e=.returned (.pointer (some ⟨g',0,none⟩))∧ProbeAt w' g' l r F'∧(∀b,F' b→w.heap.size≤b)∧Below w.heap.size w w':=by
 obtain⟨v,S,b,hh,ho,hI,h3,h34,h2,_⟩:=h
 have hlen:S.length≤17179869184:=by
  have:=PInv.length hI;have h5:=Nat.pow_le_pow_right (n:=2) (by decide) h34;have h6: (2:Nat) ^34=17179869184:=by decide
  omega
 obtain⟨A,cap,rfl,hc1,hc2,hS⟩:=ho.rd;have HC:=LH (fun (W:World) (a:Sl W W.heap.size encN A S)=>clone_T W A cap S a hlen);have HS:=LH hS;have HI:=LH hI;have H2:=LH h2;have c:=bC hh;have z:=lB hh;clear hh ho hS hI h2 hc1 hc2 hlen
 go_enter Tryz.func161,Tryz.ntmps161
 go_wp2_with fail;refine(HC.out _ ?hs).mono ?_
 case hs=>exact HS.out.keep (by simp) fun p hp=>((Below.refl w.heap.size w).alloc (Nat.le_refl _) _).cell hp
 rintro e w1 ⟨v',rfl,ho1,hb1⟩;obtain⟨A',cap',rfl,hf1,hf2,_⟩:=ho1.form;have k1:=bB (heap_alloc_new w _) hb1;have c1:=bC k1;have z1:=lB k1;have f1:=bF k1;have B1:=LH (((Below.refl w.heap.size w).alloc (Nat.le_refl _) (.cells #[.int .i64 l,.int .i64 b,.int .i64 r.length,.int .i64 (sumR r),.slice A S.length cap] 225)).trans (hb1.mono (by simp)));have K1:=LH k1;have O1:=LH ho1;clear c k1 ho1 hb1;go_wp2_with fail;go_ret
 have hne:Value.ownBlock (.slice A' S.length cap')≠some w.heap.size:=fun he=>by
  have:=(O1.out.lt _ he).1;simp at this
  omega
 refine⟨w.heap.size,_,rfl,⟨_,S,b,zH (i:=4) K1.out _,(O1.out.setCell (p:=⟨w.heap.size,4,none⟩) hne _).base_le (Nat.zero_le _),HI.out,h3,h34,H2.out,rfl⟩,?_,B1.out.setCell (Nat.le_refl _) _⟩;rintro q (rfl|hq)
 ·exact Nat.le_refl _
 ·have:=(O1.out.lt _ hq).1
  simp at this
  omega
theorem pool_Clone (w:World) (g K l:Nat) (r:List Nd) (F:Nat→Prop) (h:PoolAt w g K l r F) :Calls Tryz.prog 120 #[.pointer (some ⟨g,0,none⟩)] w fun e w'=>
 ∃g' F',e=.returned (.pointer (some ⟨g',0,none⟩))∧PoolAt w' g' K l r F'∧(∀b,F' b→w.heap.size≤b)∧Below w.heap.size w w':=by
 obtain⟨h1,h2,hf,p,F0,_,h4⟩:=h;have HF:=LH hf;rcases h4 with ⟨rfl,h16,hh,hd⟩ | ⟨rfl,hh,hd⟩
 ·skip
  have H:=LH hh;have Z:=LH (lB hh);have HD:=LH hd;clear hh hd hf
  go_enter Tryz.func120,Tryz.ntmps120
  go_upto_region 3 with fail;refine wp_region_N (fun W=>Below w.heap.size w W) [] (by kernel_rfl) (Below.drew (Below.refl _ _)) (fun hHeld=> ?_);refine nP 0 (.pointer (some ⟨g,0,none⟩)) (h:= ?_)
  (try simp only [Act.put,zD,zE,zF])
  refine nP 1 (.pointer (some ⟨g,0,none⟩)) (h:= ?_)
  (try simp only [Act.put,zD,zE,zF])
  refine nP 2 (.pointer (some ⟨g,0,none⟩)) (h:= ?_)
  (try simp only [Act.put,zD,zE,zF])
  refine nT 3 (.pointer (some ⟨p,0,none⟩)) (y:=Or.inl ⟨by rfl,fun W hW=>by have q1:=bC ((hW.block g Z.out).trans H.out);go_simp⟩) (s:=hHeld) (h:= ?_)
  (try simp only [Act.put,zD,zE,zF])
  refine nP 5 (.pointer (some ⟨g,0,none⟩)) (h:= ?_)
  (try simp only [Act.put,zD,zE,zF])
  refine nP 6 (.pointer (some ⟨g,0,none⟩)) (h:= ?_)
  (try simp only [Act.put,zD,zE,zF])
  refine nP 7 (.pointer (some ⟨g,1,none⟩)) (h:= ?_)
  (try simp only [Act.put,zD,zE,zF])
  refine nT 8 (.pointer none) (y:=Or.inl ⟨by rfl,fun W hW=>by have q1:=bC ((hW.block g Z.out).trans H.out);go_simp⟩) (s:=hHeld) (h:= ?_)
  (try simp only [Act.put,zD,zE,zF])
  have B0:=hHeld;clear hHeld;generalize w.drew=V0 at B0⊢;refine nO (i:=4) (by kernel_rfl) rfl (fun K' hK=> ?_);go_simp;refine(dense_Clone _ p l r F0 (HD.out.keep fun q hq=>B0.block q (HD.out.lt q hq)) h16).mono ?_;rintro e V1 ⟨p',F1,rfl,hd1,hF1,hb⟩;have B1:=B0.trans (hb.mono B0.size);refine hK.out _ _ (fun _ _=>B1) ?_;clear hK K'
  (try simp only [Act.put,zD,zE,zF])
  refine nO (i:=9) (by kernel_rfl) rfl (fun K' hK=> ?_);go_simp;refine(probe_Clone_nil _).mono ?_;rintro e V2 ⟨rfl,hb2⟩;have hd2:=LH (hd1.below hb2);have hF2:=LH (fun q hq=>Nat.le_trans B0.size (hF1 q hq));clear hd1 hF1;have B2:=B1.trans (hb2.mono B1.size);refine hK.out _ _ (fun _ _=>B2) ?_;clear hK K'
  (try simp only [Act.put,zD,zE,zF])
  refine nP 10 (.agg #[.pointer (some ⟨p',0,none⟩),.pointer none]) (h:= ?_)
  (try simp only [Act.put,zD,zE,zF])
  refine nO (i:=11) (by kernel_rfl) rfl (fun K' hK=> ?_);go_simp;have B3:=B2.alloc B2.size (.cells #[.pointer (some ⟨p',0,none⟩),.pointer none] 186);refine hK.out _ _ (fun _ _=>B3) ?_;clear hK K'
  (try simp only [Act.put,zD,zE,zF])
  refine nO (i:=12) (by kernel_rfl) rfl (fun K' hK=> ?_);go_simp;refine hK.out _ _ (fun _ _=>B3) ?_;clear hK K'
  (try simp only [Act.put,zD,zE,zF])
  refine nD (by kernel_rfl) ?_ _;clear hb hb2 B0 B1;have HB2:=LH B2;have HB3:=LH B3;clear B2 B3;go_wp2_with fail;go_ret;refine⟨V2.heap.size,footP V2.heap.size F1,rfl,⟨h1,h2,HF.out,p',F1,rfl,.inl ⟨rfl,h16,heap_alloc_new V2 _,hd2.out.below ((Below.refl _ _).alloc (Nat.le_refl _) _)⟩⟩,?_,HB3.out⟩;rintro q (rfl|hq)
  ·exact HB2.out.size
  ·exact hF2.out q hq
 ·skip
  have H:=LH hh;have Z:=LH (lB hh);have HD:=LH hd;clear hh hd hf
  go_enter Tryz.func120,Tryz.ntmps120
  go_upto_region 3 with fail;refine wp_region_N (fun W=>Below w.heap.size w W) [] (by kernel_rfl) (Below.drew (Below.refl _ _)) (fun hHeld=> ?_);refine nP 0 (.pointer (some ⟨g,0,none⟩)) (h:= ?_)
  (try simp only [Act.put,zD,zE,zF])
  refine nP 1 (.pointer (some ⟨g,0,none⟩)) (h:= ?_)
  (try simp only [Act.put,zD,zE,zF])
  refine nP 2 (.pointer (some ⟨g,0,none⟩)) (h:= ?_)
  (try simp only [Act.put,zD,zE,zF])
  refine nT 3 (.pointer none) (y:=Or.inl ⟨by rfl,fun W hW=>by have q1:=bC ((hW.block g Z.out).trans H.out);go_simp⟩) (s:=hHeld) (h:= ?_)
  (try simp only [Act.put,zD,zE,zF])
  refine nP 5 (.pointer (some ⟨g,0,none⟩)) (h:= ?_)
  (try simp only [Act.put,zD,zE,zF])
  refine nP 6 (.pointer (some ⟨g,0,none⟩)) (h:= ?_)
  (try simp only [Act.put,zD,zE,zF])
  refine nP 7 (.pointer (some ⟨g,1,none⟩)) (h:= ?_)
  (try simp only [Act.put,zD,zE,zF])
  refine nT 8 (.pointer (some ⟨p,0,none⟩)) (y:=Or.inl ⟨by rfl,fun W hW=>by have q1:=bC ((hW.block g Z.out).trans H.out);go_simp⟩) (s:=hHeld) (h:= ?_)
  (try simp only [Act.put,zD,zE,zF])
  have B0:=hHeld;clear hHeld;generalize w.drew=V0 at B0⊢;refine nO (i:=4) (by kernel_rfl) rfl (fun K' hK=> ?_);go_simp;refine(dense_Clone_nil _).mono ?_;rintro e V1 ⟨rfl,hb⟩;have B1:=B0.trans (hb.mono B0.size);refine hK.out _ _ (fun _ _=>B1) ?_;clear hK K'
  (try simp only [Act.put,zD,zE,zF])
  refine nO (i:=9) (by kernel_rfl) rfl (fun K' hK=> ?_);go_simp;refine(probe_Clone _ p l r F0 (HD.out.keep fun q hq=>B1.block q (HD.out.lt q hq))).mono ?_;rintro e V2 ⟨p',F1,rfl,hd1,hF1,hb2⟩;have hd2:=LH hd1;have hF2:=LH (fun q hq=>Nat.le_trans B1.size (hF1 q hq));clear hd1 hF1;have B2:=B1.trans (hb2.mono B1.size);refine hK.out _ _ (fun _ _=>B2) ?_;clear hK K'
  (try simp only [Act.put,zD,zE,zF])
  refine nP 10 (.agg #[.pointer none,.pointer (some ⟨p',0,none⟩)]) (h:= ?_)
  (try simp only [Act.put,zD,zE,zF])
  refine nO (i:=11) (by kernel_rfl) rfl (fun K' hK=> ?_);go_simp;have B3:=B2.alloc B2.size (.cells #[.pointer none,.pointer (some ⟨p',0,none⟩)] 186);refine hK.out _ _ (fun _ _=>B3) ?_;clear hK K'
  (try simp only [Act.put,zD,zE,zF])
  refine nO (i:=12) (by kernel_rfl) rfl (fun K' hK=> ?_);go_simp;refine hK.out _ _ (fun _ _=>B3) ?_;clear hK K'
  (try simp only [Act.put,zD,zE,zF])
  refine nD (by kernel_rfl) ?_ _;clear hb hb2 B0 B1;have HB2:=LH B2;have HB3:=LH B3;clear B2 B3;go_wp2_with fail;go_ret;refine⟨V2.heap.size,footP V2.heap.size F1,rfl,⟨h1,h2,HF.out,p',F1,rfl,.inr ⟨rfl,heap_alloc_new V2 _,hd2.out.below ((Below.refl _ _).alloc (Nat.le_refl _) _)⟩⟩,?_,HB3.out⟩;rintro q (rfl|hq)
  ·exact HB2.out.size
  ·exact hF2.out q hq
theorem digest_Clone (w:World) (g K l:Nat) (k:Int) (r:List Nd) (F:Nat→Prop) (h:DigAt w g K l k r F) :Calls Tryz.prog 73 #[.pointer (some ⟨g,0,none⟩)] w fun e w'=>
 ∃g' F',e=.returned (.pointer (some ⟨g',0,none⟩))∧DigAt w' g' K l k r F'∧(∀b,F' b→w.heap.size≤b)∧Below w.heap.size w w':=by
 obtain⟨hk1,hk2,p,F0,_,hh,hd⟩:=h;have H:=LH hh;have Z:=LH (lB hh);have HD:=LH hd;clear hh hd
 go_enter Tryz.func73,Tryz.ntmps73
 go_upto_region 3 with fail;refine wp_region_N (fun W=>Below w.heap.size w W) [] (by kernel_rfl) (Below.drew (Below.refl _ _)) (fun hHeld=> ?_);refine nP 0 (.pointer (some ⟨g,0,none⟩)) (h:= ?_)
 (try simp only [Act.put,zD,zE,zF])
 refine nP 1 (.pointer (some ⟨g,0,none⟩)) (h:= ?_)
 (try simp only [Act.put,zD,zE,zF])
 refine nP 2 (.pointer (some ⟨g,0,none⟩)) (h:= ?_)
 (try simp only [Act.put,zD,zE,zF])
 refine nT 3 (.agg #[.int .i64 k]) (y:=Or.inl ⟨by rfl,fun W hW=>by have q1:=bC ((hW.block g Z.out).trans H.out);go_simp⟩) (s:=hHeld) (h:= ?_)
 (try simp only [Act.put,zD,zE,zF])
 refine nP 4 (.pointer (some ⟨g,0,none⟩)) (h:= ?_)
 (try simp only [Act.put,zD,zE,zF])
 refine nP 5 (.pointer (some ⟨g,0,none⟩)) (h:= ?_)
 (try simp only [Act.put,zD,zE,zF])
 refine nP 6 (.pointer (some ⟨g,1,none⟩)) (h:= ?_)
 (try simp only [Act.put,zD,zE,zF])
 refine nP 7 (.pointer (some ⟨g,1,none⟩)) (h:= ?_)
 (try simp only [Act.put,zD,zE,zF])
 refine nT 8 (.pointer (some ⟨p,0,none⟩)) (y:=Or.inl ⟨by rfl,fun W hW=>by have q1:=bC ((hW.block g Z.out).trans H.out);go_simp⟩) (s:=hHeld) (h:= ?_)
 (try simp only [Act.put,zD,zE,zF])
 have B0:=hHeld;clear hHeld;generalize w.drew=V0 at B0⊢;refine nO (i:=9) (by kernel_rfl) rfl (fun K' hK=> ?_);go_simp;refine(pool_Clone _ p K l r F0 (HD.out.keep fun q hq=>B0.block q (HD.out.lt q hq))).mono ?_;rintro e V1 ⟨p',F1,rfl,hd1,hF1,hb⟩;have B1:=B0.trans (hb.mono B0.size);have hd2:=LH hd1;have hF2:=LH (fun q hq=>Nat.le_trans B0.size (hF1 q hq));clear hd1 hF1;refine hK.out _ _ (fun _ _=>B1) ?_;clear hK K'
 (try simp only [Act.put,zD,zE,zF])
 refine nP 10 (.agg #[.pointer (some ⟨p',0,none⟩)]) (h:= ?_)
 (try simp only [Act.put,zD,zE,zF])
 refine nP 11 (.agg #[.int .i64 k,.pointer (some ⟨p',0,none⟩)]) (h:= ?_)
 (try simp only [Act.put,zD,zE,zF])
 refine nO (i:=12) (by kernel_rfl) rfl (fun K' hK=> ?_);go_simp;have B3:=B1.alloc B1.size (.cells #[.int .i64 k,.pointer (some ⟨p',0,none⟩)] 140);refine hK.out _ _ (fun _ _=>B3) ?_;clear hK K'
 (try simp only [Act.put,zD,zE,zF])
 refine nO (i:=13) (by kernel_rfl) rfl (fun K' hK=> ?_);go_simp;refine hK.out _ _ (fun _ _=>B3) ?_;clear hK K'
 (try simp only [Act.put,zD,zE,zF])
 refine nD (by kernel_rfl) ?_ _;have HB2:=LH B1;have HB3:=LH B3;clear hb B0 B1 B3;go_wp2_with fail;go_ret;refine⟨V1.heap.size,footP V1.heap.size F1,rfl,⟨hk1,hk2,p',F1,rfl,heap_alloc_new V1 _,hd2.out.below ((Below.refl _ _).alloc (Nat.le_refl _) _)⟩,?_,HB3.out⟩;rintro q (rfl|hq)
 ·exact HB2.out.size
 ·exact hF2.out q hq
end Go.Proofs.YtandlhihcnadmaaGreat
