/-
  Texts of this proof, one behind the other: Seal2, Crew, Letter, Dense2, ProbeLaw, Probe, Probe2, Sorted, Probe3, Pool, Pool2, Each, Light, Tail.
-/
import Derived.Laws.BitsLemmas
import Derived.OwnWalk
import Derived.BigRegion
import Derived.WalkSpells
import Derived.Deep.RegionHeld3
import Derived.Deep.RegionLaw
import Derived.Deep.DrawnRows
import Derived.RangeFuncNested
import Derived.RangeFuncBound
import Derived.RangeFuncCalls
import Derived.RangeFuncLeaves
import Derived.RangeFuncWrites
import Derived.Shelf.Abstract
import Derived.Shelf.RegionOpen
import Derived.OwnWalkIn
import Derived.TacticsInMore
import Derived.LoopNIn
import Derived.LoopIn
import Derived.StillTail
import Derived.Test.YtlgnakobjkhmhaaGreatDoorR1
set_option linter.unusedVariables false
set_option linter.unusedSimpArgs false
set_option maxRecDepth 100000
set_option maxHeartbeats 16000000
namespace Go.Proofs.YtlgnakobjkhmhaaGreatDoor
open Go.ChangeShapes Go.WideShapes Go.ChangeAt Go.RowKit
def encT:Enc (List UInt8) 1:=⟨fun l=> [.string ⟨l.toArray⟩],fun _=>rfl,by intro x u hu;simp at hu;subst hu;rfl⟩
theorem flat_take {L:List (List UInt8)} {q:Nat} (h:q<L.length) : (L.take (q+1)).flatten= (L.take q).flatten ++ L[q]:=by
 rw [List.take_succ_eq_append_getElem h,List.flatten_append];simp
theorem seal_Of (w:World) (base:Nat) (v:Value) (L:List (List UInt8)) (ho:Own w base 9 encT v L) (hl: ∀l∈L,l.length≤1000000000000) (hn:L.length≤1000000) :
 Calls Tryz.prog 210 #[v] w fun e w'=>e=.returned (sumV (sumT (1,0) L.flatten))∧Below w.heap.size w w':=by
 obtain⟨A,c,rfl,_⟩:=ho.form;have HO:=LH (ho.base_le (Nat.zero_le _));have HLn:=LH hl;have HY0:=LH (SealAt.new w 0 0);have HB0:Hid (Below w.heap.size w (w.alloc (.cells #[.int .i64 (0:Nat),.int .i64 (0:Nat)] 274))):=LH bE;have HMo:=LH (fun W s l=>seal_More W s l);unfold sumV at HMo⊢;clear ho hl;generalize hG:sumT (1,0) L.flatten=G;have HG:=LH hG;clear hG
 go_enter Tryz.func210,Tryz.ntmps210
 go_wp2_with fail;refine(seal_Begin _).mono ?_;unfold sumV;rintro e w1 ⟨rfl,hb1⟩;have s1:=hb1.size;rw [size_alloc1] at s1;have HY1:=LH (HY0.out.below hb1);have HB1:=LH (HB0.out.trans (hb1.mono (by simp)));clear hb1;go_wp2_with fail
 go_loopw [9] (fun j wr=>∃q:Nat,j=.int .i64 q∧q≤L.length∧SealAt wr w1.heap.size (sumT (1,0) (L.take q).flatten).1 (sumT (1,0) (L.take q).flatten).2∧SealAt wr w.heap.size 0 0∧Below w.heap.size w wr) (fun j _=>L.length - (intOf j).toNat)
 case atStart=>
  refine⟨0,rfl,Nat.zero_le _,SealAt.new w1 1 0,HY1.out.alloc _,HB1.out.alloc (by omega) _⟩
 case round=>
  obtain⟨q,rfl,hq,hx,hy,hB⟩:=hrel;have HX:=LH hx;have HY:=LH hy;have HB:=LH hB;have HR:=LH (HO.out.below hB);have sz:=hB.size;have cc:=bC hx;have cf:=bF hx;have zb:=lB hx;clear hx hy hB;by_cases hlt:q<L.length
  ·have hqi: (q:Int) < (L.length:Int):=by omega
   obtain⟨b,off,rfl,hb,hc⟩:=HR.out.sl.at_ hlt;have d0:=hc 0 (.string ⟨(L[q]).toArray⟩) rfl;simp only [Nat.mul_one,Nat.add_zero] at d0;have HF:=LH (flat_take hlt);have HL:=LH (HLn.out _ (List.getElem_mem hlt));have HA:=LH (sumT_app (1,0) (L.take q).flatten L[q]);have HS:=LH (sumT_lt (s:=(1,0)) (by decide) (L.take q).flatten);generalize L[q] =l at d0 HF HL HA;rw [←HF.out] at HA;generalize sumT (1,0) (L.take q).flatten=S at HX HS HA cc;clear hc;go_wp2_with fail;refine(HMo.out _ S l HS.out HL.out).mono ?_;rintro e w2 ⟨rfl,hb2⟩;have HX2:=LH (HX.out.below hb2);have HY2:=LH (HY.out.below hb2);have HB2:=LH (HB.out.trans (hb2.mono sz));have cc2:=bC HX2.out;have cf2:=bF HX2.out;have zb2:=lB HX2.out;rw [←HA.out];clear hb2 cc cf zb HF;generalize hT:sumT (1,0) (L.take (q+1)).flatten=T;have HT:=LH hT;clear hT HA;have HX3:=LH ((HX2.out.put0 T.1).put1 T.2);have HY3:=LH ((HY2.out.set (q:=w1.heap.size) (o:=0) (by omega) (.int .i64 T.1)).set (q:=w1.heap.size) (o:=1) (by omega) (.int .i64 T.2));have HB3:=LH (Below.setCell (p:=⟨w1.heap.size,1,none⟩) (Below.setCell (p:=⟨w1.heap.size,0,none⟩) HB2.out (by simp;omega) (.int .i64 T.1)) (by simp;omega) (.int .i64 T.2));go_wp2_with fail;go_roundw
   case rel=>exact⟨q+1,by go_num,by omega,by rw [HT.out];exact HX3.out,HY3.out,HB3.out⟩
   case measure=>simp [intOf];omega
  ·obtain rfl:q=L.length:=by omega
   rw [List.take_length,HG.out] at HX cc;have hqi:decide ((L.length:Int) < (L.length:Int)) =false:=by simp
   have cd:=bC HY.out;have cg:=bF HY.out;have zc:=lB HY.out;have HYe:=LH ((HY.out.put0 G.1).put1 G.2);have HBe:=LH (Below.setCell (p:=⟨w.heap.size,1,none⟩) (Below.setCell (p:=⟨w.heap.size,0,none⟩) HB.out (by simp) (.int .i64 G.1)) (by simp) (.int .i64 G.2));go_wp2_with fail;generalize ((wr.setCell ⟨w.heap.size,0,none⟩ (.int .i64 G.1)).setCell ⟨w.heap.size,1,none⟩ (.int .i64 G.2)) =W4 at HYe HBe⊢;have ce:=bC HYe.out;have cfe:=bF HYe.out;have ze:=lB HYe.out;exact bR (v:=.agg #[.int .i64 G.1,.int .i64 G.2]) (by simp only [results,Tryz.results210];go_simp) rfl ⟨rfl,HBe.out⟩
def sealT (l:List UInt8) :List UInt8:=l ++ bytesL (sumT (1,0) l)
theorem sealT_len (l:List UInt8) : (sealT l).length=l.length+4:=by simp [sealT,bytesL]
theorem seal_Seal (w:World) (l:List UInt8) (hl:l.length≤8000000) :Calls Tryz.prog 159 #[.string ⟨l.toArray⟩] w fun e w'=>e=.returned (.string ⟨(sealT l).toArray⟩)∧Below w.heap.size w w':=by
 unfold sealT;have HO:Hid (Own (w.alloc (.cells #[.string ⟨l.toArray⟩] 9)) w.heap.size 9 encT (.slice (some ⟨w.heap.size,0,none⟩) 1 1) [l]):=LH (Own.lit w encT [l] 9 (Nat.le_refl _) (by simp [maxLen]));have HF:=LH (seal_Of _ _ _ _ HO.out (by simp;omega) (by simp));have HB0:Hid (Below w.heap.size w (w.alloc (.cells #[.string ⟨l.toArray⟩] 9))):=LH bE;have hfl: [l].flatten=l:=by simp
 rw [hfl] at HF;have HS:=LH (sumT_lt (s:=(1,0)) (by decide) l);generalize sumT (1,0) l=S at HF HS⊢;clear hfl HO
 go_enter Tryz.func159,Tryz.ntmps159
 go_wp2_with fail;refine HF.out.mono ?_;rintro e w1 ⟨rfl,hb1⟩;have HB1:=LH (HB0.out.trans (hb1.mono (by simp)));clear hb1;go_wp2_with fail;refine(seal_Bytes _ S HS.out).mono ?_;rintro e w2 ⟨rfl,hb2⟩;have HB2:=LH (HB1.out.trans (hb2.mono HB1.out.size));clear hb2;have hcat:=fun W=>run_string_add_lists (P:=Tryz.prog) W l (bytesL S) (by omega) (by simp [bytesL]);go_wp2_with fail;exact bR (v:=.string ⟨(l ++ bytesL S).toArray⟩) (by simp only [results,Tryz.results159];go_simp) rfl ⟨rfl,HB2.out⟩
def isCrew (i:Int) :Bool:=decide (0≤i∧i<48)
theorem isCrew_nat {i:Int} (h:isCrew i=true) : ∃n:Nat,i=n∧n<48:=by
 simp only [isCrew,decide_eq_true_eq] at h;obtain⟨n,rfl⟩:=Int.eq_ofNat_of_zero_le h.1;exact⟨n,rfl,by omega⟩
def hasN (s i:Nat) :Bool:=decide (s / 2^i % 2=1)
def hasC (s:Nat) (i:Int) :Bool:=isCrew i && hasN s i.toNat
def withC (s:Nat) (i:Int) :Nat:=if isCrew i=true then (if hasN s i.toNat=true then s else s+2^i.toNat) else s
def rightC (s:Nat) :Bool:=decide (s≤281474976710655)
theorem wrap_u64s {n:Int} (h0:0≤n) (h1:n<2^64) :IntKind.u64.wrap n=n:=by rw [IntKind.wrap_u64];omega
theorem pow_crew {i:Nat} (hi:i<48) :2^i≤140737488355328∧1≤2^i:=by
 have h1:2^i≤2^47:=Nat.pow_le_pow_right (by decide) (by omega);have h2:=Nat.two_pow_pos i;omega
theorem and_one (s i:Nat) (hs:s<2^64) : (bits BinOp.and IntKind.u64 ((s:Int) / 2^i) 1 == 1) =hasN s i:=by
 have e: ((s:Int) / 2^i) = ((s / 2^i:Nat) :Int):=by rw [Int.natCast_ediv];norm_cast
 have hl:s / 2^i<2^64:=Nat.lt_of_le_of_lt (Nat.div_le_self _ _) hs;have h:=(bits_nat .u64 64 (by decide) (fun n h0 h1=>wrap_u64s h0 h1) (s / 2^i) 1 hl (by decide)).1;rw [e];rw [show ((1:Int)) = ((1:Nat) :Int) from rfl,h,Nat.and_one_is_mod];unfold hasN;by_cases hc:s / 2^i % 2=1
 ·simp [hc]
 ·have:s / 2^i % 2=0:=by omega
  simp [this]
theorem or_two_pow_add {s i:Nat} (h:s.testBit i=false) :2^i+s=s ||| 2^i:=by
 apply Nat.eq_of_testBit_eq
 intro j;rw [Nat.testBit_or,Nat.testBit_two_pow];rcases Nat.lt_trichotomy j i with hj|rfl|hj
 ·rw [Nat.testBit_two_pow_add_gt hj];simp;omega
 ·rw [Nat.testBit_two_pow_add_eq,h];simp
 ·have e:2^i+s=2^i* (1+s / 2^i) +s % 2^i:=by
   rw [Nat.mul_add,Nat.mul_one];have:=Nat.div_add_mod s (2^i);omega
  have hd:s / 2^i % 2=0:=by
   rw [Nat.testBit_eq_decide_div_mod_eq] at h;simp at h
   omega
  have h1: (2^i+s).testBit j=s.testBit j:=by
   rw [Nat.testBit_eq_decide_div_mod_eq,Nat.testBit_eq_decide_div_mod_eq]
   congr 2
   obtain⟨k,rfl⟩ : ∃k,j=i+1+k:=⟨j - (i+1),by omega⟩
   have key: (2^i+s) / 2^ (i+1) =s / 2^ (i+1):=by
    rw [Nat.pow_succ,←Nat.div_div_eq_div_mul,←Nat.div_div_eq_div_mul,Nat.add_comm,Nat.add_div_right _ (Nat.two_pow_pos i)];omega
   rw [Nat.pow_add,←Nat.div_div_eq_div_mul,←Nat.div_div_eq_div_mul,key]
  rw [h1];have: ¬i=j:=by omega
  simp [this]
theorem or_pow (s i:Nat) (hs:s<2^64) (hi:i<48) :bits BinOp.or IntKind.u64 (s:Int) ((2^i:Nat) :Int) = ((if hasN s i=true then s else s+2^i:Nat) :Int):=by
 have hp:=pow_crew hi;rw [(bits_nat .u64 64 (by decide) (fun n h0 h1=>wrap_u64s h0 h1) s (2^i) hs (by omega)).2]
 congr 1
 have ht:hasN s i=s.testBit i:=by
  unfold hasN;rw [Nat.testBit_eq_decide_div_mod_eq]
 rw [ht]
 apply Nat.eq_of_testBit_eq
 intro j;rw [Nat.testBit_or,Nat.testBit_two_pow];by_cases hb:s.testBit i=true
 ·rw [if_pos hb]
  by_cases hij:i=j
  ·subst hij;simp [hb]
  ·simp [hij]
 ·rw [if_neg hb]
  have hb':s.testBit i=false:=by simpa using hb
  rw [Nat.add_comm,or_two_pow_add hb',Nat.testBit_or,Nat.testBit_two_pow]
theorem crew_is (i:Int) (w:World) :Calls Tryz.prog 205 #[.int .i64 i] w fun e w'=>e=.returned (.bool (isCrew i))∧Below w.heap.size w w':=by
 unfold isCrew;by_cases h:0≤i
 ·have h1:decide (0≤i) =true:=by simpa using h
  go_enter Tryz.func205,Tryz.ntmps205
  go_wp2_with fail;go_ret;exact⟨by simp [h],Below.refl _ _⟩
 ·have h1:decide (0≤i) =false:=by simpa using h
  go_enter Tryz.func205,Tryz.ntmps205
  go_wp2_with fail;go_ret;exact⟨by simp [h],Below.refl _ _⟩
theorem crew_one (i:Int) (w:World) :Calls Tryz.prog 155 #[.int .i64 i] w fun e w'=>e=.returned (.int .u64 ((if isCrew i=true then 2^i.toNat else 0:Nat) :Int))∧Below w.heap.size w w':=by
 have HC:=LH (fun W=>crew_is i W)
 cases hc:isCrew i
 ·rw [hc] at HC
  clear hc
  go_enter Tryz.func155,Tryz.ntmps155
  go_wp2_with fail;refine(HC.out w).mono ?_;rintro e w1 ⟨rfl,hb1⟩;go_wp2_with fail;go_ret;exact⟨rfl,hb1⟩
 ·rw [hc] at HC
  obtain⟨n,rfl,hn⟩:=isCrew_nat hc;clear hc
  have hw:Hid (IntKind.u64.wrap (2^n) = ((2^n:Nat) :Int)):=LH (by
   have hp:=pow_crew hn;have e: (2:Int) ^n= ((2^n:Nat) :Int):=by norm_cast
   rw [e,wrap_u64s (by omega) (by omega)])
  go_enter Tryz.func155,Tryz.ntmps155
  go_wp2_with fail;refine(HC.out w).mono ?_;rintro e w1 ⟨rfl,hb1⟩;go_wp2_with fail;go_ret;refine⟨?_,hb1⟩;simp only [Array.getD_eq_getD_getElem?,Int.toNat_natCast];simp [hw.out]
theorem crew_With (s:Nat) (i:Int) (hs:s<2^64) (w:World) :Calls Tryz.prog 106 #[.int .u64 s,.int .i64 i] w fun e w'=>e=.returned (.int .u64 (withC s i))∧Below w.heap.size w w':=by
 have HC:=LH (fun W=>crew_one i W);unfold withC
 cases hc:isCrew i
 ·rw [hc] at HC
  clear hc;simp only [Bool.false_eq_true,if_false] at HC⊢
  have h0:Hid (bits BinOp.or IntKind.u64 (s:Int) 0= (s:Int)):=LH (by
   have:=(bits_nat .u64 64 (by decide) (fun n h0 h1=>wrap_u64s h0 h1) s 0 hs (by decide)).2
   simpa using this)
  go_enter Tryz.func106,Tryz.ntmps106
  go_wp2_with fail;refine(HC.out w).mono ?_;rintro e w1 ⟨rfl,hb1⟩;go_wp2_with fail;go_ret;refine⟨?_,hb1⟩;simp [h0.out]
 ·rw [hc] at HC
  obtain⟨n,rfl,hn⟩:=isCrew_nat hc;clear hc;simp only [if_true,Int.toNat_natCast] at HC⊢;have h0:=LH (or_pow s n hs hn);obtain⟨p,hp⟩ : ∃p,p=2^n:=⟨_,rfl⟩;rw [←hp] at HC h0⊢;clear hp;generalize (if hasN s n=true then s else s+p) =sp at h0⊢
  go_enter Tryz.func106,Tryz.ntmps106
  go_wp2_with fail;refine(HC.out w).mono ?_;rintro e w1 ⟨rfl,hb1⟩;go_wp2_with fail;go_ret;refine⟨?_,hb1⟩;have h2:=h0.out;simp only [Array.getD_eq_getD_getElem?];simp [h2]
theorem crew_Has (s:Nat) (i:Int) (hs:s<2^64) (w:World) :Calls Tryz.prog 154 #[.int .u64 s,.int .i64 i] w fun e w'=>e=.returned (.bool (hasC s i))∧Below w.heap.size w w':=by
 have HC:=LH (fun W=>crew_is i W);unfold hasC
 cases hc:isCrew i
 ·rw [hc] at HC
  clear hc
  go_enter Tryz.func154,Tryz.ntmps154
  go_wp2_with fail;refine(HC.out w).mono ?_;rintro e w1 ⟨rfl,hb1⟩;go_wp2_with fail;go_ret;exact⟨by simp,hb1⟩
 ·rw [hc] at HC
  obtain⟨n,rfl,hn⟩:=isCrew_nat hc;clear hc;have h0:=LH (and_one s n hs)
  go_enter Tryz.func154,Tryz.ntmps154
  go_wp2_with fail;refine(HC.out w).mono ?_;rintro e w1 ⟨rfl,hb1⟩;go_wp2_with fail;go_ret;refine⟨?_,hb1⟩;have:=h0.out;simp [this]
theorem crew_Right (s:Nat) (w:World) :Calls Tryz.prog 153 #[.int .u64 s] w fun e w'=>e=.returned (.bool (rightC s))∧Below w.heap.size w w':=by
 have e:decide ((s:Int)≤281474976710655) =decide (s≤281474976710655):=decide_eq_decide.2 (by omega);unfold rightC;rw [←e];clear e
 go_enter Tryz.func153,Tryz.ntmps153
 go_wp2_with fail;go_ret;exact⟨rfl,Below.refl _ _⟩
structure Ltr where
 e:Int
 f:Int
 c:Nat
 b:List UInt8
def ltrV (x:Ltr) :Value:=.agg #[.int .i64 x.e,.int .i64 x.f,.int .u64 x.c,.string ⟨x.b.toArray⟩]
def rightL (x:Ltr) :Bool:=decide (0≤x.e) && hasC x.c x.f && rightC x.c && decide (x.b.length≤1048576)
def LtrAt (W:World) (g:Nat) (x:Ltr) :Prop:=W.heap[g]? =some (.cells #[.int .i64 x.e,.int .i64 x.f,.int .u64 x.c,.string ⟨x.b.toArray⟩] 190 (0,0))
theorem LtrAt.below {w w':World} {g:Nat} {x:Ltr} (h:LtrAt w g x) (hb:Below w.heap.size w w') :LtrAt w' g x:=bB h hb
theorem LtrAt.new (w:World) (x:Ltr) :LtrAt (w.alloc (.cells #[.int .i64 x.e,.int .i64 x.f,.int .u64 x.c,.string ⟨x.b.toArray⟩] 190)) w.heap.size x:=heap_alloc_new w _
theorem letter_Right (w:World) (x:Ltr) (hc:x.c<2^64) :Calls Tryz.prog 160 #[ltrV x] w fun e w'=>e=.returned (.bool (rightL x))∧Below w.heap.size w w':=by
 obtain⟨e,f,c,b⟩:=x;have HH:=LH (fun W=>crew_Has c f hc W);have HR:=LH (fun W=>crew_Right c W);have HB0:Hid (Below w.heap.size w (w.alloc (.cells #[.int .i64 e,.int .i64 f,.int .u64 c,.string ⟨b.toArray⟩] 190))):=LH bE;have HL0:=LH (LtrAt.new w ⟨e,f,c,b⟩);clear hc;unfold ltrV rightL;dsimp only;have hlb:decide ((b.length:Int)≤1048576) =decide (b.length≤1048576):=decide_eq_decide.2 (by omega);rw [←hlb];clear hlb;generalize hasC c f=z2 at HH⊢;generalize rightC c=z3 at HR⊢;by_cases h:0≤e
 ·have hd:decide (0≤e) =true:=by simpa using h
  rw [hd,Bool.true_and]
  cases z2
  ·rw [Bool.false_and,Bool.false_and]
   go_enter Tryz.func160,Tryz.ntmps160
   go_wp2_with fail;refine(HH.out _).mono ?_;rintro e1 w1 ⟨rfl,hb1⟩;have HB1:=LH (HB0.out.trans (hb1.mono (by simp)));clear hb1;go_wp2_with fail;exact bR (v:=.bool false) (by simp only [results,Tryz.results160];go_simp) rfl ⟨rfl,HB1.out⟩
  ·rw [Bool.true_and]
   generalize hZ: (z3 && decide ((b.length:Int)≤1048576)) =Z;have HZ:=LH hZ;clear hZ
   go_enter Tryz.func160,Tryz.ntmps160
   go_wp2_with fail;refine(HH.out _).mono ?_;rintro e1 w1 ⟨rfl,hb1⟩;have HB1:=LH (HB0.out.trans (hb1.mono (by simp)));have HL1:=LH (HL0.out.below hb1);clear hb1;have cc:=bC HL1.out;have cf:=bF HL1.out;have zb:=lB HL1.out;go_wp2_with fail;refine(HR.out _).mono ?_;rintro e2 w2 ⟨rfl,hb2⟩;have HB2:=LH (HB1.out.trans (hb2.mono HB1.out.size));have HL2:=LH (HL1.out.below hb2);clear hb2 cc cf zb;have cc2:=bC HL2.out;have cf2:=bF HL2.out;have zb2:=lB HL2.out
   cases z3
   ·go_wp2_with fail
    exact bR (v:=.bool false) (by simp only [results,Tryz.results160];go_simp) rfl ⟨by rw [←HZ.out,Bool.false_and],HB2.out⟩
   ·rw [Bool.true_and] at HZ
    go_wp2_with fail;exact bR (v:=.bool (decide ((b.length:Int)≤1048576))) (by simp only [results,Tryz.results160];go_simp) rfl ⟨by rw [←HZ.out],HB2.out⟩
 ·have hd:decide (0≤e) =false:=by simpa using h
  rw [hd,Bool.false_and,Bool.false_and,Bool.false_and]
  go_enter Tryz.func160,Tryz.ntmps160
  go_wp2_with fail;exact bR (v:=.bool false) (by simp only [results,Tryz.results160];go_simp) rfl ⟨rfl,HB0.out⟩
def ltrL (x:Ltr) :List Int:= [x.e,x.f,(x.c:Int),(x.b.length:Int)]
def ltrT (x:Ltr) :List UInt8:=sealT ([68,87,76,1] ++ putB (ltrL x) ++ x.b)
theorem letter_Encode (w:World) (x:Ltr) (h:rightL x=true) (he:i64 x.e) (hf:i64 x.f) :Calls Tryz.prog 110 #[ltrV x] w fun e w'=>e=.returned (.tuple #[.string ⟨(ltrT x).toArray⟩,.int .i64 0])∧Below w.heap.size w w':=by
 have hs:=h;simp only [rightL,hasC,rightC,isCrew,Bool.and_eq_true,decide_eq_true_eq] at hs;obtain⟨⟨⟨h1,⟨h2,_⟩⟩,h3⟩,h4⟩:=hs;have HR:=LH (fun W=>letter_Right W x (by omega));simp only [h] at HR;have HA0:=LH (LtrAt.new w x);have HB0:Hid (Below w.heap.size w (w.alloc (.cells #[.int .i64 x.e,.int .i64 x.f,.int .u64 x.c,.string ⟨x.b.toArray⟩] 190))):=LH bE;have hal: (ltrL x).all (fun y=>decide (0≤y)) =true:=by simp [ltrL];omega
 have hi: ∀y∈ltrL x,i64 y:=by
  intro y hy;simp only [ltrL,List.mem_cons,List.not_mem_nil,or_false] at hy;rcases hy with rfl|rfl|rfl|rfl
  ·exact he
  ·exact hf
  ·constructor <;> omega
  ·constructor <;> omega
 have HP:Hid (∀W,Calls Tryz.prog 157 #[.slice (some ⟨W.heap.size,0,none⟩) 4 4] (W.alloc (.cells #[.int .i64 x.e,.int .i64 x.f,.int .i64 (x.c:Int),.int .i64 (x.b.length:Int)] 3)) fun e w'=>e=.returned (.tuple #[.string ⟨(putB (ltrL x)).toArray⟩,.int .i64 0])∧Below W.heap.size W w'):=LH (fun W=>by
  have h5:=vary_Put _ _ _ (ltrL x) (Own.lit W encZ (ltrL x) 3 (Nat.le_refl _) (by simp [ltrL,maxLen])) hi (by simp [ltrL]) (by simp [ltrL]);refine h5.mono ?_;rintro e w' ⟨⟨t,he,ht⟩,hb⟩;rw [if_pos hal] at he;exact⟨by rw [he,ht hal],((Below.refl W.heap.size W).alloc (Nat.le_refl _) _).trans (hb.mono (by simp))⟩)
 have hcw:wrap64 (x.c:Int) = (x.c:Int):=by unfold wrap64;omega
 have hpl: (putB (ltrL x)).length≤36:=putB_len (L:=ltrL x) fun y hy=>(hi y hy).2
 have hlt: ([68,87,76,1] ++ putB (ltrL x) ++ x.b:List UInt8).length≤8000000:=by
  simp only [List.length_append,List.length_cons,List.length_nil];omega
 have HSe:=LH (fun W=>seal_Seal W ([68,87,76,1] ++ putB (ltrL x) ++ x.b) hlt);have hc1:=fun W=>run_string_add_lists (P:=Tryz.prog) W [68,87,76,1] (putB (ltrL x)) (by simp) (by omega);have hc2:=fun W=>run_string_add_lists (P:=Tryz.prog) W ([68,87,76,1] ++ putB (ltrL x)) x.b (by simp only [List.length_append,List.length_cons,List.length_nil];omega) (by omega);unfold ltrT;generalize hG:sealT ([68,87,76,1] ++ putB (ltrL x) ++ x.b) =G at HSe⊢;clear hG hlt hi hal;generalize hU: [68,87,76,1] ++ putB (ltrL x) =U at hc1 hc2 HSe;generalize putB (ltrL x) =V at HP hc1 hpl;generalize hY:U ++ x.b=Y at hc2 HSe;clear hU hY hpl he hf h h1 h2 h3;obtain⟨e,f,c,b⟩:=x;unfold ltrV at HR⊢;dsimp only at*
 go_enter Tryz.func110,Tryz.ntmps110
 go_wp2_with fail;refine(HR.out _).mono ?_;rintro e1 w1 ⟨rfl,hb1⟩;have HB1:=LH (HB0.out.trans (hb1.mono (by simp)));have HA1:=LH (HA0.out.below hb1);clear hb1;have cc:=bC HA1.out;have cf:=bF HA1.out;have zb:=lB HA1.out;go_wp2_with fail;refine(HP.out _).mono ?_;rintro e2 w2 ⟨rfl,hb2⟩;have HB2:=LH (HB1.out.trans (hb2.mono HB1.out.size));have HA2:=LH (HA1.out.below hb2);clear hb2 cc cf zb;have cc2:=bC HA2.out;have cf2:=bF HA2.out;have zb2:=lB HA2.out;go_wp2_with fail;refine(HSe.out _).mono ?_;rintro e3 w3 ⟨rfl,hb3⟩;have HB3:=LH (HB2.out.trans (hb3.mono HB2.out.size));clear hb3;go_wp2_with fail
 all_goals exact bR (v:=.tuple #[.string ⟨G.toArray⟩,.int .i64 0]) (by simp only [results,Tryz.results110];go_simp) rfl ⟨rfl,HB3.out⟩
def belowR (r:List Nd) (k:Int) :List Nd:=r.filter fun x=>decide (x.1<k)
theorem belowR_zero {r:List Nd} (hr:Roll r) :belowR r 0= []:=by
 unfold belowR;rw [List.filter_eq_nil_iff];intro x hx;have:=(hr.2 x hx).1;simp;omega
theorem belowR_all {r:List Nd} {k:Int} (h: ∀x∈r,x.1<k) :belowR r k=r:=by
 unfold belowR;rw [List.filter_eq_self];intro x hx
 simpa using h x hx
theorem belowR_succ {r:List Nd} (hr:Roll r) (k:Int) :belowR r (k+1) =belowR r k ++ if 0<getR r k then [(k,getR r k)] else []:=by
 induction r with
 |nil=>simp [belowR,getR]
 |cons x r ih=>
  have ih:=ih hr.tail;have hh:=hr.head;have hx:=hr.2 x (by simp);unfold belowR at ih⊢;by_cases h1:x.1<k
  ·rw [List.filter_cons,if_pos (by simp;omega),List.filter_cons,if_pos (by simpa using h1),ih]
   have e2:getR (x :: r) k=getR r k:=by simp only [getR];rw [if_neg (by omega)]
   rw [e2]
   rfl
  ·have e0:r.filter (fun y=>decide (y.1<k)) = []:=by
    rw [List.filter_eq_nil_iff];intro y hy;have:=hh y hy;simp;omega
   have e1:r.filter (fun y=>decide (y.1<k+1)) = []:=by
    rw [List.filter_eq_nil_iff];intro y hy;have:=hh y hy;simp;omega
   by_cases h2:x.1=k
   ·rw [List.filter_cons,if_pos (by simp;omega),List.filter_cons,if_neg (by simp;omega),e0,e1]
    have e2:getR (x :: r) k=x.2:=by simp only [getR];rw [if_pos h2]
    rw [e2,if_pos (by omega)];simp [←h2]
   ·rw [List.filter_cons,if_neg (by simp;omega),List.filter_cons,if_neg (by simp;omega),e0,e1]
    have e2:getR (x :: r) k=0:=by simp only [getR];rw [if_neg h2,getR_none (fun y hy=>by have:=hh y hy;omega)]
    rw [e2];simp
theorem belowR_le {r:List Nd} (hr:Roll r) (k:Nat) : (belowR r k).length≤k:=by
 induction k with
 |zero=>simp [belowR_zero hr]
 |succ k ih=>
  have:=belowR_succ hr (k:Int)
  push_cast
  rw [this,List.length_append]
  split
  ·simp;omega
  ·simp;omega
theorem DenseAt.typed {w:World} {g l:Nat} {r:List Nd} {F:Nat→Prop} (h:DenseAt w g l r F) : ∀b,F b→TypeAt w b 219∨TypeAt w b 3:=by
 obtain⟨v,C,hh,ho,hl,hc,rfl⟩:=h;rintro b (rfl|hb)
 ·exact .inl (.of hh)
 ·rcases ho with ⟨rfl,_⟩ | ⟨g1,o1,c1,u1,rfl,_,hh1,_⟩
  ·cases hb
  ·cases hb;exact .inr (.of hh1)
theorem dense_Snap (w:World) (g l:Nat) (r:List Nd) (F:Nat→Prop) (h:DenseAt w g l r F) (hf:Fits l r) (h2:l≤16) :Calls Tryz.prog 196 #[.pointer (some ⟨g,0,none⟩)] w fun e w'=>
 ∃v,e=.returned v∧Own w' w.heap.size 172 encN v r∧Below w.heap.size w w':=by
 obtain⟨v,C,hh,ho,hl,hcc,rfl⟩:=h;have h5:2^l≤65536:=by have:=Nat.pow_le_pow_right (n:=2) (by decide) h2;simpa using this
 have hpos:0<2^l:=Nat.two_pow_pos l;obtain⟨b,off,cap,rfl,hcap⟩:=own_at0 ho (by omega);have hS:=ho.slT;have cc:=bC hh;have zg:=lB hh;have zb:=(ho.lt b rfl).2;have hCl:C.length≤131072:=by omega
 have hlen:=len_le_sum hf.roll;have hsum:=hf.sum;have HS:=LH hS;have HC:=LH hcc;have HL:=LH hl;have HR:=LH hf;clear hh ho hS hcc hl
 go_enter Tryz.func196,Tryz.ntmps196
 go_wp2_with fail
 go_loopw [3,13] (fun v i wr=>∃k:Nat,k≤C.length∧i=.int .i64 k∧Below w.heap.size w wr∧Own wr w.heap.size 172 encN v (belowR r k)) (fun _ i _=>C.length - (intOf i).toNat)
 case atStart=>exact⟨0,Nat.zero_le _,rfl,bE,by have:=belowR_zero HR.out.roll;simp only [Int.natCast_zero];rw [this];exact Own.nil _ _ _ _⟩
 case round=>
  obtain⟨k,hk,rfl,hB,hown⟩:=hrel;have HO:=LH hown;clear hown;have hs:=hB.size;by_cases hlt:k<C.length
  ·have hck:=HC.out k hlt
   rw [List.getElem?_eq_getElem hlt] at hck
   injection hck with hck
   have hcell:=(hB.cell (p:=⟨b,off+k,none⟩) zb).trans (by have:=HS.out.cell_at hlt 0 (.int .i64 C[k]) rfl;simpa using this);have HS1:=LH (belowR_succ HR.out.roll (k:Int));rw [hck] at hcell;have hkl:=belowR_le HR.out.roll k;generalize getR r k=n at hcell HS1;by_cases hn:0<n
   ·have HS2:=LH (show belowR r ((k:Int) +1) =belowR r k ++ [((k:Int),n)] by rw [HS1.out,if_pos hn])
    clear hck;go_wp2_with ((at_builtin;refine wpList_push tyN rfl _ _ rfl encN wr w.heap.size u3 _ rfl HO.out ((k:Int),n) (by go_simp) rfl ?c1 ?c2 ?c3 ?c4))
    case c1=>omega
    case c2=>simp only [maxLen];omega
    case c3=>exact hs
    case c4=>
     intro v' w2 hown2 hgrow _ hlies hb2 _;go_wp2_with fail;go_roundw
     case rel=>exact⟨k+1,by omega,by go_num,Below.trans hB hb2,by push_cast;rw [HS2.out];exact hown2⟩
     case measure=>simp [intOf];omega
   ·have HS2:=LH (show belowR r ((k:Int) +1) =belowR r k by rw [HS1.out,if_neg hn];simp)
    clear hck;go_wp2_with fail;go_roundw
    case rel=>exact⟨k+1,by omega,by go_num,hB,by push_cast;rw [HS2.out];exact HO.out⟩
    case measure=>simp [intOf];omega
  ·obtain rfl:k=C.length:=by omega
   have he:belowR r (C.length:Nat) =r:=belowR_all fun x hx=>by have:=HR.out.lt x hx;rw [HL.out];push_cast;exact this
   rw [he] at HO;go_wp2_with fail;go_ret;exact⟨_,rfl,HO.out,hB⟩
def homeOf (b:Nat) (id:Int) :Nat:=(id.toNat*11400714819323198485 % 18446744073709551616) / 2^ (64 - b)
theorem homeOf_lt {b:Nat} (h:b≤64) (id:Int) :homeOf b id<2^b:=by
 unfold homeOf
 apply Nat.div_lt_of_lt_mul
 rw [←Nat.pow_add];have:64 - b+b=64:=by omega
 rw [this];exact Nat.mod_lt _ (by decide)
def full (x:Nd) :Bool:=decide (x.2≠0)
def step (n h d:Nat) :Nat:=(h+d) % n
def stopAt (S:List Nd) (id:Int) (i:Nat) :Prop:=∀x,S[i]? =some x→x.2=0∨x.1=id
structure LookAt (S:List Nd) (b:Nat) (id:Int) (i d:Nat) :Prop where
 at_:i=step (2^b) (homeOf b id) d
 lt:d<2^b
 stop:stopAt S id i
 way: ∀d'<d,¬stopAt S id (step (2^b) (homeOf b id) d')
structure PInv (b:Nat) (S m:List Nd) :Prop where
 len:S.length=2^b
 perm: (S.filter full).Perm m
 ids: (m.map (·.1)).Nodup
 pos: ∀x∈m,1≤x.2
 reach: ∀i x,S[i]? =some x→x.2≠0→∃d,d<2^b∧i=step (2^b) (homeOf b x.1) d∧∀d'<d,∀y,S[step (2^b) (homeOf b x.1) d']? =some y→y.2≠0
theorem step_inj {n h d d':Nat} (hd:d<n) (hd':d'<n) (h1:step n h d=step n h d') :d=d':=by
 unfold step at h1;have:=Nat.mod_lt (h+d) (show 0<n by omega);have e1:=Nat.div_add_mod (h+d) n;have e2:=Nat.div_add_mod (h+d') n;rw [h1] at e1;have h3:n* ((h+d) / n) +d'=n* ((h+d') / n) +d:=by omega
 rcases Nat.lt_trichotomy ((h+d) / n) ((h+d') / n) with hl|he|hl
 ·have:=Nat.mul_le_mul_left n (Nat.succ_le_of_lt hl)
  rw [Nat.mul_succ] at this;omega
 ·rw [he] at h3;omega
 ·have:=Nat.mul_le_mul_left n (Nat.succ_le_of_lt hl)
  rw [Nat.mul_succ] at this;omega
theorem step_lt {n h d:Nat} (hn:0<n) :step n h d<n:=Nat.mod_lt _ hn
theorem step_onto {n h i:Nat} (hi:i<n) (hh:h<n) : ∃d,d<n∧i=step n h d:=by
 unfold step;by_cases hle:h≤i
 ·exact⟨i - h,by omega,by rw [show h+ (i - h) =i by omega,Nat.mod_eq_of_lt hi]⟩
 ·exact⟨n - h+i,by omega,by rw [show h+ (n - h+i) =i+n by omega,Nat.add_mod_right,Nat.mod_eq_of_lt hi]⟩
theorem mem_getR {m:List Nd} (h: (m.map (·.1)).Nodup) {x:Nd} (hx:x∈m) :getR m x.1=x.2:=by
 induction m with
 |nil=>simp at hx
 |cons y m ih=>
  rw [List.map_cons,List.nodup_cons] at h;simp only [getR];rcases List.mem_cons.1 hx with rfl|hx
  ·rw [if_pos rfl]
  ·rw [if_neg]
   ·exact ih h.2 hx
   ·intro he
    exact h.1 (by rw [he];exact List.mem_map_of_mem hx)
theorem getR_mem' {m:List Nd} {id:Int} (h:getR m id≠0) : (id,getR m id)∈m:=by
 induction m with
 |nil=>simp [getR] at h
 |cons y m ih=>
  simp only [getR] at h⊢;by_cases hy:y.1=id
  ·rw [if_pos hy];subst hy;simp
  ·rw [if_neg hy] at h⊢
   exact List.mem_cons_of_mem _ (ih h)
section
variable {b:Nat} {S m:List Nd} {id:Int} {i d:Nat}
theorem PInv.mem (h:PInv b S m) {x:Nd} (hx:S[i]? =some x) (h0:x.2≠0) :x∈m:=
 h.perm.mem_iff.1 (List.mem_filter.2 ⟨List.mem_of_getElem? hx,by simp [full,h0]⟩)
theorem PInv.find (h:PInv b S m) {x:Nd} (hx:x∈m) : ∃i:Nat,S[i]? =some x:=by
 have:=(List.mem_filter.1 (h.perm.mem_iff.2 hx)).1;exact List.getElem?_of_mem this
theorem PInv.one (h:PInv b S m) {j:Nat} {x y:Nd} (hi:S[i]? =some x) (hj:S[j]? =some y) (hx:x.2≠0) (hy:y.2≠0) (he:x.1=y.1) :i=j:=by
 have hn: ((S.filter full).map (·.1)).Nodup:=(h.perm.map _).nodup_iff.2 h.ids
 have key: ∀(l:List Nd) (i j:Nat) (x y:Nd),((l.filter full).map (·.1)).Nodup→l[i]? =some x→l[j]? =some y→x.2≠0→y.2≠0→x.1=y.1→i=j:=by
  intro l
  induction l with
  |nil=>intro i j x y _ hi;simp at hi
  |cons z l ih=>
   intro i j x y hn hi hj hx hy he
   have hmem: ∀(k:Nat) (u:Nd),l[k]? =some u→u.2≠0→u.1∈(l.filter full).map (·.1):=fun k u hu h0=>
    List.mem_map_of_mem (List.mem_filter.2 ⟨List.mem_of_getElem? hu,by simp [full,h0]⟩)
   cases i with
   |zero=>
    cases j with
    |zero=>rfl
    |succ j=>
     simp at hi hj
     subst hi;rw [List.filter_cons,if_pos (by simp [full,hx]),List.map_cons,List.nodup_cons] at hn;exact absurd (by rw [he];exact hmem j y hj hy) hn.1
   |succ i=>
    cases j with
    |zero=>
     simp at hi hj
     subst hj;rw [List.filter_cons,if_pos (by simp [full,hy]),List.map_cons,List.nodup_cons] at hn;exact absurd (by rw [←he];exact hmem i x hi hx) hn.1
    |succ j=>
     simp at hi hj
     congr 1
     refine ih i j x y ?_ hi hj hx hy he;rw [List.filter_cons] at hn
     split at hn
     ·rw [List.map_cons,List.nodup_cons] at hn;exact hn.2
     ·exact hn
 exact key S i j x y hn hi hj hx hy he
theorem PInv.count (h:PInv b S m) : (S.filter full).length=m.length:=h.perm.length_eq
theorem PInv.free (h:PInv b S m) (hm:m.length<2^b) : ∃(i:Nat) (x:Nd),S[i]? =some x∧x.2=0:=by
 have h1: (S.filter full).length<S.length:=by rw [h.count,h.len];exact hm
 obtain⟨x,hx,hf⟩:=List.length_filter_lt_length_iff_exists.1 h1;obtain⟨i,hi⟩:=List.getElem?_of_mem hx;exact⟨i,x,hi,by simpa [full] using hf⟩
theorem PInv.ends (h:PInv b S m) (hm:m.length<2^b) (hb:b≤64) (id:Int) : ∃d,d<2^b∧stopAt S id (step (2^b) (homeOf b id) d):=by
 obtain⟨i,x,hi,hx⟩:=h.free hm;have hlt:i<2^b:=by rw [←h.len];exact(List.getElem?_eq_some_iff.1 hi).1
 obtain⟨d,hd,he⟩:=step_onto hlt (homeOf_lt hb id);exact⟨d,hd,fun y hy=>by rw [←he,hi] at hy;cases hy;exact .inl hx⟩
theorem LookAt.i_lt (hl:LookAt S b id i d) :i<2^b:=by rw [hl.at_];exact step_lt (Nat.two_pow_pos b)
theorem LookAt.slot (h:PInv b S m) (hl:LookAt S b id i d) : ∃x,S[i]? =some x:=by
 have:i<S.length:=by rw [h.len];exact hl.i_lt
 exact⟨_,List.getElem?_eq_getElem this⟩
theorem LookAt.hit (h:PInv b S m) (hl:LookAt S b id i d) (h0:getR m id≠0) :S[i]? =some (id,getR m id):=by
 obtain⟨j,hj⟩:=h.find (getR_mem' h0);obtain⟨D,hD,hjD,hway⟩:=h.reach j _ hj h0
 have hstop:stopAt S id (step (2^b) (homeOf b id) D):=fun y hy=>by
  simp only at hjD;rw [←hjD,hj] at hy
  cases hy
  exact .inr rfl
 rcases Nat.lt_trichotomy d D with hlt|he|hlt
 ·obtain⟨x,hx⟩:=hl.slot h
  have h1:x.2≠0:=hway d hlt x (by rw [←hl.at_];exact hx);have h2:x.1=id:=(hl.stop x hx).resolve_left h1;have h3:=h.one hx hj h1 h0 h2;rw [hl.at_,hjD] at h3;have:=step_inj hl.lt hD h3;omega
 ·rw [hl.at_,he,←hjD];exact hj
 ·exact absurd hstop (hl.way D hlt)
theorem LookAt.miss (h:PInv b S m) (hl:LookAt S b id i d) (h0:getR m id=0) : ∃x,S[i]? =some x∧x.2=0:=by
 obtain⟨x,hx⟩:=hl.slot h;refine⟨x,hx,?_⟩;rcases hl.stop x hx with h1|h1
 ·exact h1
 ·apply Classical.byContradiction
  intro hne;have hm:=h.mem hx hne;have:=mem_getR h.ids hm;rw [h1,h0] at this;exact hne this.symm
theorem LookAt.get (h:PInv b S m) (hl:LookAt S b id i d) : ∃x,S[i]? =some x∧x.2=getR m id∧(getR m id≠0→x.1=id):=by
 by_cases h0:getR m id=0
 ·obtain⟨x,hx,hz⟩:=hl.miss h h0
  exact⟨x,hx,by rw [h0];exact hz,fun h=>absurd h0 h⟩
 ·exact⟨_,hl.hit h h0,rfl,fun _=>rfl⟩
theorem set_split {α:Type} {l:List α} {i:Nat} {y:α} (hi:l[i]? =some y) :l=l.take i ++ y :: l.drop (i+1):=by
 obtain⟨hlt,he⟩:=List.getElem?_eq_some_iff.1 hi;rw [←he,←List.drop_eq_getElem_cons hlt,List.take_append_drop]
theorem filter_set_new {y x:Nd} (hi:S[i]? =some y) (hy:y.2=0) (hx:x.2≠0) : ((S.set i x).filter full).Perm (x :: S.filter full):=by
 have h1:=set_split hi;have hlt:=(List.getElem?_eq_some_iff.1 hi).1;have h2:S.set i x=S.take i ++ x :: S.drop (i+1):=by rw [List.set_eq_take_append_cons_drop,if_pos hlt]
 rw [h2,List.filter_append,List.filter_cons,if_pos (by simp [full,hx])]
 conv=>rhs;rw [h1]
 rw [List.filter_append,List.filter_cons,if_neg (by simp [full,hy])];exact List.perm_middle
theorem filter_set_old {y x:Nd} (hi:S[i]? =some y) (hy:y.2≠0) (hx:x.2≠0) : ∃t,(S.filter full).Perm (y :: t)∧((S.set i x).filter full).Perm (x :: t):=by
 have h1:=set_split hi;have hlt:=(List.getElem?_eq_some_iff.1 hi).1;have h2:S.set i x=S.take i ++ x :: S.drop (i+1):=by rw [List.set_eq_take_append_cons_drop,if_pos hlt]
 refine⟨(S.take i).filter full ++ (S.drop (i+1)).filter full,?_,?_⟩
 ·conv=>lhs;rw [h1]
  rw [List.filter_append,List.filter_cons,if_pos (by simp [full,hy])];exact List.perm_middle
 ·rw [h2,List.filter_append,List.filter_cons,if_pos (by simp [full,hx])]
  exact List.perm_middle
theorem get_set {x y:Nd} {j:Nat} (h: (S.set i x)[j]? =some y) : (j=i∧y=x)∨(j≠i∧S[j]? =some y):=by
 rw [List.getElem?_set] at h;by_cases hij:i=j
 ·subst hij
  rw [if_pos rfl] at h
  split at h
  ·cases h;exact .inl ⟨rfl,rfl⟩
  ·cases h
 ·rw [if_neg hij] at h
  exact .inr ⟨fun e=>hij e.symm,h⟩
theorem PInv.put (h:PInv b S m) (hl:LookAt S b id i d) (h0: ∀x∈m,x.1≠id) {c:Int} (hc:1≤c) :PInv b (S.set i (id,c)) ((id,c) :: m):=by
 have hg:getR m id=0:=getR_none h0;obtain⟨y,hy,hy0⟩:=hl.miss h hg;refine⟨by rw [List.length_set];exact h.len,?_,?_,?_,?_⟩
 ·exact(filter_set_new hy hy0 (by simp only;omega)).trans (h.perm.cons _)
 ·rw [List.map_cons,List.nodup_cons]
  refine⟨fun hm=> ?_,h.ids⟩;obtain⟨x,hx,he⟩:=List.mem_map.1 hm;exact h0 x hx he
 ·intro x hx
  rcases List.mem_cons.1 hx with rfl|hx
  ·exact hc
  ·exact h.pos x hx
 ·intro j x hj hx0
  rcases get_set hj with ⟨rfl,rfl⟩ | ⟨hne,hj⟩
  ·refine⟨d,hl.lt,hl.at_,fun d' hd' z hz=> ?_⟩
   have hw:=hl.way d' hd';rcases get_set hz with ⟨he,rfl⟩ | ⟨_,hz⟩
   ·simp only;omega
   ·intro hz0
    exact hw fun u hu=>by simp only at hz;rw [hz] at hu;cases hu;exact .inl hz0
  ·obtain⟨D,hD,he,hw⟩:=h.reach j x hj hx0
   refine⟨D,hD,he,fun d' hd' z hz=> ?_⟩;rcases get_set hz with ⟨_,rfl⟩ | ⟨_,hz⟩
   ·simp only;omega
   ·exact hw d' hd' z hz
theorem PInv.turn (h:PInv b S m) {v c:Int} {t:List Nd} (hi:S[i]? =some (id,v)) (hv:v≠0) (hc:1≤c) (hm:m.Perm ((id,v) :: t)) :PInv b (S.set i (id,c)) ((id,c) :: t):=by
 obtain⟨t',h1,h2⟩:=filter_set_old (x:=(id,c)) hi hv (by simp only;omega);have ht:t'.Perm t:=((h1.symm.trans h.perm).trans hm).cons_inv;refine⟨by rw [List.length_set];exact h.len,h2.trans (ht.cons _),?_,?_,?_⟩
 ·have:=(hm.map (·.1)).nodup_iff.1 h.ids
  simpa using this
 ·intro x hx
  rcases List.mem_cons.1 hx with rfl|hx
  ·exact hc
  ·exact h.pos x (hm.mem_iff.2 (List.mem_cons_of_mem _ hx))
 ·intro j x hj hx0
  rcases get_set hj with ⟨rfl,rfl⟩ | ⟨hne,hj⟩
  ·obtain⟨D,hD,he,hw⟩:=h.reach _ _ hi hv
   refine⟨D,hD,he,fun d' hd' z hz=> ?_⟩;rcases get_set hz with ⟨_,rfl⟩ | ⟨_,hz⟩
   ·simp only;omega
   ·exact hw d' hd' z hz
  ·obtain⟨D,hD,he,hw⟩:=h.reach j x hj hx0
   refine⟨D,hD,he,fun d' hd' z hz=> ?_⟩;rcases get_set hz with ⟨_,rfl⟩ | ⟨_,hz⟩
   ·simp only;omega
   ·exact hw d' hd' z hz
theorem PInv.perm' (h:PInv b S m) {m':List Nd} (hp:m.Perm m') :PInv b S m':=
 ⟨h.len,h.perm.trans hp,(hp.map _).nodup_iff.1 h.ids,fun x hx=>h.pos x (hp.mem_iff.2 hx),h.reach⟩
theorem PInv.empty (b:Nat) :PInv b (List.replicate (2^b) (0,0)) []:=by
 refine⟨by simp,?_,by simp,by simp,?_⟩
 ·rw [List.filter_eq_nil_iff.2]
  intro x hx;have:=List.eq_of_mem_replicate hx;subst this;simp [full]
 ·intro i x hi h0
  have:=List.eq_of_mem_replicate (List.mem_of_getElem? hi);subst this;simp at h0
end
theorem Roll.ids {r:List Nd} (h:Roll r) : (r.map (·.1)).Nodup:=by
 rw [List.nodup_iff_pairwise_ne,List.pairwise_map];exact h.1.imp fun {a b} hab=>by omega
theorem addR_perm_new {r:List Nd} (hr:Roll r) {id c:Int} (h0:getR r id=0) : (addR r id c).Perm ((id,c) :: r):=by
 induction r with
 |nil=>exact .refl _
 |cons x r ih=>
  have hx:=hr.2 x (by simp);simp only [getR] at h0;by_cases he:x.1=id
  ·rw [if_pos he] at h0;omega
  ·rw [if_neg he] at h0
   simp only [addR];rw [if_neg he]
   split
   ·exact .refl _
   ·exact((ih hr.tail h0).cons x).trans (.swap _ _ _)
theorem addR_perm_old {r:List Nd} (hr:Roll r) {id c:Int} (h0:getR r id≠0) : ∃t,r.Perm ((id,getR r id) :: t)∧(addR r id c).Perm ((id,getR r id+c) :: t):=by
 induction r with
 |nil=>simp [getR] at h0
 |cons x r ih=>
  have hx:=hr.2 x (by simp);simp only [getR] at h0⊢;by_cases he:x.1=id
  ·rw [if_pos he]
   subst he;exact⟨r,.refl _,by simp [addR]⟩
  ·rw [if_neg he] at h0⊢
   obtain⟨t,h1,h2⟩:=ih hr.tail h0
   have hlt: ¬id<x.1:=by
    intro hlt
    apply h0
    exact getR_none fun y hy=>by have:=hr.head y hy;omega
   refine⟨x :: t,(h1.cons x).trans (.swap _ _ _),?_⟩;simp only [addR];rw [if_neg he,if_neg hlt];exact(h2.cons x).trans (.swap _ _ _)
theorem delR_perm {r:List Nd} (hr:Roll r) {id:Int} (h0:getR r id≠0) :r.Perm ((id,getR r id) :: delR r id):=by
 induction r with
 |nil=>simp [getR] at h0
 |cons x r ih=>
  simp only [getR] at h0⊢;by_cases he:x.1=id
  ·rw [if_pos he]
   subst he;simp [delR]
  ·rw [if_neg he] at h0⊢
   simp only [delR];rw [if_neg he];exact((ih hr.tail h0).cons x).trans (.swap _ _ _)
theorem wraps_i64 (n:Int) (h₀:0≤n) (h₁:n<2^63) :IntKind.i64.wrap n=n:=by rw [IntKind.wrap_i64];omega
theorem and_mask (i n b:Nat) (hn:n=2^b) (hb:b≤40) (hi:i<2^62) :bits .and .i64 ((i:Int) +1) ((n:Int) - 1) = ((i+1) % n:Nat):=by
 subst hn;have:=bits_mask .i64 63 (by decide) wraps_i64 b (by omega) ((i:Int) +1) (by omega) (by omega)
 push_cast
 exact this
theorem home_eq (b:Nat) (id:Int) (h2:b≤62) (h1:1≤b) (h3:0≤id) :wrap64 (IntKind.u64.wrap (id*11400714819323198485) / 2^ (64 - b)) = (homeOf b id:Int):=by
 obtain⟨x,rfl⟩:=Int.eq_ofNat_of_zero_le h3;have e1:IntKind.u64.wrap ((x:Int) *11400714819323198485) = ((x*11400714819323198485 % 18446744073709551616:Nat) :Int):=by rw [IntKind.wrap_u64];omega
 rw [e1]
 have e2: ((x*11400714819323198485 % 18446744073709551616:Nat) :Int) / 2^ (64 - b) = (homeOf b x:Int):=by
  unfold homeOf;rw [Int.natCast_ediv,Int.natCast_pow];rfl
 rw [e2];have h4:=homeOf_lt (b:=b) (by omega) (x:Int);have h5:2^b≤2^62:=Nat.pow_le_pow_right (by decide) h2;unfold wrap64;omega
theorem probe_Home (w:World) (b:Nat) (id:Int) (h1:1≤b) (h2:b≤62) (h3:1≤id) (h4:id≤562949953421312) :Calls Tryz.prog 303 #[.int .i64 b,.int .i64 id] w fun e w'=>e=.returned (.int .i64 (homeOf b id))∧Below w.heap.size w w':=by
 have q1: (1:Int)≤(b:Int):=by omega
 have q2: (b:Int)≤62:=by omega
 go_enter Tryz.func303,Tryz.ntmps303
 go_wp2_with fail;go_ret;exact⟨ret_int (home_eq b id h2 h1 (by omega)),bE⟩
def ProbeAt (w:World) (g l:Nat) (r:List Nd) (F:Nat→Prop) :Prop:=
 ∃(v:Value) (S:List Nd) (b:Nat),w.heap[g]? =some (.cells #[.int .i64 l,.int .i64 b,.int .i64 r.length,.int .i64 (sumR r),v] 221 (0,0))∧Own w 0 172 encN v S∧PInv b S r∧3≤b∧b≤34∧2*r.length≤2^b∧F=foot2 g v
theorem probe_next (w:World) (g n b i:Nat) (cs:Array Value) (A:Option Addr) (cap:Nat) (hh:w.heap[g]? =some (.cells cs 221 (0,0))) (hv:cs[4]? =some (.slice A n cap)) (hn:n=2^b) (hb:b≤35) (hi:i<n) :
 Calls Tryz.prog 304 #[.pointer (some ⟨g,0,none⟩),.int .i64 i] w fun e w'=>e=.returned (.int .i64 ((i+1) % n:Nat))∧Below w.heap.size w w':=by
 have c:=(bC hh 4).trans hv;have hN:n≤34359738368:=by rw [hn];have:=Nat.pow_le_pow_right (n:=2) (by decide) hb;simpa using this
 have hp:0<n:=by rw [hn];exact Nat.two_pow_pos b
 have HN:=LH hn;clear hh hv hn
 go_enter Tryz.func304,Tryz.ntmps304
 go_wp2_with fail;go_ret;exact⟨ret_int (and_mask i n b HN.out (by omega) (by omega)),bE⟩
theorem step_succ {n h d:Nat} (hn:0<n) : (step n h d+1) % n=step n h (d+1):=by
 unfold step;rw [Nat.mod_add_mod]
 congr 1
theorem step_next {n h d:Nat} (hn:0<n) : ((step n h d:Nat) +1:Int) % (n:Nat) = (step n h (d+1) :Nat):=by
 have:=step_succ (h:=h) (d:=d) hn
 exact_mod_cast this
theorem val_int {a b:Int} (h:a=b) :Value.int .i64 a=.int .i64 b:=by rw [h]
def LookPost (S:List Nd) (b:Nat) (id:Int) (w:World) (e:Ending) (w':World) :Prop:=∃i d:Nat,e=.returned (.tuple #[.int .i64 i,.int .i64 (d+1:Nat)])∧LookAt S b id i d∧Below w.heap.size w w'
theorem probe_look (w:World) (g b sb off n cap:Nat) (v0 v2 v3:Value) (S m:List Nd) (id:Int) (hh:w.heap[g]? =some (.cells #[v0,.int .i64 b,v2,v3,.slice (some ⟨sb,off,none⟩) n cap] 221 (0,0)))
 (ho:Own w 0 172 encN (.slice (some ⟨sb,off,none⟩) n cap) S) (hI:PInv b S m) (hm:m.length<2^b) (h3:3≤b) (h35:b≤35) (hi1:1≤id) (hi2:id≤562949953421312) :
 Calls Tryz.prog 263 #[.pointer (some ⟨g,0,none⟩),.int .i64 id] w (LookPost S b id w):=by
 obtain rfl:n=S.length:=ho.len_le.1;obtain⟨D,hD,hstop⟩:=hI.ends hm (by omega) id;have hl:=hI.len;have hN:2^b≤34359738368:=by have:=Nat.pow_le_pow_right (n:=2) (by decide) h35;simpa using this
 have hp:0<2^b:=Nat.two_pow_pos b;have hS:=ho.slT;have cc:=bC hh;have zg:=lB hh;have zb:=(ho.lt sb rfl).2;have hC:S.length≤34359738368:=by omega
 have hDN:D<34359738368:=by omega
 have HS:=LH hS;have HH:=LH hh;have HL:=LH hl;have HD:=LH hstop;have HP:=LH (And.intro hN hp);clear hh ho hS hl hI hm hN hp hstop
 go_enter Tryz.func263,Tryz.ntmps263
 go_wp2_with fail
 go_step3
 go_wp2_with fail;refine(probe_Home _ b id (by omega) (by omega) hi1 hi2).mono ?_;rintro e w1 ⟨rfl,hb1⟩;have B1:Below w.heap.size w w1:=Below.then_ bE hb1;have s1:=B1.size;have k1:=bB HH.out hb1;have cc1:=bC k1;have K1:=LH k1;have HB:=LH (HS.out.below hb1);clear cc k1;go_wp2_with fail
 go_step3
 go_wp2_with fail
 go_loopw [6,7] (fun i n wr=>∃d:Nat,d≤D∧i=.int .i64 (step (2^b) (homeOf b id) d)∧n=.int .i64 (d+1:Nat)∧(∀d'<d,¬stopAt S id (step (2^b) (homeOf b id) d'))∧Below w.heap.size w wr) (fun _ n _=>D+1 - (intOf n).toNat)
 case atStart=>exact⟨0,Nat.zero_le _,by simp [step,Nat.mod_eq_of_lt (homeOf_lt (b:=b) (by omega) id)],rfl,by omega,B1⟩
 case round=>
  obtain⟨d,hd,rfl,rfl,hway,hB⟩:=hrel;have HW:=LH hway;clear hway;obtain⟨i,hi⟩ : ∃i,i=step (2^b) (homeOf b id) d:=⟨_,rfl⟩;have hlt:i<S.length:=by rw [HL.out,hi];exact step_lt HP.out.2
  have HI:=LH hi;rw [←hi];have k2:=bB HH.out (hB.mono (Nat.le_refl _));have cc2:=bC k2;have hs:=hB.size;have d0:=(hB.cell (p:=⟨sb,off+i*2+0,none⟩) zb).trans (HS.out.cell_at hlt 0 (.int .i64 S[i].1) rfl);have d1:=(hB.cell (p:=⟨sb,off+i*2+1,none⟩) zb).trans (HS.out.cell_at hlt 1 (.int .i64 S[i].2) rfl);simp only [Nat.add_zero] at d0;obtain⟨x,hx⟩ : ∃x,x=S[i]:=⟨_,rfl⟩;rw [←hx] at d0 d1;have HX:=LH (show S[i]? =some x by rw [hx];exact List.getElem?_eq_getElem hlt);have K2:=LH k2;clear hi hx k2 cc1;go_wp2_with fail
  ·have ht: (x.2 == 0) =true:=by assumption
   rw [Exit.noGoto_ret]
   go_ret2
   exact⟨i,d,rfl,⟨HI.out,by omega,fun y hy=>by rw [HX.out] at hy;cases hy;exact .inl (by simpa using ht),HW.out⟩,bE⟩
  ·have ht: (x.1 == id) =true:=by assumption
   rw [Exit.noGoto_ret]
   go_ret2
   exact⟨i,d,rfl,⟨HI.out,by omega,fun y hy=>by rw [HX.out] at hy;cases hy;exact .inr (by simpa using ht),HW.out⟩,bE⟩
  ·have ht1: (x.2 == 0) =false:=by assumption
   have ht2: (x.1 == id) =false:=by assumption
   have HG:=LH (show ¬stopAt S id (step (2^b) (homeOf b id) d) from fun h=>by
    rw [←HI.out] at h;rcases h x HX.out with h|h
    ·simp [h] at ht1
    ·simp [h] at ht2)
   have k3:=bB K2.out ((Below.refl wr.heap.size wr).alloc (Nat.le_refl _) (.cells #[.int .i64 x.1,.int .i64 x.2] 172))
   have hdD:d<D:=by
    rcases Nat.lt_or_eq_of_le hd with h|h
    ·exact h
    ·subst h;exact absurd HD.out HG.out
   refine(probe_next _ g S.length b i _ _ cap k3 rfl HL.out h35 hlt).mono ?_;rintro e w4 ⟨rfl,hb4⟩;have B4:Below w.heap.size w w4:=Below.then_ bE hb4;have s4:=B4.size;have z4_0:wr.heap.size<w4.heap.size:=by have:=hb4.size;(try simp at this);omega
   have y4_0:wr.heap.size≤w4.heap.size:=Nat.le_of_lt z4_0;have c4_0:=czB hb4 (wr.heap.size);have f4_0:=fzB hb4 (wr.heap.size);go_wp2_with fail;go_roundw
   case rel=>exact⟨d+1,by omega,by rw [HI.out,HL.out];exact val_int (by push_cast;exact_mod_cast step_next HP.out.2),by push_cast;rfl,fun d' hd'=>by
    rcases Nat.lt_or_eq_of_le (Nat.le_of_lt_succ hd') with h|h
    ·exact HW.out d' h
    ·subst h;exact HG.out,bE⟩
   case measure=>simp [intOf];omega
theorem probe_right (w:World) (g l:Nat) (cs:Array Value) (id:Int) (hh:w.heap[g]? =some (.cells cs 221 (0,0))) (hv:cs[0]? =some (.int .i64 l)) :
 Calls Tryz.prog 262 #[.pointer (some ⟨g,0,none⟩),.int .i64 id] w fun e w'=>e=.returned (.bool (isNode l id))∧Below w.heap.size w w':=by
 have c:=(bC hh 0).trans hv;have z:=lB hh;clear hh hv
 go_enter Tryz.func262,Tryz.ntmps262
 go_wp2_with fail;refine(twig_Right _ l id).mono ?_;rintro e w1 ⟨rfl,hb1⟩;have B1:Below w.heap.size w w1:=Below.then_ bE hb1;have s1:=B1.size;go_wp2_with fail;go_ret;exact⟨rfl,bE⟩
theorem probe_L (w:World) (g l:Nat) (r:List Nd) (F:Nat→Prop) (h:ProbeAt w g l r F) :Calls Tryz.prog 171 #[.pointer (some ⟨g,0,none⟩)] w fun e w'=>e=.returned (.int .i64 l)∧Below w.heap.size w w':=by
 obtain⟨v,S,b,hh,_⟩:=h;have c:=bC hh;have z:=lB hh;clear hh
 go_enter Tryz.func171,Tryz.ntmps171
 go_wp2_with fail;go_ret;exact⟨rfl,bE⟩
theorem probe_Total (w:World) (g l:Nat) (r:List Nd) (F:Nat→Prop) (h:ProbeAt w g l r F) :Calls Tryz.prog 97 #[.pointer (some ⟨g,0,none⟩)] w fun e w'=>e=.returned (.int .i64 (sumR r))∧Below w.heap.size w w':=by
 obtain⟨v,S,b,hh,_⟩:=h;have c:=bC hh;have z:=lB hh;clear hh
 go_enter Tryz.func97,Tryz.ntmps97
 go_wp2_with fail;go_ret;exact⟨rfl,bE⟩
theorem infoN: ((Tryz.prog).info? 172).map (fun i=>(i.zero,i.size,i.bytes)) =some (some (.agg #[.int .i64 0,.int .i64 0]),2,16):=by kernel_rfl
theorem probe_New (w:World) (n:Nat) (h1:1≤n) (h2:n≤48) :Calls Tryz.prog 204 #[.int .i64 n] w fun e w'=>
 ∃g F,e=.returned (.tuple #[.pointer (some ⟨g,0,none⟩),.int .i64 0])∧ProbeAt w' g n [] F∧(∀b,F b→w.heap.size≤b)∧Below w.heap.size w w':=by
 obtain⟨i,hi,hz0,hz1,hz2⟩:=info_parts infoN;have q1: (1:Int)≤(n:Int):=by omega
 have q2: (n:Int)≤48:=by omega
 go_enter Tryz.func204,Tryz.ntmps204
 go_wp2_with ((at_make;refine wpList_make_full _ rfl _ _ 169 rfl w.heap.size 172 i (.agg #[.int .i64 0,.int .i64 0]) 2 Tryz.underlying169 hi hz0 hz1 _ _ _ _ 8 rfl rfl ?hL ?hC ?b2 ?b3 ?b4 ?hK))
 case hL=>simp
 case hC=>simp
 case b2=>rw [hz2];decide
 case b3=>simp only [maxLen];omega
 case b4=>exact Nat.le_refl _
 case hK=>
  intro w1 hr hg;have hmf:=made_flat encN (0,0) #[.int .i64 0,.int .i64 0] 8 rfl (by decide);simp only [Nat.reduceMul] at hmf;rw [hmf] at hr;have ho:=Own.of_row hr (by simp) (by decide);have HO:=LH ho;have b1:Below w.heap.size w w1:=(Below.refl _ _).grown hg (Nat.le_refl _) (fun k hk=>by cases hk);have z1:=b1.size;clear hr ho hg hmf;go_wp2_with fail
  go_ret2
  exact⟨w1.heap.size,_,rfl,⟨_,_,3,heap_new_at w1 _ _ rfl,(HO.out.base_le (Nat.zero_le _)).alloc _,PInv.empty 3,by omega,by omega,by simp,rfl⟩,fun b hb=>by
   rcases hb with rfl|hb
   ·exact z1
   ·cases hb;exact Nat.le_refl _,bE⟩
theorem take_filter_succ {S:List Nd} {k:Nat} (hk:k<S.length) (x:Nd) (hx:S[k]? =some x) : (S.take (k+1)).filter full= (S.take k).filter full ++ if x.2=0 then [] else [x]:=by
 rw [List.getElem?_eq_getElem hk] at hx
 injection hx with hx
 rw [List.take_succ_eq_append_getElem hk,List.filter_append,hx]
 congr 1
 rw [List.filter_cons];by_cases h:x.2=0
 ·simp [full,h]
 ·simp [full,h]
theorem PInv.put_next {b b':Nat} {S S' m:List Nd} {k i d:Nat} {x:Nd} (h:PInv b S m) (h':PInv b' S' ((S.take k).filter full)) (hk:k<S.length) (hx:S[k]? =some x) (h0:x.2≠0) (hl:LookAt S' b' x.1 i d) :
 PInv b' (S'.set i x) ((S.take (k+1)).filter full):=by
 have h1: ∀y∈(S.take k).filter full,y.1≠x.1:=by
  intro y hy he;obtain⟨hy,hf⟩:=List.mem_filter.1 hy;obtain⟨j,hj⟩:=List.getElem?_of_mem hy;rw [List.getElem?_take] at hj
  split at hj
  ·rename_i hlt
   have:=h.one hj hx (by simpa [full] using hf) h0 he;omega
  ·cases hj
 have h2:1≤x.2:=h.pos x (h.mem hx h0);have h3:=h'.put hl h1 h2;rw [take_filter_succ hk x hx,if_neg h0];exact h3.perm' (List.perm_append_comm (l₁:= [x]))
theorem PInv.nonneg {b:Nat} {S m:List Nd} (h:PInv b S m) {i:Nat} {x:Nd} (hx:S[i]? =some x) :0≤x.2:=by
 by_cases h0:x.2=0
 ·omega
 ·have:=h.pos x (h.mem hx h0);omega
theorem set_set {S:List Nd} {i:Nat} (x y:Nd) : (S.set i y).set i x=S.set i x:=by simp
theorem own_slot {w:World} {base b off n cap:Nat} {S:List Nd} (h:Own w base 172 encN (.slice (some ⟨b,off,none⟩) n cap) S) (i:Nat) (hi:i<S.length) (x:Nd) :
 Own ((w.setCell ⟨b,off+i*2,none⟩ (.int .i64 x.1)).setCell ⟨b,off+i*2+1,none⟩ (.int .i64 x.2)) base 172 encN (.slice (some ⟨b,off,none⟩) n cap) (S.set i x):=by
 have h1:=h.setElem i 0 hi (by decide) (.int .i64 x.1) (x.1,S[i].2) rfl;have h2:=h1.setElem i 1 (by simpa using hi) (by decide) (.int .i64 x.2) x (by simp [encN]);rw [set_set] at h2;exact h2
def WidenPost (g b:Nat) (v0 v2 v3:Value) (m:List Nd) (w:World) (e:Ending) (w':World) :Prop:=
 ∃(sb off cap:Nat) (S':List Nd),e=.returned (.tuple #[])∧w'.heap[g]? =some (.cells #[v0,.int .i64 (b+1:Nat),v2,v3,.slice (some ⟨sb,off,none⟩) S'.length cap] 221 (0,0))∧w.heap.size≤sb∧
  Own w' 0 172 encN (.slice (some ⟨sb,off,none⟩) S'.length cap) S'∧PInv (b+1) S' m∧Turn (fun x=>x=g) w w'
theorem probe_widen (w:World) (g b sb off cap:Nat) (v0 v2 v3:Value) (S m:List Nd) (hh:w.heap[g]? =some (.cells #[v0,.int .i64 b,v2,v3,.slice (some ⟨sb,off,none⟩) S.length cap] 221 (0,0)))
 (ho:Own w 0 172 encN (.slice (some ⟨sb,off,none⟩) S.length cap) S) (hI:PInv b S m) (h3:3≤b) (h34:b≤34) (hid: ∀x∈m,1≤x.1∧x.1≤562949953421312) :
 Calls Tryz.prog 267 #[.pointer (some ⟨g,0,none⟩)] w (WidenPost g b v0 v2 v3 m w):=by
 obtain⟨i0,hi,hz0,hz1,hz2⟩:=info_parts infoN;have q1: (3:Int)≤(b:Int):=by omega
 have q2: (b:Int)≤34:=by omega
 have q3: (2:Int) ^ (b+1)≤34359738368:=by have:=pow_le' (show b+1≤35 by omega);simpa using this
 have q4:=pow_pos' (b+1);have q5:2^ (b+1)≤34359738368:=by have:=Nat.pow_le_pow_right (n:=2) (by decide) (show b+1≤35 by omega);simpa using this
 have Q5:=LH q5;have hSl:S.length≤34359738368:=by have:=hI.len;rw [Nat.pow_succ] at q5;omega
 have cc:=bC hh;have cf:=bF hh;have zg:=lB hh;have H:=LH hh;have HO:=LH ho;have HI:=LH hI;have HD:=LH hid;clear hh ho hI q5 hid
 go_enter Tryz.func267,Tryz.ntmps267
 go_wp2_with ((at_make;refine wpList_make_full _ rfl _ _ 169 rfl w.heap.size 172 i0 (.agg #[.int .i64 0,.int .i64 0]) 2 Tryz.underlying169 hi hz0 hz1 _ _ _ _ (2^ (b+1)) rfl rfl ?hL ?hC ?b2 ?b3 ?b4 ?hK))
 case hL=>simp
 case hC=>simp
 case b2=>rw [hz2];have:=Q5.out;omega
 case b3=>have:=Q5.out;simp only [maxLen];omega
 case b4=>simp
 case hK=>
  intro w1 hr hg;have hmf:=made_flat encN (0,0) #[.int .i64 0,.int .i64 0] (2^ (b+1)) rfl (by decide);rw [hmf] at hr;have ho1:=Own.of_row hr (by simp) (by decide);have k1:=zH (i:=1) H.out (.int .i64 (b+1:Nat));have hgs:=hg.size;simp only [World.setCell,Array.size_modify] at hgs;have k2:=(hg.block g (by simpa using zg) (by simp)).trans k1;have hnb:g≠sb:=fun he=>HO.out.ne_block H.out (by decide) (by rw [he];rfl);have hT:Turn (fun x=>x=g) w w1:=((Turn.refl (fun x=>x=g) w).setCell (p:=⟨g,1,none⟩) (.inl rfl) (.int .i64 ((b:Int) +1))).grown hg (fun _ h=>by cases h);have cc1:=bC k2;have cf1:=bF k2;have zg1:=lB k2;have HR:=LH (ho1.base_le (b:=w.heap.size) (by simp));have K2:=LH k2;clear hr hg hmf ho1 k1 k2 cc cf;go_wp2_with fail
  go_loopw [29] (fun i wr=>∃(k:Nat) (S':List Nd),k≤S.length∧i=.int .i64 k∧wr.heap[g]? =some (.cells #[v0,.int .i64 (b+1:Nat),v2,v3,.slice (some ⟨w.heap.size,0,none⟩) (2^ (b+1)) (2^ (b+1))] 221 (0,0))∧
   Own wr w.heap.size 172 encN (.slice (some ⟨w.heap.size,0,none⟩) (2^ (b+1)) (2^ (b+1))) S'∧PInv (b+1) S' ((S.take k).filter full)∧Turn (fun x=>x=g) w wr) (fun i _=>S.length - (intOf i).toNat)
  case atStart=>exact⟨0,_,Nat.zero_le _,rfl,zH K2.out _,HR.out.setCell (by simp [Value.ownBlock];omega) _,PInv.empty (b+1),hT.setCell (.inl rfl) _⟩
  case round=>
   obtain⟨k,S',hk,rfl,hg4,hown,hP,hTr⟩:=hrel;have hs:=hTr.size;have zg2:=lB hg4;have cc2:=bC hg4;have cf2:=bF hg4;have KG:=LH hg4;have KO:=LH hown;have KP:=LH hP;have KS:=LH (hTr.own HO.out (fun q hq=>by cases hq;exact fun h=>hnb h.symm));clear cc1 cf1 hg4 hown hP;by_cases hlt:k<S.length
   ·have d0:=KS.out.slT.cell_at hlt 0 (.int .i64 S[k].1) rfl
    have d1:=KS.out.slT.cell_at hlt 1 (.int .i64 S[k].2) rfl;have zs:=(KS.out.lt sb rfl).2;simp only [Nat.add_zero] at d0;obtain⟨x,hx⟩ : ∃x,x=S[k]:=⟨_,rfl⟩;rw [←hx] at d0 d1;have HX:=LH (show S[k]? =some x by rw [hx];exact List.getElem?_eq_getElem hlt);clear hx;by_cases hx0:0<x.2
    ·have hmem:=HI.out.mem HX.out (by omega)
     have hxi:=HD.out x hmem
     have hfr: ((S.take k).filter full).length<2^ (b+1):=by
      have h1:=List.length_filter_le full (S.take k);have h2: (S.take k).length≤S.length:=List.length_take_le' _ _;have h3:=HI.out.len;have h4:=Nat.two_pow_pos b;rw [Nat.pow_succ];omega
     have HF:=LH hfr;have HA:=LH ((Below.refl wr.heap.size wr).alloc (Nat.le_refl _) (.cells #[.int .i64 x.1,.int .i64 x.2] 172));clear hmem hfr;go_wp2_with fail;refine(probe_look _ g (b+1) w.heap.size 0 _ _ v0 v2 v3 S' ((S.take k).filter full) x.1 (bB KG.out HA.out) ((KO.out.base_le (Nat.zero_le _)).alloc _) KP.out HF.out (by omega) (by omega) hxi.1 hxi.2).mono ?_;rintro e w2 ⟨i,d,rfl,hL,hb2⟩;have B2:=hb2;have A2:=HA.out.trans (hb2.mono (by simp));have k2:=bB KG.out A2;have o2:=KO.out.below A2;have hil:i<S'.length:=by rw [KP.out.len];exact hL.i_lt
     have cb:=bC (bB (heap_new_at wr (.cells #[.int .i64 x.1,.int .i64 x.2] 172) _ rfl) hb2);have c2:=bC k2;have f2:=bF k2;have d2:=o2.slT.cell_at hil 0 (.int .i64 S'[i].1) rfl;have d3:=o2.slT.cell_at hil 1 (.int .i64 S'[i].2) rfl;simp only [Nat.add_zero,Nat.zero_add] at d2 d3;have fb:=o2.frozen;have KG2:=LH k2;have KO2:=LH o2;have KL:=LH hL;have T2:=LH (hTr.more A2);have hiN: (i:Int) <2^ (b+1):=by have:=hL.i_lt;exact_mod_cast this
     have hiN2:i<2^ (b+1):=hL.i_lt;have zo2:=(o2.lt _ rfl).2;have zg3:=lB k2;clear hL hb2 B2 k2 o2 cc2 cf2 A2;go_wp2_with fail
     go_region
     have o4:=own_slot KO2.out i hil x;simp only [Nat.zero_add] at o4;have P4:=LH (HI.out.put_next KP.out hlt HX.out (by omega) KL.out);have O4:=LH o4;have hgw:g≠w.heap.size:=by omega
     have k4:=(Below.heap_setCell _ ⟨w.heap.size,i*2+1,none⟩ (.int .i64 x.2) g hgw).trans ((Below.heap_setCell w2 ⟨w.heap.size,i*2,none⟩ (.int .i64 x.1) g hgw).trans KG2.out);have K4:=LH k4;clear o4 k4;go_wp2_with fail;go_roundw
     case rel=>exact⟨k+1,_,by omega,by go_num,K4.out,O4.out,P4.out,((T2.out.setCell (.inr (Nat.le_refl _)) _).setCell (.inr (Nat.le_refl _)) _).drew⟩
     case measure=>simp [intOf];omega
    ·go_wp2_with fail
     go_roundw
     case rel=>exact⟨k+1,S',by omega,by go_num,(bB KG.out ((Below.refl wr.heap.size wr).alloc (Nat.le_refl _) _)),KO.out.alloc _,by
      rw [take_filter_succ hlt x HX.out,if_pos (by have:=HI.out.nonneg HX.out;omega),List.append_nil];exact KP.out,hTr.alloc _⟩
     case measure=>simp [intOf];omega
   ·obtain rfl:k=S.length:=by omega
    rw [List.take_length] at KP;go_wp2_with fail
    go_end0
    have hl:S'.length=2^ (b+1):=KP.out.len;exact⟨w.heap.size,0,2^ (b+1),S',rfl,by rw [hl];exact KG.out,Nat.le_refl _,by rw [hl];exact KO.out.base_le (Nat.zero_le _),KP.out.perm' HI.out.perm,hTr⟩
theorem perm_turn {b i:Nat} {S r:List Nd} {id c:Int} (hr:Roll r) (h:PInv b S r) (hi:S[i]? =some (id,getR r id)) (h0:getR r id≠0) (hc:1≤getR r id+c) :PInv b (S.set i (id,getR r id+c)) (addR r id c):=by
 obtain⟨t,h1,h2⟩:=addR_perm_old (c:=c) hr h0;exact(h.turn hi h0 hc h1).perm' h2.symm
theorem perm_put {b i d:Nat} {S r:List Nd} {id c:Int} (hr:Roll r) (h:PInv b S r) (hl:LookAt S b id i d) (h0:getR r id=0) (hc:1≤c) :PInv b (S.set i (id,c)) (addR r id c):=by
 refine(h.put hl (fun x hx he=> ?_) hc).perm' (addR_perm_new hr h0).symm;have:=mem_getR h.ids hx;rw [he,h0] at this;have:=h.pos x hx;omega
theorem probe_stored_old {w:World} {g l b sb off cap i:Nat} {r r' S:List Nd} {id v m a:Int} {v3:Value} (hh:w.heap[g]? =some (.cells #[.int .i64 l,.int .i64 b,.int .i64 r.length,v3,.slice (some ⟨sb,off,none⟩) S.length cap] 221 (0,0)))
 (ho:Own w 0 172 encN (.slice (some ⟨sb,off,none⟩) S.length cap) S) (hi:S[i]? =some (id,v)) (hI:PInv b (S.set i (id,a)) r') (h3:3≤b) (h34:b≤34) (hfree:2*r'.length≤2^b) (hu:r'.length=r.length) (hm:sumR r'=m) :
 ProbeAt ((w.setCell ⟨sb,off+i*2+1,none⟩ (.int .i64 a)).setCell ⟨g,3,none⟩ (.int .i64 m)) g l r' (foot2 g (.slice (some ⟨sb,off,none⟩) S.length cap)):=by
 have hlt:=(List.getElem?_eq_some_iff.1 hi).1;have hne:=ho.ne_block hh (by decide);have hgb:g≠sb:=fun he=>hne (by rw [he];rfl);have he:S[i] = (id,v):=(List.getElem?_eq_some_iff.1 hi).2;have o2:=ho.setElem i 1 hlt (by decide) (.int .i64 a) (id,a) (by rw [he];rfl);have k2: (w.setCell ⟨sb,off+i*2+1,none⟩ (.int .i64 a)).heap[g]? =_:=(Below.heap_setCell _ _ _ _ hgb).trans hh;have k3:=zH (i:=3) k2 (.int .i64 m);have o3:=o2.setCell (p:=⟨g,3,none⟩) (o2.ne_block k2 (by decide)) (.int .i64 m);subst hm;exact⟨_,S.set i (id,a),b,by rw [k3,hu];rfl,o3,hI,h3,h34,hfree,rfl⟩
theorem probe_stored_new {w:World} {g l b sb off cap i u n:Nat} {r' S:List Nd} {id c m:Int} {v3:Value} (hh:w.heap[g]? =some (.cells #[.int .i64 l,.int .i64 b,.int .i64 u,v3,.slice (some ⟨sb,off,none⟩) n cap] 221 (0,0)))
 (ho:Own w 0 172 encN (.slice (some ⟨sb,off,none⟩) n cap) S) (hi:i<S.length) (hI:PInv b (S.set i (id,c)) r') (h3:3≤b) (h34:b≤34) (hfree:2*r'.length≤2^b) (hu:r'.length=u) (hm:sumR r'=m) :
 ProbeAt (((w.setCell ⟨sb,off+i*2,none⟩ (.int .i64 id)).setCell ⟨sb,off+i*2+1,none⟩ (.int .i64 c)).setCell ⟨g,3,none⟩ (.int .i64 m)) g l r' (foot2 g (.slice (some ⟨sb,off,none⟩) n cap)):=by
 have hne:=ho.ne_block hh (by decide);have hgb:g≠sb:=fun he=>hne (by rw [he];rfl);have o2:=own_slot ho i hi (id,c);have k1: (w.setCell ⟨sb,off+i*2,none⟩ (.int .i64 id)).heap[g]? =_:=(Below.heap_setCell _ _ _ _ hgb).trans hh;have k2: ((w.setCell ⟨sb,off+i*2,none⟩ (.int .i64 id)).setCell ⟨sb,off+i*2+1,none⟩ (.int .i64 c)).heap[g]? =_:=(Below.heap_setCell _ _ _ _ hgb).trans k1;have k3:=zH (i:=3) k2 (.int .i64 m);have o3:=o2.setCell (p:=⟨g,3,none⟩) (o2.ne_block k2 (by decide)) (.int .i64 m);subst hm hu;exact⟨_,S.set i (id,c),b,by rw [k3];rfl,o3,hI,h3,h34,hfree,rfl⟩
def AddPost (w:World) (g l:Nat) (r:List Nd) (F:Nat→Prop) (e:Ending) (w':World) :Prop:=∃F',e=.returned (.int .i64 0)∧ProbeAt w' g l r F'∧Turn F w w'∧Grow w F F'
theorem probe_Add_old (w:World) (g l:Nat) (r:List Nd) (F:Nat→Prop) (h:ProbeAt w g l r F) (hf:Fits l r) (h1:1≤l) (h2:l≤48) (k:Nat) (hk1:1≤k) (hk2:k<2*2^l) (c:Int) (hc:0<c) (hsum:sumR r+c≤72057594037927935) (h0:0<getR r k) :
 Calls Tryz.prog 216 #[.pointer (some ⟨g,0,none⟩),.int .i64 k,.int .i64 c] w (AddPost w g l (addR r k c) F):=by
 have HN:=LH (isNode_of h1 (by omega) hk1 hk2);have hs0:=sumR_nonneg hf.roll;have hlen:=len_le_sum hf.roll;have hgs:=getR_le_sum hf.roll k;have HA:=LH (show addOf (sumR r) c= (sumR r+c,true) by simp only [addOf];rw [if_pos (by omega)])
 have hkb: (k:Int)≤562949953421312:=by have:=pow_48 h2;have h3: (k:Int) <2*2^l:=by exact_mod_cast hk2
                                       omega
 obtain⟨v,S,b,hh,ho,hI,hq3,hq34,hfree,rfl⟩:=h;obtain⟨sb,off,cap,rfl,hcap⟩:=own_at0 ho (by rw [hI.len];exact Nat.two_pow_pos b);have hm:r.length<2^b:=by have:=Nat.two_pow_pos b;omega
 have hl:=hI.len;have hSl:S.length≤34359738368:=by rw [hl];have:=Nat.pow_le_pow_right (n:=2) (by decide) (show b≤35 by omega);simpa using this
 have cc:=bC hh;have cf:=bF hh;have zg:=lB hh;have zb:=(ho.lt _ rfl).2;have hnb:g≠sb:=fun he=>ho.ne_block hh (by decide) (by rw [he];rfl);have H:=LH hh;have HO:=LH ho;have HI:=LH hI;have HF:=LH (And.intro hm (And.intro hfree hl));clear hh ho hI hfree hl hm
 go_enter Tryz.func216,Tryz.ntmps216
 go_wp2_with fail;refine(probe_right _ g l _ k H.out rfl).mono ?_;rintro e w1 ⟨rfl,hb1⟩;have B1:Below w.heap.size w w1:=Below.then_ bE hb1;have s1:=B1.size;rw [HN.out];have k1:=bB H.out hb1;have o1:=HO.out.below hb1;have cc1:=bC k1;have cf1:=bF k1;have K1:=LH k1;have O1:=LH o1;clear cc cf k1 o1;go_wp2_with fail;refine(reckon_Add _ (sumR r) c (by omega) (by omega)).mono ?_;rintro e w2 ⟨rfl,hb2⟩;have B2:Below w.heap.size w w2:=Below.then_ bE hb2;have s2:=B2.size;rw [HA.out];unfold okV;have k2:=bB K1.out hb2;have o2:=O1.out.below hb2;have cc2:=bC k2;have K2:=LH k2;have O2:=LH o2;clear cc1 cf1 k2 o2;go_wp2_with fail;refine(probe_look _ g b sb off _ cap _ _ _ S r k K2.out O2.out HI.out HF.out.1 hq3 (by omega) (by omega) hkb).mono ?_;rintro e w3 ⟨i,d,rfl,hL,hb3⟩;have B3:Below w.heap.size w w3:=Below.then_ bE hb3;have s3:=B3.size;have k3:=bB K2.out hb3;have o3:=O2.out.below hb3;have cc3:=bC k3;have cf3:=bF k3;have hil:i<S.length:=by rw [HF.out.2.2];exact hL.i_lt
 have hx:=hL.hit HI.out (by omega);have d0:=o3.slT.cell_at hil 0 (.int .i64 S[i].1) rfl;have d1:=o3.slT.cell_at hil 1 (.int .i64 S[i].2) rfl;rw [List.getElem?_eq_getElem hil] at hx
 injection hx with hx
 rw [hx] at d0 d1;simp only [Nat.add_zero] at d0 d1;have fb:=o3.frozen;have zg3:=lB k3;have zb3:=(o3.lt _ rfl).2;have K3:=LH k3;have O3:=LH o3;have HX:=LH (show S[i]? =some ((k:Int),getR r k) by rw [←hx];exact List.getElem?_eq_getElem hil);have T3:Turn (foot2 g (.slice (some ⟨sb,off,none⟩) S.length cap)) w w3:=.of_below B3;clear hL hx cc2 k3 o3 hb3;have hil2: (i:Int) < (S.length:Int):=by omega
 go_wp2_with fail;go_ret;refine⟨_,rfl,?_,?_,Grow.refl⟩
 ·exact probe_stored_old (r':=addR r k c) K3.out O3.out HX.out (perm_turn hf.roll HI.out HX.out (by omega) (by omega)) hq3 hq34 (by rw [len_add hf.roll,if_neg (by omega)];exact HF.out.2.1) (by rw [len_add hf.roll,if_neg (by omega)]) (sumR_add r k c)
 ·refine Turn.setCell (Turn.setCell T3 ?_ _) ?_ _
  ·exact .inl (.inr rfl)
  ·exact .inl (.inl rfl)
theorem probe_Add_new (w:World) (g l:Nat) (r:List Nd) (F:Nat→Prop) (h:ProbeAt w g l r F) (hf:Fits l r) (h1:1≤l) (h2:l≤48) (k:Nat) (hk1:1≤k) (hk2:k<2*2^l) (c:Int) (hc:0<c) (hsum:sumR r+c≤72057594037927935) (h0:getR r k=0) (hr30:r.length<1073741824) :
 Calls Tryz.prog 216 #[.pointer (some ⟨g,0,none⟩),.int .i64 k,.int .i64 c] w (AddPost w g l (addR r k c) F):=by
 have HN:=LH (isNode_of h1 (by omega) hk1 hk2);have hs0:=sumR_nonneg hf.roll;have hlen:=len_le_sum hf.roll;have hgs:=getR_le_sum hf.roll k;have HA:=LH (show addOf (sumR r) c= (sumR r+c,true) by simp only [addOf];rw [if_pos (by omega)])
 have hkb: (k:Int)≤562949953421312:=by have:=pow_48 h2;have h3: (k:Int) <2*2^l:=by exact_mod_cast hk2
                                       omega
 obtain⟨v,S,b,hh,ho,hI,hq3,hq34,hfree,rfl⟩:=h;obtain⟨sb,off,cap,rfl,hcap⟩:=own_at0 ho (by rw [hI.len];exact Nat.two_pow_pos b);have hm:r.length<2^b:=by have:=Nat.two_pow_pos b;omega
 have hl:=hI.len;have hSl:S.length≤34359738368:=by rw [hl];have:=Nat.pow_le_pow_right (n:=2) (by decide) (show b≤35 by omega);simpa using this
 have cc:=bC hh;have cf:=bF hh;have zg:=lB hh;have zb:=(ho.lt _ rfl).2;have hnb:g≠sb:=fun he=>ho.ne_block hh (by decide) (by rw [he];rfl);have H:=LH hh;have HO:=LH ho;have HI:=LH hI;have HF:=LH (And.intro hm (And.intro hfree hl));clear hh ho hI hfree hl hm
 go_enter Tryz.func216,Tryz.ntmps216
 go_wp2_with fail;refine(probe_right _ g l _ k H.out rfl).mono ?_;rintro e w1 ⟨rfl,hb1⟩;have B1:Below w.heap.size w w1:=Below.then_ bE hb1;have s1:=B1.size;rw [HN.out];have k1:=bB H.out hb1;have o1:=HO.out.below hb1;have cc1:=bC k1;have cf1:=bF k1;have K1:=LH k1;have O1:=LH o1;clear cc cf k1 o1;go_wp2_with fail;refine(reckon_Add _ (sumR r) c (by omega) (by omega)).mono ?_;rintro e w2 ⟨rfl,hb2⟩;have B2:Below w.heap.size w w2:=Below.then_ bE hb2;have s2:=B2.size;rw [HA.out];unfold okV;have k2:=bB K1.out hb2;have o2:=O1.out.below hb2;have cc2:=bC k2;have K2:=LH k2;have O2:=LH o2;clear cc1 cf1 k2 o2;go_wp2_with fail;refine(probe_look _ g b sb off _ cap _ _ _ S r k K2.out O2.out HI.out HF.out.1 hq3 (by omega) (by omega) hkb).mono ?_;rintro e w3 ⟨i,d,rfl,hL,hb3⟩;have B3:Below w.heap.size w w3:=Below.then_ bE hb3;have s3:=B3.size;have k3:=bB K2.out hb3;have o3:=O2.out.below hb3;have cc3:=bC k3;have cf3:=bF k3;have hil:i<S.length:=by rw [HF.out.2.2];exact hL.i_lt
 obtain⟨x,hx,hx0⟩:=hL.miss HI.out h0;have d1:=o3.slT.cell_at hil 1 (.int .i64 S[i].2) rfl;rw [List.getElem?_eq_getElem hil] at hx
 injection hx with hx
 rw [hx,hx0] at d1;have fb:=o3.frozen;have zg3:=lB k3;have zb3:=(o3.lt _ rfl).2;have K3:=LH k3;have O3:=LH o3;have HL:=LH hL;have HE:=LH (len_add hf.roll (k:Int) c);have H0:=LH h0;have T3:Turn (foot2 g (.slice (some ⟨sb,off,none⟩) S.length cap)) w w3:=.of_below B3;have HX:=LH (And.intro hx hx0);clear hL hx hx0 cc2 k3 o3 hb3 h0 hgs;have hil2: (i:Int) < (S.length:Int):=by omega
 have k4:=zH (i:=2) K3.out (.int .i64 ((r.length:Int) +1));have o4:=O3.out.setCell (p:=⟨g,2,none⟩) (O3.out.ne_block K3.out (by decide)) (.int .i64 ((r.length:Int) +1));have T4:=T3.setCell (p:=⟨g,2,none⟩) (.inl (.inl rfl)) (.int .i64 ((r.length:Int) +1));have K4:=LH k4;have O4:=LH o4;clear k4 o4;go_wp2_with fail;refine rX (by kernel_rfl) (by kernel_rfl) ?_
 repeat (go_big_quiet_step (fail))
 refine wpQuiet_nil ?_;intro w5 hb5;replace hb5:=bX hb5;have k5:=bB K4.out hb5;have o5:=O4.out.below hb5;have T5:=T4.more hb5;have cc5:=bC k5;have cf5:=bF k5;have fb5:=o5.frozen;have zg5:=lB k5;have zb5:=(o5.lt _ rfl).2;have K5:=LH k5;have O5:=LH o5;clear cc3 cf3 fb zg3 zb3 d1 T3 T4 k5 o5 hb5;by_cases hw:2* ((r.length:Int) +1) >S.length
 ·have hw': (S.length:Int) <2* ((r.length:Int) +1):=hw
  have hb31:b≤31:=by
   apply Classical.byContradiction
   intro hn;have h1:=Nat.pow_le_pow_right (n:=2) (by decide) (show 32≤b by omega);have h2:=HF.out.2.2;omega
  have HW:=LH hw';have hK5:w5.heap[g]? =some (.cells #[.int .i64 l,.int .i64 b,.int .i64 (r.length+1:Nat),.int .i64 (sumR r),.slice (some ⟨sb,off,none⟩) S.length cap] 221 (0,0)):=K5.out;have HK5:=LH hK5;clear hK5;go_wp2_with fail;refine(probe_widen _ g b sb off cap _ _ _ S r HK5.out O5.out HI.out hq3 hq34 (fun y hy=>⟨(hf.roll.2 y hy).1,by have h1:=hf.lt y hy;have:=pow_48 h2;omega⟩)).mono ?_;rintro e w6 ⟨sb',off',cap',S',rfl,k6,hsb',o6,hI6,T6⟩;have z6:=T6.size;have z5:=T5.size;have HZ:w.heap.size≤sb':=Nat.le_trans z5 hsb';have T6':=T5.trans T6 (fun q hq=>.inl (by subst hq;exact .inl rfl));have cc6:=bC k6;have K6:=LH k6;have O6:=LH o6;have HI6:=LH hI6;clear cc5 cf5 fb5 zb5 k6 o6 hI6;go_wp2_with fail;refine(probe_look _ g (b+1) sb' off' _ cap' _ _ _ S' r k K6.out O6.out HI6.out (by have:=HF.out.1;rw [Nat.pow_succ];omega) (by omega) (by omega) (by omega) hkb).mono ?_;rintro e w7 ⟨i',d',rfl,hL7,hb7⟩;have k7:=bB K6.out hb7;have o7:=O6.out.below hb7;have T7:=T6'.more hb7;have hil7:i'<S'.length:=by rw [HI6.out.len];exact hL7.i_lt
  obtain⟨x7,hx7,hx70⟩:=hL7.miss HI6.out H0.out;rw [List.getElem?_eq_getElem hil7] at hx7
  injection hx7 with hx7
  have d6:=o7.slT.cell_at hil7 0 (.int .i64 S'[i'].1) rfl;have d7:=o7.slT.cell_at hil7 1 (.int .i64 S'[i'].2) rfl;rw [hx7] at d6 d7;rw [hx70] at d7;simp only [Nat.add_zero] at d6 d7;have cc7:=bC k7;have cf7:=bF k7;have fb7:=o7.frozen;have zg7:=lB k7;have zb7:=(o7.lt _ rfl).2;have K7:=LH k7;have O7:=LH o7;have HL7:=LH hL7;have hil72: (i':Int) < (S'.length:Int):=by omega
  have hS7:S'.length≤34359738368:=by rw [HI6.out.len];have:=Nat.pow_le_pow_right (n:=2) (by decide) (show b+1≤35 by omega);simpa using this
  clear cc6 k7 o7 hb7 hL7 hx7 hx70;have hg6:g≠sb':=by omega
  have hg7:sb'≠g:=by omega
  go_wp2_with fail;go_ret;have hp:=Nat.two_pow_pos b;have hfr:=HF.out.2.1;refine⟨foot2 g (.slice (some ⟨sb',off',none⟩) S'.length cap'),rfl,?_,?_,?_⟩
  ·exact probe_stored_new (r':=addR r k c) K7.out O7.out hil7 (perm_put hf.roll HI6.out HL7.out H0.out (by omega)) (by omega) (by omega) (by rw [len_add hf.roll,if_pos H0.out,Nat.pow_succ];omega) (by rw [len_add hf.roll,if_pos H0.out]) (sumR_add r k c)
  ·refine Turn.setCell (Turn.setCell (Turn.setCell T7 ?_ _) ?_ _) ?_ _
   ·exact .inr HZ
   ·exact .inr HZ
   ·exact .inl (.inl rfl)
  ·rintro q (rfl|hq)
   ·exact .inl (.inl rfl)
   ·cases hq;exact .inr HZ
 ·have d6:=O5.out.slT.cell_at hil 0 (.int .i64 S[i].1) rfl
  have d7:=O5.out.slT.cell_at hil 1 (.int .i64 S[i].2) rfl;rw [HX.out.1] at d6 d7;rw [HX.out.2] at d7;simp only [Nat.add_zero] at d6 d7;go_wp2_with fail;go_ret;refine⟨_,rfl,?_,?_,Grow.refl⟩
  ·exact probe_stored_new (r':=addR r k c) K5.out O5.out hil (perm_put hf.roll HI.out HL.out H0.out (by omega)) hq3 hq34 (by rw [len_add hf.roll,if_pos H0.out];have:=HF.out.2.2;omega) (by rw [len_add hf.roll,if_pos H0.out]) (sumR_add r k c)
  ·refine Turn.setCell (Turn.setCell (Turn.setCell T5 ?_ _) ?_ _) ?_ _
   ·exact .inl (.inr rfl)
   ·exact .inl (.inr rfl)
   ·exact .inl (.inl rfl)
section
attribute [local go_sem ↓] Go.wp_at_zero Go.wp_at_succ
def leN (a b:Nd) :Bool:= !decide (b.1<a.1)
def msort (l:List Nd) :List Nd:=if h:l.length<2 then l else List.merge (msort (l.take (l.length / 2))) (msort (l.drop (l.length / 2))) leN
termination_by l.length
decreasing_by
 ·simp;omega
 ·simp;omega
theorem msort_perm (l:List Nd) : (msort l).Perm l:=by
 induction hn:l.length using Nat.strongRecOn generalizing l with
 |_ n ih=>
  rw [msort]
  split
  ·exact .refl _
  ·rename_i h
   refine(List.merge_perm_append leN).trans (((ih _ ?_ _ rfl).append (ih _ ?_ _ rfl)).trans ?_)
   ·simp;omega
   ·simp;omega
   ·rw [List.take_append_drop]
theorem msort_sorted (l:List Nd) : (msort l).Pairwise fun a b=>a.1≤b.1:=by
 induction hn:l.length using Nat.strongRecOn generalizing l with
 |_ n ih=>
  rw [msort]
  split
  ·rename_i h
   rcases l with _| ⟨x,_| ⟨y,l⟩⟩
   ·exact .nil
   ·exact List.pairwise_singleton _ _
   ·simp at h;omega
  ·rename_i h
   have h1:=ih _ (by simp;omega) (l.take (l.length / 2)) rfl;have h2:=ih _ (by simp;omega) (l.drop (l.length / 2)) rfl;have:=List.pairwise_merge (le:=leN) (fun a b c h1 h2=>by simp [leN] at*;omega) (fun a b=>by simp [leN];omega) _ _ (h1.imp fun {a b} h=>show leN a b=true by simpa [leN] using h) (h2.imp fun {a b} h=>show leN a b=true by simpa [leN] using h);exact this.imp fun h=>by simpa [leN] using h
theorem msort_len (l:List Nd) : (msort l).length=l.length:=(msort_perm l).length_eq
theorem msort_roll {l r:List Nd} (h:l.Perm r) (hr:Roll r) :msort l=r:=by
 refine((msort_perm l).trans h).eq_of_pairwise (le:=fun a b:Nd=>a.1≤b.1) ?_ (msort_sorted l) (hr.1.imp fun h=>by omega);intro a b ha hb h1 h2;have ha':a∈r:=((msort_perm l).trans h).mem_iff.1 ha;have e1:a.1=b.1:=by omega
 have:=getR_mem hr ha';have:=getR_mem hr hb;exact Prod.ext e1 (by rw [e1] at*;omega)
theorem roll_ahead (w:World) (x y:Nd) :Calls Tryz.prog 271 #[.agg #[.int .i64 x.1,.int .i64 x.2],.agg #[.int .i64 y.1,.int .i64 y.2]] w fun e w'=>e=.returned (.bool (decide (x.1<y.1)))∧Below w.heap.size w w':=by
 go_enter Tryz.func271,Tryz.ntmps271
 go_wp2_with fail;go_ret;exact⟨rfl,bE⟩
def OwnPost {α:Type} {size:Nat} (e:TypeId) (E:Enc α size) (l:List α) (w:World) (en:Ending) (w':World) :Prop:=∃v,en=.returned v∧Own w' w.heap.size e E v l∧Below w.heap.size w w'
@[go_sem] theorem run_eqN_nil (w:World) (A:Option Addr) (n c:Nat) : (binOp .eql 169 (.slice A n c) (.slice none 0 0)).run Tryz.prog w=.ok (.bool A.isNone) w:=Lib.run_eql_slice_nil w _ 172 A n c 0 0 Tryz.underlying169
theorem clone_N (w:World) (A:Option Addr) (cap:Nat) (l:List Nd) (hS:Sl w w.heap.size encN A l) (hn:l.length≤67108864) :
 Calls Tryz.prog 166 #[.slice A l.length cap] w (OwnPost 172 encN l w):=by
 rcases A with _|a
 ·have h0:l= []:=by
   rcases hS with h| ⟨b,off,hA,_⟩
   ·exact h
   ·cases hA
  subst h0
  go_enter Tryz.func166,Tryz.ntmps166
  go_wp2_with fail;go_ret;exact⟨_,rfl,Own.nil _ _ _ _,bE⟩
 ·have HS:=LH hS
  clear hS
  go_enter Tryz.func166,Tryz.ntmps166
  go_wp2_with ((at_builtin;refine wpList_app tyN rfl _ _ rfl encN w.heap.size (.slice (some ⟨w.heap.size,0,none⟩) 0 0) [] rfl ?ho (some a) cap l w.heap.size rfl ?hs ?c1 ?c2 ?c3 ?c4))
  case ho=>exact .inr ⟨w.heap.size,0,0, #[],rfl,Nat.le_refl _,heap_alloc_new w _,Nat.le_refl _,by simp,by simp,fun j u hj=>by simp at hj⟩
  case hs=>exact HS.out.keep (Nat.le_refl _) fun p hp=>((Below.refl w.heap.size w).alloc (Nat.le_refl _) _).cell hp
  case c1=>simp;omega
  case c2=>simp [maxLen];omega
  case c3=>simp
  case c4=>
   intro v' w1 ho1 _ _ hb1 _;have B1:Below w.heap.size w w1:=((Below.refl w.heap.size w).alloc (Nat.le_refl _) _).trans hb1;have HO1:=LH (show Own w1 w.heap.size 172 encN v' l by simpa using ho1);clear ho1;go_wp2_with fail;go_ret;exact⟨_,rfl,HO1.out,B1⟩
def Rd {α:Type} {size:Nat} (w:World) (E:Enc α size) (v:Value) (l:List α) :Prop:=∃A cap,v=.slice A l.length cap∧l.length≤cap∧cap≤maxLen∧Sl w w.heap.size E A l
section
variable {α:Type} {size base e:Nat} {w w':World} {E:Enc α size} {v:Value} {l:List α}
theorem Own.rd (h:Own w base e E v l) :Rd w E v l:=by
 obtain⟨A,cap,hv,h1,h2,h3,_⟩:=h.form;exact⟨A,cap,hv,h1,h2,h3⟩
end
def lenV:Value→Nat
 | .slice _ n _=>n
 |_=>0
def RdB {α:Type} {size:Nat} (w:World) (B:Nat) (E:Enc α size) (v:Value) (l:List α) :Prop:=∃A cap,v=.slice A l.length cap∧l.length≤cap∧cap≤maxLen∧Sl w B E A l
theorem RdB.below {α:Type} {size B:Nat} {w w':World} {E:Enc α size} {v:Value} {l:List α} (h:RdB w B E v l) (hb:Below B w w') :RdB w' B E v l:=by
 obtain⟨A,cap,hv,h1,h2,h3⟩:=h;exact⟨A,cap,hv,h1,h2,h3.below hb⟩
theorem RdB.cons {B:Nat} {w:World} {v:Value} {x:Nd} {l:List Nd} (h:RdB w B encN v (x :: l)) : ∃b off cap,v=.slice (some ⟨b,off,none⟩) (l.length+1) cap∧l.length+1≤cap∧cap≤maxLen∧b<B∧
 w.cell? ⟨b,off,none⟩ =some (.int .i64 x.1)∧w.cell? ⟨b,off+1,none⟩ =some (.int .i64 x.2)∧(cap≠1→RdB w B encN (.slice (some ⟨b,off+2,none⟩) l.length (cap - 1)) l)∧(cap=1→RdB w B encN (.slice (some ⟨b,off,none⟩) 0 0) l∧l= []):=by
 obtain⟨A,cap,rfl,h1,h2,h3⟩:=h;rcases h3 with h3| ⟨b,off,rfl,hb,hc⟩
 ·cases h3
 ·have c0:=hc 0 x rfl 0 _ rfl
  have c1:=hc 0 x rfl 1 _ rfl;simp only [Nat.zero_mul,Nat.add_zero] at c0 c1;simp only [List.length_cons] at h1;refine⟨b,off,cap,rfl,h1,h2,hb,c0,c1,fun hne=>⟨_,_,rfl,by omega,by omega,?_⟩,fun he=> ?_⟩
  ·have:=Sl.drop (k:=1) (show Sl w B encN (some ⟨b,off,none⟩) (x :: l) from .inr ⟨b,off,rfl,hb,hc⟩)
   simpa using this
  ·have:l= []:=List.eq_nil_of_length_eq_zero (by omega)
   subst this;exact⟨⟨_,_,rfl,by simp,by simp,.nil⟩,rfl⟩
def MergeInv (w2:World) (all:List Nd) (n:Nat) (a b o:Value) (wr:World) :Prop:=∃la lb lo,RdB wr w2.heap.size encN a la∧RdB wr w2.heap.size encN b lb∧Own wr w2.heap.size 172 encN o lo∧lo ++ List.merge la lb leN=all∧lo.length+ (la.length+lb.length) =n∧Below w2.heap.size w2 wr
theorem merge_cons (x y:Nd) (l r:List Nd) :List.merge (x :: l) (y :: r) leN=if y.1<x.1 then y :: List.merge (x :: l) r leN else x :: List.merge l (y :: r) leN:=by
 rw [List.merge];by_cases h:y.1<x.1
 ·simp [leN,h]
 ·simp [leN,h]
theorem roll_sorted (n:Nat) : ∀(w:World) (A:Option Addr) (cap:Nat) (l:List Nd),Sl w w.heap.size encN A l→l.length≤cap→cap≤maxLen→l.length≤n→n≤67108864→
 Calls Tryz.prog 270 #[.slice A l.length cap,.func (.func 271) #[] #[]] w (OwnPost 172 encN (msort l) w):=by
 induction n using Nat.strongRecOn with
 |_ n ih=>
  intro w A cap l hS hc hcm hl hn;by_cases h2:l.length<2
  ·have h2': (l.length:Int) <2:=by omega
   have e1:msort l=l:=by rw [msort,dif_pos h2]
   rw [e1];have HC:=LH (clone_N · A cap l · (by omega));have HS:=LH hS;clear e1 hS ih
   go_enter Tryz.func270,Tryz.ntmps270
   go_wp2_with fail;refine(HC.out _ HS.out).mono ?_;rintro e w1 ⟨v,rfl,ho,hb⟩;go_wp2_with fail;go_ret;exact⟨_,rfl,ho,hb⟩
  ·have h2': ¬(l.length:Int) <2:=by omega
   have e1:msort l=List.merge (msort (l.take (l.length / 2))) (msort (l.drop (l.length / 2))) leN:=by conv=>lhs;rw [msort,dif_neg h2]
   rw [e1]
   obtain⟨b,off,rfl,hb,hcl⟩ : ∃b off,A=some ⟨b,off,none⟩∧b<w.heap.size∧True:=by
    rcases hS with h| ⟨b,off,hA,hb,_⟩
    ·subst h;simp at h2
    ·exact⟨b,off,hA,hb,trivial⟩
   have HS:=LH hS;have q1: (0:Int)≤(l.length:Int) / 2:=by omega
   have q2: (l.length:Int) / 2≤(cap:Int):=by omega
   have q3: (l.length:Int) / 2≤(l.length:Int):=by omega
   have q4: ((l.length:Int) / 2).toNat=l.length / 2:=by omega
   have l1: (l.take (l.length / 2)).length=l.length / 2:=by simp;omega
   have l2: (l.drop (l.length / 2)).length=l.length - l.length / 2:=by simp
   have HA:Hid (∀W:World,Sl W W.heap.size encN (some ⟨b,off,none⟩) (l.take (l.length / 2))→Calls Tryz.prog 270 #[.slice (some ⟨b,off,none⟩) (l.length / 2) cap,.func (.func 271) #[] #[]] W (OwnPost 172 encN (msort (l.take (l.length / 2))) W)):=
    LH fun W hW=>by have:=ih (l.length / 2) (by omega) W _ cap _ hW (by omega) hcm (by omega) (by omega);rwa [l1] at this
   have HB:Hid (∀W:World,Sl W W.heap.size encN (some ⟨b,off+l.length / 2*2,none⟩) (l.drop (l.length / 2))→Calls Tryz.prog 270 #[.slice (some ⟨b,off+l.length / 2*2,none⟩) (l.length - l.length / 2) (cap - l.length / 2),.func (.func 271) #[] #[]] W (OwnPost 172 encN (msort (l.drop (l.length / 2))) W)):=
    LH fun W hW=>by have:=ih (l.length - l.length / 2) (by omega) W _ (cap - l.length / 2) _ hW (by omega) (by omega) (by omega) (by omega);rwa [l2] at this
   have SA:Hid (Sl w.drew w.drew.heap.size encN (some ⟨b,off,none⟩) (l.take (l.length / 2))):=LH (hS.take (l.length / 2));have SB:Hid (Sl w.drew w.drew.heap.size encN (some ⟨b,off+l.length / 2*2,none⟩) (l.drop (l.length / 2))):=LH (hS.drop (l.length / 2));have hml:=msort_len (l.take (l.length / 2));have hml2:=msort_len (l.drop (l.length / 2));obtain⟨la,hla⟩ : ∃la,la=msort (l.take (l.length / 2)):=⟨_,rfl⟩;obtain⟨lb,hlb⟩ : ∃lb,lb=msort (l.drop (l.length / 2)):=⟨_,rfl⟩;rw [←hla] at HA⊢hml;rw [←hlb] at HB⊢hml2;have hab:la.length+lb.length=l.length:=by omega
   clear e1 hS hcl ih l1 l2 hla hlb hml hml2
   go_enter Tryz.func270,Tryz.ntmps270
   go_wp2_with fail
   go_region_held3 (fun w'=>True) (trivial)
    (first
      | ((with_reducible refine(HA.out _ SA.out).mono ?_)
         rintro e w1 ⟨va,rfl,oa,b1⟩;have OA:=LH oa;have B1:=LH b1;clear oa b1)
      | ((with_reducible refine(HB.out _ (SB.out.keep B1.out.size fun p hp=>B1.out.cell hp)).mono ?_)
         rintro e w2 ⟨vb,rfl,ob,b2⟩;have OB:=LH ob;have B2:=LH b2;clear ob b2))
   have HM:Hid (MergeInv w2 (List.merge la lb leN) l.length va vb (.slice none 0 0) w2):=⟨la,lb, [],by
    obtain⟨A,cap,hv,h1,h2,h3,_⟩:=(OA.out.below B2.out).form;exact⟨A,cap,hv,h1,h2,h3⟩,by
    obtain⟨A,cap,hv,h1,h2,h3,_⟩:=OB.out.form;exact⟨A,cap,hv,h1,h2,h3⟩,Own.nil _ _ _ _,rfl,by simp;omega,Below.refl _ _⟩
   have HB2:Hid (Below w.heap.size w w2):=(Below.refl w.heap.size w).drew.trans (B1.out.trans (B2.out.mono B1.out.size));clear HA HB SA SB OA OB B1 B2;go_wp2_with fail
   go_loopw [6,7,8] (fun a b o wr=>MergeInv w2 (List.merge la lb leN) l.length a b o wr) (fun a b _ _=>lenV a+lenV b)
   case atStart=>exact HM.out
   case round=>
    obtain⟨la',lb',lo,ra,rb,ho,hall,hlen,hB⟩:=hrel;have HB:=LH hB;have HO:=LH ho;have HE:=LH hall;clear hB ho hall;rcases la' with _| ⟨x,la'⟩
    ·obtain⟨A1,c1,rfl,a1,a2,a3⟩:=ra
     obtain⟨A2,c2,rfl,b1,b2,b3⟩:=rb;have HSA:=LH a3;have HSB:=LH b3;have s2:=HB.out.size;have zw:=HB2.out.size;have HLo:lo.length+ (([] :List Nd).length+lb'.length)≤67108864:=by omega
     have HF:=LH (show lo ++ ([] :List Nd) ++ lb'=List.merge la lb leN by rw [←HE.out];simp);clear a3 b3;go_wp2_with ((at_builtin;refine wpList_app tyN rfl _ _ rfl encN w2.heap.size u8 lo rfl HO.out A1 c1 (([] :List Nd)) w2.heap.size rfl HSA.out ?c1 ?c2 ?c3 ?c4))
     case c1=>omega
     case c2=>unfold maxLen;omega
     case c3=>exact s2
     case c4=>
      intro v4 w4 ho4 _ _ hb4;try intro _
      have O4:=LH ho4;have SB4:=LH (HSB.out.below hb4);have B4:=LH (HB.out.trans hb4);have s4:=B4.out.size;have HL4: (lo ++ ([] :List Nd)).length+lb'.length≤67108864:=by rw [List.length_append];omega
      clear ho4 hb4;go_wp2_with ((at_builtin;refine wpList_app tyN rfl _ _ rfl encN w2.heap.size v4 _ rfl O4.out A2 c2 (lb') w2.heap.size rfl SB4.out ?d1 ?d2 ?d3 ?d4))
      case d1=>omega
      case d2=>unfold maxLen;omega
      case d3=>exact s4
      case d4=>
       intro v5 w5 ho5 _ _ hb5;try intro _
       have ho5:Own w5 w2.heap.size 172 encN v5 (List.merge la lb leN):=by have:=HF.out;simp only [List.append_nil] at this ho5;rw [←this];exact ho5
       have O5:=LH ho5;have B5:=LH (B4.out.trans hb5);clear ho5 hb5;go_wp2_with fail;go_ret;exact⟨_,rfl,O5.out.base_le zw,HB2.out.trans (B5.out.mono zw)⟩
    ·rcases lb' with _| ⟨y,lb'⟩
     ·obtain⟨A1,c1,rfl,a1,a2,a3⟩:=ra
      obtain⟨A2,c2,rfl,b1,b2,b3⟩:=rb;have HSA:=LH a3;have HSB:=LH b3;have s2:=HB.out.size;have zw:=HB2.out.size;have HLo:lo.length+ ((x :: la').length+ ([] :List Nd).length)≤67108864:=by omega
      have HF:=LH (show lo ++ (x :: la') ++ ([] :List Nd) =List.merge la lb leN by rw [←HE.out];simp);clear a3 b3;have n1: (0:Int) < (((x :: la').length:Nat) :Int):=by simp only [List.length_cons];omega
      go_wp2_with ((at_builtin;refine wpList_app tyN rfl _ _ rfl encN w2.heap.size u8 lo rfl HO.out A1 c1 ((x :: la')) w2.heap.size rfl HSA.out ?c1 ?c2 ?c3 ?c4))
      case c1=>omega
      case c2=>unfold maxLen;omega
      case c3=>exact s2
      case c4=>
       intro v4 w4 ho4 _ _ hb4;try intro _
       have O4:=LH ho4;have SB4:=LH (HSB.out.below hb4);have B4:=LH (HB.out.trans hb4);have s4:=B4.out.size;have HL4: (lo ++ (x :: la')).length+ ([] :List Nd).length≤67108864:=by rw [List.length_append];omega
       clear ho4 hb4;go_wp2_with ((at_builtin;refine wpList_app tyN rfl _ _ rfl encN w2.heap.size v4 _ rfl O4.out A2 c2 (([] :List Nd)) w2.heap.size rfl SB4.out ?d1 ?d2 ?d3 ?d4))
       case d1=>omega
       case d2=>unfold maxLen;omega
       case d3=>exact s4
       case d4=>
        intro v5 w5 ho5 _ _ hb5;try intro _
        have ho5:Own w5 w2.heap.size 172 encN v5 (List.merge la lb leN):=by have:=HF.out;simp only [List.append_nil] at this ho5;rw [←this];exact ho5
        have O5:=LH ho5;have B5:=LH (B4.out.trans hb5);clear ho5 hb5;go_wp2_with fail;go_ret;exact⟨_,rfl,O5.out.base_le zw,HB2.out.trans (B5.out.mono zw)⟩
     ·obtain⟨ba,oa,ca,rfl,a1,a2,a3,a4,a5,a6,a7⟩:=ra.cons
      obtain⟨bb,ob,cb,rfl,b1,b2,b3,b4,b5,b6,b7⟩:=rb.cons;have HRA:=LH ra;have HRB:=LH rb;have HA6:=LH (And.intro a6 a7);have HB6:=LH (And.intro b6 b7);have n1: (0:Int) < ((la'.length+1:Nat) :Int):=by omega
      have n2: (0:Int) < ((lb'.length+1:Nat) :Int):=by omega
      have zb0:bb<wr.heap.size:=by have:=HB.out.size;omega
      have za0:ba<wr.heap.size:=by have:=HB.out.size;omega
      clear ra rb a6 a7 b6 b7;go_wp2_with fail;refine rX (by kernel_rfl) (by kernel_rfl) ?_
      repeat (go_big_quiet_step ((go_at_call 271;exact quiet_ext (roll_ahead _ y x))))
      refine wpQuiet_nil ?_;intro w3 hb3;replace hb3:=bX hb3;have s2:=HB.out.size;have s3:=hb3.size;have B3:Below w2.heap.size w2 w3:=HB.out.trans (hb3.mono s2);have O3:=LH (HO.out.below hb3);have e4:=(hb3.cell (p:=⟨bb,ob,none⟩) (by simp only;omega)).trans b4;have e5:=(hb3.cell (p:=⟨bb,ob+1,none⟩) (by simp only;omega)).trans b5;have d4:=(hb3.cell (p:=⟨ba,oa,none⟩) (by simp only;omega)).trans a4;have d5:=(hb3.cell (p:=⟨ba,oa+1,none⟩) (by simp only;omega)).trans a5;have zb:bb<w3.heap.size:=by omega
      have za:ba<w3.heap.size:=by omega
      have RA3:=LH (HRA.out.below (hb3.mono s2));have RB3:=LH (HRB.out.below (hb3.mono s2));have HLo:lo.length≤67108864:=by simp only [List.length_cons] at hlen;omega
      clear a4 a5 b4 b5 HRA HRB;have hBb3:Below w2.heap.size wr w3:=hb3.mono s2;have HM:=LH (merge_cons x y la' lb');by_cases hyx:y.1<x.1
      ·have hyx':decide (y.1<x.1) =true:=by simpa using hyx
       by_cases hcb:cb=1
       ·subst hcb
        have R0:=LH (HB6.out.2 rfl).1;have hnil:=(HB6.out.2 rfl).2;subst hnil;simp only [List.length_nil,Nat.zero_add];go_wp2_with fail
        go_region_held3 (fun w'=>w'.cell? ⟨bb,ob,none⟩ =some (.int .i64 y.1)∧w'.cell? ⟨bb,ob+1,none⟩ =some (.int .i64 y.2)) (first| (simp [*,go_sem];done))
         ((refine step_app tyN (by rfl) _ _ (by rfl) encN w2.heap.size _ _ (by rfl) (O3.out.alloc _).drew (some ⟨w3.heap.size,0,none⟩) 1 [y] _ (by rfl) (sl_lit w3 encN [y] _ w3.heap.size rfl).drew (by simp;omega) (by simp [maxLen];omega) (by simp;omega) ?_;intro v' w4 ho4 _ _ hb4 _;have c40:=(hb4.cell (p:=⟨bb,ob,none⟩) (by simp only;omega)).trans (by simp [go_sem,e4,zb] :_=some (Value.int .i64 y.1));have c41:=(hb4.cell (p:=⟨bb,ob+1,none⟩) (by simp only;omega)).trans (by simp [go_sem,e5,zb] :_=some (Value.int .i64 y.2))))
        have B4:Below w2.heap.size w3 w4:=((Below.refl w2.heap.size w3).alloc (by omega) _).drew.trans hb4;have O4:=LH ho4;have R4:=LH (R0.out.below (hBb3.trans B4));have Q4:=LH (RA3.out.below B4);have E4:=LH (B3.trans B4);clear ho4 hb4 c40 c41 B4;go_wp2_with fail;go_roundw
        case rel=>exact⟨_,_,_,Q4.out,R4.out,O4.out,by rw [←HE.out,HM.out,if_pos hyx,List.append_assoc];rfl,by simp only [List.length_append,List.length_cons,List.length_nil] at hlen⊢;omega,E4.out⟩
        case measure=>simp [lenV]
       ·have m1: (1:Int)≤((lb'.length:Int) +1):=by omega
        have m2: (1:Int)≤(cb:Int):=by omega
        have m3: ((lb'.length:Int) +1)≤(cb:Int):=by omega
        go_wp2_with fail
        go_region_held3 (fun w'=>w'.cell? ⟨bb,ob,none⟩ =some (.int .i64 y.1)∧w'.cell? ⟨bb,ob+1,none⟩ =some (.int .i64 y.2)) (first| (simp [*,go_sem];done))
         ((refine step_app tyN (by rfl) _ _ (by rfl) encN w2.heap.size _ _ (by rfl) (O3.out.alloc _).drew (some ⟨w3.heap.size,0,none⟩) 1 [y] _ (by rfl) (sl_lit w3 encN [y] _ w3.heap.size rfl).drew (by simp;omega) (by simp [maxLen];omega) (by simp;omega) ?_;intro v' w4 ho4 _ _ hb4 _;have c40:=(hb4.cell (p:=⟨bb,ob,none⟩) (by simp only;omega)).trans (by simp [go_sem,e4,zb] :_=some (Value.int .i64 y.1));have c41:=(hb4.cell (p:=⟨bb,ob+1,none⟩) (by simp only;omega)).trans (by simp [go_sem,e5,zb] :_=some (Value.int .i64 y.2))))
        have B4:Below w2.heap.size w3 w4:=((Below.refl w2.heap.size w3).alloc (by omega) _).drew.trans hb4;have O4:=LH ho4;have R4:=LH ((HB6.out.1 hcb).below (hBb3.trans B4));have Q4:=LH (RA3.out.below B4);have E4:=LH (B3.trans B4);clear ho4 hb4 c40 c41 B4;go_wp2_with fail;go_roundw
        case rel=>exact⟨_,_,_,Q4.out,R4.out,O4.out,by rw [←HE.out,HM.out,if_pos hyx,List.append_assoc];rfl,by simp only [List.length_append,List.length_cons,List.length_nil] at hlen⊢;omega,E4.out⟩
        case measure=>simp [lenV] <;> omega
      ·have hyx':decide (y.1<x.1) =false:=by simpa using hyx
       by_cases hca:ca=1
       ·subst hca
        have R0:=LH (HA6.out.2 rfl).1;have hnil:=(HA6.out.2 rfl).2;subst hnil;simp only [List.length_nil,Nat.zero_add];go_wp2_with fail
        go_region_held3 (fun w'=>w'.cell? ⟨ba,oa,none⟩ =some (.int .i64 x.1)∧w'.cell? ⟨ba,oa+1,none⟩ =some (.int .i64 x.2)) (first| (simp [*,go_sem];done))
         ((refine step_app tyN (by rfl) _ _ (by rfl) encN w2.heap.size _ _ (by rfl) (O3.out.alloc _).drew (some ⟨w3.heap.size,0,none⟩) 1 [x] _ (by rfl) (sl_lit w3 encN [x] _ w3.heap.size rfl).drew (by simp;omega) (by simp [maxLen];omega) (by simp;omega) ?_;intro v' w4 ho4 _ _ hb4 _;have c40:=(hb4.cell (p:=⟨ba,oa,none⟩) (by simp only;omega)).trans (by simp [go_sem,d4,za] :_=some (Value.int .i64 x.1));have c41:=(hb4.cell (p:=⟨ba,oa+1,none⟩) (by simp only;omega)).trans (by simp [go_sem,d5,za] :_=some (Value.int .i64 x.2))))
        have B4:Below w2.heap.size w3 w4:=((Below.refl w2.heap.size w3).alloc (by omega) _).drew.trans hb4;have O4:=LH ho4;have R4:=LH (R0.out.below (hBb3.trans B4));have Q4:=LH (RB3.out.below B4);have E4:=LH (B3.trans B4);clear ho4 hb4 c40 c41 B4;go_wp2_with fail;go_roundw
        case rel=>exact⟨_,_,_,R4.out,Q4.out,O4.out,by rw [←HE.out,HM.out,if_neg (by omega),List.append_assoc];rfl,by simp only [List.length_append,List.length_cons,List.length_nil] at hlen⊢;omega,E4.out⟩
        case measure=>simp [lenV]
       ·have m1: (1:Int)≤((la'.length:Int) +1):=by omega
        have m2: (1:Int)≤(ca:Int):=by omega
        have m3: ((la'.length:Int) +1)≤(ca:Int):=by omega
        go_wp2_with fail
        go_region_held3 (fun w'=>w'.cell? ⟨ba,oa,none⟩ =some (.int .i64 x.1)∧w'.cell? ⟨ba,oa+1,none⟩ =some (.int .i64 x.2)) (first| (simp [*,go_sem];done))
         ((refine step_app tyN (by rfl) _ _ (by rfl) encN w2.heap.size _ _ (by rfl) (O3.out.alloc _).drew (some ⟨w3.heap.size,0,none⟩) 1 [x] _ (by rfl) (sl_lit w3 encN [x] _ w3.heap.size rfl).drew (by simp;omega) (by simp [maxLen];omega) (by simp;omega) ?_;intro v' w4 ho4 _ _ hb4 _;have c40:=(hb4.cell (p:=⟨ba,oa,none⟩) (by simp only;omega)).trans (by simp [go_sem,d4,za] :_=some (Value.int .i64 x.1));have c41:=(hb4.cell (p:=⟨ba,oa+1,none⟩) (by simp only;omega)).trans (by simp [go_sem,d5,za] :_=some (Value.int .i64 x.2))))
        have B4:Below w2.heap.size w3 w4:=((Below.refl w2.heap.size w3).alloc (by omega) _).drew.trans hb4;have O4:=LH ho4;have R4:=LH ((HA6.out.1 hca).below (hBb3.trans B4));have Q4:=LH (RB3.out.below B4);have E4:=LH (B3.trans B4);clear ho4 hb4 c40 c41 B4;go_wp2_with fail;go_roundw
        case rel=>exact⟨_,_,_,R4.out,Q4.out,O4.out,by rw [←HE.out,HM.out,if_neg (by omega),List.append_assoc];rfl,by simp only [List.length_append,List.length_cons,List.length_nil] at hlen⊢;omega,E4.out⟩
        case measure=>simp [lenV] <;> omega
theorem roll_Sorted (w:World) (v:Value) (l:List Nd) (hR:Rd w encN v l) (hn:l.length≤67108864) :Calls Tryz.prog 222 #[v] w (OwnPost 172 encN (msort l) w):=by
 obtain⟨A,cap,rfl,h1,h2,hS⟩:=hR;have HC:=LH (roll_sorted 67108864 · A cap l · h1 h2 hn (Nat.le_refl _));have HS:=LH hS;clear hS
 go_enter Tryz.func222,Tryz.ntmps222
 go_wp2_with fail;refine(HC.out _ HS.out).mono ?_;rintro e w1 ⟨v,rfl,ho,hb⟩;have HO:=LH ho;clear ho;go_wp2_with fail;go_ret;exact⟨_,rfl,HO.out,hb⟩
end
theorem probe_Add (w:World) (g l:Nat) (r:List Nd) (F:Nat→Prop) (h:ProbeAt w g l r F) (hf:Fits l r) (h1:1≤l) (h2:l≤48) (k:Nat) (hk1:1≤k) (hk2:k<2*2^l) (c:Int) (hc:0<c) (hsum:sumR r+c≤72057594037927935) (hr30:r.length<1073741824) :
 Calls Tryz.prog 216 #[.pointer (some ⟨g,0,none⟩),.int .i64 k,.int .i64 c] w (AddPost w g l (addR r k c) F):=by
 by_cases h0:getR r k=0
 ·exact probe_Add_new w g l r F h hf h1 h2 k hk1 hk2 c hc hsum h0 hr30
 ·have:=getR_nonneg hf.roll (k:Int)
  exact probe_Add_old w g l r F h hf h1 h2 k hk1 hk2 c hc hsum (by omega)
theorem ProbeAt.keep {w w':World} {g l:Nat} {r:List Nd} {F:Nat→Prop} (h:ProbeAt w g l r F) (hk: ∀b,F b→w'.heap[b]? =w.heap[b]?) :ProbeAt w' g l r F:=by
 obtain⟨v,S,b,hh,ho,h1,h2,h3,h4,rfl⟩:=h;exact⟨v,S,b,(hk g (.inl rfl)).trans hh,ho.of_block fun b hb=>hk b (.inr hb),h1,h2,h3,h4,rfl⟩
theorem ProbeAt.lt {w:World} {g l:Nat} {r:List Nd} {F:Nat→Prop} (h:ProbeAt w g l r F) : ∀b,F b→b<w.heap.size:=by
 obtain⟨v,S,b,hh,ho,_,_,_,_,rfl⟩:=h;rintro q (rfl|hq)
 ·exact lB hh
 ·exact(ho.lt q hq).2
theorem ProbeAt.below {w w':World} {g l:Nat} {r:List Nd} {F:Nat→Prop} (h:ProbeAt w g l r F) (hb:Below w.heap.size w w') :ProbeAt w' g l r F:=h.keep fun b hf=>hb.block b (h.lt b hf)
theorem ProbeAt.typed {w:World} {g l:Nat} {r:List Nd} {F:Nat→Prop} (h:ProbeAt w g l r F) : ∀b,F b→TypeAt w b 221∨TypeAt w b 172:=by
 obtain⟨v,S,b,hh,ho,_,_,_,_,rfl⟩:=h;rintro q (rfl|hq)
 ·exact .inl (.of hh)
 ·rcases ho with ⟨rfl,_⟩ | ⟨g1,o1,c1,u1,rfl,_,hh1,_⟩
  ·cases hq
  ·cases hq;exact .inr (.of hh1)
theorem probe_Snap (w:World) (g l:Nat) (r:List Nd) (F:Nat→Prop) (h:ProbeAt w g l r F) (hf:Fits l r) (hn:r.length≤67108864) :Calls Tryz.prog 197 #[.pointer (some ⟨g,0,none⟩)] w (OwnPost 172 encN r w):=by
 obtain⟨v,S,b,hh,ho,hI,hq3,hq34,hfree,rfl⟩:=h;obtain⟨sb,off,cap,rfl,hcap⟩:=own_at0 ho (by rw [hI.len];exact Nat.two_pow_pos b);have hl:=hI.len;have hSl:S.length≤34359738368:=by rw [hl];have:=Nat.pow_le_pow_right (n:=2) (by decide) (show b≤35 by omega);simpa using this
 have hcnt:=hI.count
 have hfl: ∀k,((S.take k).filter full).length≤67108864:=fun k=>by
  have h1: ((S.take k).filter full).length≤(S.filter full).length:=((List.take_sublist k S).filter full).length_le;omega
 have cc:=bC hh;have zg:=lB hh;have zb:=(ho.lt sb rfl).2;have HS:=LH ho.slT;have HI:=LH hI;have HL:=LH hfl;clear hh ho hI hl hcnt hfl hfree
 go_enter Tryz.func197,Tryz.ntmps197
 go_wp2_with fail
 go_loopw [3,13] (fun v i wr=>∃k:Nat,k≤S.length∧i=.int .i64 k∧Below w.heap.size w wr∧Own wr w.heap.size 172 encN v ((S.take k).filter full)) (fun _ i _=>S.length - (intOf i).toNat)
 case atStart=>exact⟨0,Nat.zero_le _,rfl,bE,Own.nil _ _ _ _⟩
 case round=>
  obtain⟨k,hk,rfl,hB,hown⟩:=hrel;have HO:=LH hown;clear hown;have hs:=hB.size;by_cases hlt:k<S.length
  ·have d0:=(hB.cell (p:=⟨sb,off+k*2+0,none⟩) zb).trans (HS.out.cell_at hlt 0 (.int .i64 S[k].1) rfl)
   have d1:=(hB.cell (p:=⟨sb,off+k*2+1,none⟩) zb).trans (HS.out.cell_at hlt 1 (.int .i64 S[k].2) rfl);simp only [Nat.add_zero] at d0;have hle:=HL.out k;obtain⟨x,hx⟩ : ∃x,x=S[k]:=⟨_,rfl⟩;rw [←hx] at d0 d1;have HX:=LH (take_filter_succ hlt x (by rw [hx];exact List.getElem?_eq_getElem hlt));have hx0:=HI.out.nonneg (i:=k) (x:=x) (by rw [hx];exact List.getElem?_eq_getElem hlt);clear hx;by_cases hn:0<x.2
   ·go_wp2_with ((at_builtin;refine wpList_push tyN rfl _ _ rfl encN (wr.alloc _) w.heap.size u3 _ rfl (HO.out.alloc _) x (by go_simp) rfl ?c1 ?c2 ?c3 ?c4))
    case c1=>omega
    case c2=>simp only [maxLen];omega
    case c3=>simp;omega
    case c4=>
     intro v' w2 hown2 hgrow _ hlies hb2 _;have HO2:=LH (show Own w2 w.heap.size 172 encN v' ((S.take (k+1)).filter full) by rw [HX.out,if_neg (by omega)];exact hown2);clear hown2;go_wp2_with fail;go_roundw
     case rel=>exact⟨k+1,by omega,by go_num,Below.trans (Below.allocW hB _) hb2,HO2.out⟩
     case measure=>simp [intOf];omega
   ·have HO2:=LH (show Own wr w.heap.size 172 encN u3 ((S.take (k+1)).filter full) by rw [HX.out,if_pos (by omega),List.append_nil];exact HO.out)
    go_wp2_with fail;go_roundw
    case rel=>exact⟨k+1,by omega,by go_num,Below.allocW hB _,HO2.out.alloc _⟩
    case measure=>simp [intOf];omega
  ·obtain rfl:k=S.length:=by omega
   rw [List.take_length] at HO;have HM:=LH (msort_roll HI.out.perm hf.roll);have hm:=HL.out S.length;rw [List.take_length] at hm;go_wp2_with fail;refine(roll_Sorted _ _ _ HO.out.rd hm).mono ?_;rintro e w2 ⟨v2,rfl,ho2,hb2⟩;rw [HM.out] at ho2;have HO2:=LH ho2;have HB2:=LH (hB.trans (hb2.mono hs));clear ho2 hb2;go_wp2_with fail;go_ret;exact⟨_,rfl,HO2.out.base_le hs,HB2.out⟩
def footP (g:Nat) (F0:Nat→Prop) :Nat→Prop:=fun b=>b=g∨F0 b
def PoolAt (w:World) (g K l:Nat) (r:List Nd) (F:Nat→Prop) :Prop:=
 1≤l∧l≤48∧Fits l r∧∃h F0,F=footP g F0∧((K=1∧l≤16∧w.heap[g]? =some (.cells #[.pointer (some ⟨h,0,none⟩),.pointer none] 167 (0,0))∧DenseAt w h l r F0)∨
  (K=2∧w.heap[g]? =some (.cells #[.pointer none,.pointer (some ⟨h,0,none⟩)] 167 (0,0))∧ProbeAt w h l r F0))
theorem PoolAt.keep {w w':World} {g K l:Nat} {r:List Nd} {F:Nat→Prop} (h:PoolAt w g K l r F) (hk: ∀b,F b→w'.heap[b]? =w.heap[b]?) :PoolAt w' g K l r F:=by
 obtain⟨h1,h2,h3,p,F0,rfl,h4⟩:=h;refine⟨h1,h2,h3,p,F0,rfl,?_⟩;rcases h4 with ⟨a,b,c,d⟩ | ⟨a,c,d⟩
 ·exact .inl ⟨a,b,(hk g (.inl rfl)).trans c,d.keep fun q hq=>hk q (.inr hq)⟩
 ·exact .inr ⟨a,(hk g (.inl rfl)).trans c,d.keep fun q hq=>hk q (.inr hq)⟩
theorem PoolAt.lt {w:World} {g K l:Nat} {r:List Nd} {F:Nat→Prop} (h:PoolAt w g K l r F) : ∀b,F b→b<w.heap.size:=by
 obtain⟨h1,h2,h3,p,F0,rfl,h4⟩:=h;rintro q (rfl|hq)
 ·rcases h4 with ⟨a,b,c,d⟩ | ⟨a,c,d⟩
  ·exact lB c
  ·exact lB c
 ·rcases h4 with ⟨a,b,c,d⟩ | ⟨a,c,d⟩
  ·exact d.lt q hq
  ·exact d.lt q hq
theorem PoolAt.below {w w':World} {g K l:Nat} {r:List Nd} {F:Nat→Prop} (h:PoolAt w g K l r F) (hb:Below w.heap.size w w') :PoolAt w' g K l r F:=h.keep fun b hf=>hb.block b (h.lt b hf)
theorem PoolAt.fits {w:World} {g K l:Nat} {r:List Nd} {F:Nat→Prop} (h:PoolAt w g K l r F) :Fits l r:=h.2.2.1
def PoolTypes (t:TypeId) :Prop:=t=167∨t=219∨t=3∨t=221∨t=172
theorem PoolAt.typed {w:World} {g K l:Nat} {r:List Nd} {F:Nat→Prop} (h:PoolAt w g K l r F) : ∀b,F b→∃t,PoolTypes t∧TypeAt w b t:=by
 obtain⟨h1,h2,h3,p,F0,rfl,h4⟩:=h;rintro q (rfl|hq)
 ·rcases h4 with ⟨a,b,c,d⟩ | ⟨a,c,d⟩
  ·exact⟨_,.inl rfl,.of c⟩
  ·exact⟨_,.inl rfl,.of c⟩
 ·rcases h4 with ⟨a,b,c,d⟩ | ⟨a,c,d⟩
  ·rcases d.typed q hq with h|h
   ·exact⟨_,.inr (.inl rfl),h⟩
   ·exact⟨_,.inr (.inr (.inl rfl)),h⟩
  ·rcases d.typed q hq with h|h
   ·exact⟨_,.inr (.inr (.inr (.inl rfl))),h⟩
   ·exact⟨_,.inr (.inr (.inr (.inr rfl))),h⟩
theorem typeAt_eq {w:World} {b t t':Nat} (h:TypeAt w b t) (h':TypeAt w b t') :t=t':=by
 obtain⟨_,_,h⟩:=h;obtain⟨_,_,h'⟩:=h';rw [h] at h'
 cases h'
 rfl
theorem pool_isArray (w:World) (g h:Nat) (q0:Value) (hh:w.heap[g]? =some (.cells #[.pointer (some ⟨h,0,none⟩),q0] 167 (0,0))) :Calls Tryz.prog 94 #[.pointer (some ⟨g,0,none⟩)] w fun e w'=>e=.returned (.bool true)∧Below w.heap.size w w':=by
 have c:=bC hh;have z:=lB hh;clear hh
 go_enter Tryz.func94,Tryz.ntmps94
 go_wp2_with fail;go_ret;exact⟨rfl,bE⟩
theorem pool_isArray_no (w:World) (g:Nat) (q0:Value) (hh:w.heap[g]? =some (.cells #[.pointer none,q0] 167 (0,0))) :Calls Tryz.prog 94 #[.pointer (some ⟨g,0,none⟩)] w fun e w'=>e=.returned (.bool false)∧Below w.heap.size w w':=by
 have c:=bC hh;have z:=lB hh;clear hh
 go_enter Tryz.func94,Tryz.ntmps94
 go_wp2_with fail;go_ret;exact⟨rfl,bE⟩
theorem pool_inner (w:World) (g:Nat) (p:Option Addr) (q0:Value) (hh:w.heap[g]? =some (.cells #[q0,.pointer p] 167 (0,0))) :Calls Tryz.prog 96 #[.pointer (some ⟨g,0,none⟩)] w fun e w'=>e=.returned (.pointer p)∧Below w.heap.size w w':=by
 have c:=bC hh;have z:=lB hh;clear hh
 go_enter Tryz.func96,Tryz.ntmps96
 go_wp2_with fail;go_ret;exact⟨rfl,bE⟩
theorem pool_L (w:World) (g K l:Nat) (r:List Nd) (F:Nat→Prop) (h:PoolAt w g K l r F) :Calls Tryz.prog 119 #[.pointer (some ⟨g,0,none⟩)] w fun e w'=>e=.returned (.int .i64 l)∧Below w.heap.size w w':=by
 obtain⟨h1,h2,h3,p,F0,rfl,h4⟩:=h;rcases h4 with ⟨rfl,h16,hh,hd⟩ | ⟨rfl,hh,hd⟩
 ·have H:=LH hh
  have HD:=LH hd;clear hh hd
  go_enter Tryz.func119,Tryz.ntmps119
  go_wp2_with fail;refine(pool_isArray _ g p _ H.out).mono ?_;rintro e w1 ⟨rfl,hb1⟩;have k1:=bB H.out hb1;have c1:=bC k1;have z1:=lB k1;have D1:=LH (HD.out.below hb1);clear k1;go_wp2_with fail;refine(dense_L _ p l r F0 D1.out).mono ?_;rintro e w2 ⟨rfl,hb2⟩;have HB2:=LH (hb1.trans (hb2.mono hb1.size));clear hb2;go_wp2_with fail;go_ret;exact⟨rfl,HB2.out⟩
 ·have H:=LH hh
  have HD:=LH hd;clear hh hd
  go_enter Tryz.func119,Tryz.ntmps119
  go_wp2_with fail;refine(pool_isArray_no _ g _ H.out).mono ?_;rintro e w0 ⟨rfl,hb0⟩;have K0:=LH (bB H.out hb0);go_wp2_with fail;refine(pool_inner _ g _ _ K0.out).mono ?_;rintro e w1 ⟨rfl,hb1'⟩;have hb1:=hb0.trans (hb1'.mono hb0.size);have D1:=LH (HD.out.below hb1);clear hb0 hb1' K0;go_wp2_with fail;refine(probe_L _ p l r F0 D1.out).mono ?_;rintro e w2 ⟨rfl,hb2⟩;have HB2:=LH (hb1.trans (hb2.mono hb1.size));clear hb2;go_wp2_with fail;go_ret;exact⟨rfl,HB2.out⟩
theorem pool_Total (w:World) (g K l:Nat) (r:List Nd) (F:Nat→Prop) (h:PoolAt w g K l r F) :Calls Tryz.prog 52 #[.pointer (some ⟨g,0,none⟩)] w fun e w'=>e=.returned (.int .i64 (sumR r))∧Below w.heap.size w w':=by
 obtain⟨h1,h2,h3,p,F0,rfl,h4⟩:=h;rcases h4 with ⟨rfl,h16,hh,hd⟩ | ⟨rfl,hh,hd⟩
 ·have H:=LH hh
  have HD:=LH hd;clear hh hd
  go_enter Tryz.func52,Tryz.ntmps52
  go_wp2_with fail;refine(pool_isArray _ g p _ H.out).mono ?_;rintro e w1 ⟨rfl,hb1⟩;have k1:=bB H.out hb1;have c1:=bC k1;have z1:=lB k1;have D1:=LH (HD.out.below hb1);clear k1;go_wp2_with fail;refine(dense_Total _ p l r F0 D1.out).mono ?_;rintro e w2 ⟨rfl,hb2⟩;have HB2:=LH (hb1.trans (hb2.mono hb1.size));clear hb2;go_wp2_with fail;go_ret;exact⟨rfl,HB2.out⟩
 ·have H:=LH hh
  have HD:=LH hd;clear hh hd
  go_enter Tryz.func52,Tryz.ntmps52
  go_wp2_with fail;refine(pool_isArray_no _ g _ H.out).mono ?_;rintro e w0 ⟨rfl,hb0⟩;have K0:=LH (bB H.out hb0);go_wp2_with fail;refine(pool_inner _ g _ _ K0.out).mono ?_;rintro e w1 ⟨rfl,hb1'⟩;have hb1:=hb0.trans (hb1'.mono hb0.size);have D1:=LH (HD.out.below hb1);clear hb0 hb1' K0;go_wp2_with fail;refine(probe_Total _ p l r F0 D1.out).mono ?_;rintro e w2 ⟨rfl,hb2⟩;have HB2:=LH (hb1.trans (hb2.mono hb1.size));clear hb2;go_wp2_with fail;go_ret;exact⟨rfl,HB2.out⟩
theorem pool_Snap (w:World) (g K l:Nat) (r:List Nd) (F:Nat→Prop) (h:PoolAt w g K l r F) (hn:r.length≤67108864) :Calls Tryz.prog 144 #[.pointer (some ⟨g,0,none⟩)] w (OwnPost 172 encN r w):=by
 obtain⟨h1,h2,h3,p,F0,rfl,h4⟩:=h;rcases h4 with ⟨rfl,h16,hh,hd⟩ | ⟨rfl,hh,hd⟩
 ·have H:=LH hh
  have HD:=LH hd;clear hh hd
  go_enter Tryz.func144,Tryz.ntmps144
  go_wp2_with fail;refine(pool_isArray _ g p _ H.out).mono ?_;rintro e w1 ⟨rfl,hb1⟩;have k1:=bB H.out hb1;have c1:=bC k1;have z1:=lB k1;have D1:=LH (HD.out.below hb1);clear k1;go_wp2_with fail;refine(dense_Snap _ p l r F0 D1.out h3 h16).mono ?_;rintro e w2 ⟨v,rfl,ho,hb2⟩;have HB2:=LH (hb1.trans (hb2.mono hb1.size));have HO:=LH ho;clear ho;clear hb2;go_wp2_with fail;go_ret;exact⟨_,rfl,HO.out.base_le hb1.size,HB2.out⟩
 ·have H:=LH hh
  have HD:=LH hd;clear hh hd
  go_enter Tryz.func144,Tryz.ntmps144
  go_wp2_with fail;refine(pool_isArray_no _ g _ H.out).mono ?_;rintro e w0 ⟨rfl,hb0⟩;have K0:=LH (bB H.out hb0);go_wp2_with fail;refine(pool_inner _ g _ _ K0.out).mono ?_;rintro e w1 ⟨rfl,hb1'⟩;have hb1:=hb0.trans (hb1'.mono hb0.size);have D1:=LH (HD.out.below hb1);clear hb0 hb1' K0;go_wp2_with fail;refine(probe_Snap _ p l r F0 D1.out h3 hn).mono ?_;rintro e w2 ⟨v,rfl,ho,hb2⟩;have HB2:=LH (hb1.trans (hb2.mono hb1.size));have HO:=LH ho;clear ho;clear hb2;go_wp2_with fail;go_ret;exact⟨_,rfl,HO.out.base_le hb1.size,HB2.out⟩
theorem Fits.add {l:Nat} {r:List Nd} (h:Fits l r) {k c:Int} (hk1:1≤k) (hk2:k<2*2^l) (hc:1≤c) (hsum:sumR r+c≤72057594037927935) :Fits l (addR r k c):=
 ⟨h.roll.add hk1 hc,fun x hx=>by
  rcases addR_mem hx with he|hx
  ·rw [he];exact hk2
  ·exact h.lt x hx,by rw [sumR_add];exact hsum⟩
def PAddPost (w:World) (g K l:Nat) (r:List Nd) (F:Nat→Prop) (v:Value) (e:Ending) (w':World) :Prop:=∃F',e=.returned v∧PoolAt w' g K l r F'∧Turn F w w'∧Grow w F F'
theorem dense_Add (w:World) (g l:Nat) (r:List Nd) (F:Nat→Prop) (h:DenseAt w g l r F) (hf:Fits l r) (h1:1≤l) (h2:l≤16) (k:Nat) (hk1:1≤k) (hk2:k<2*2^l) (c:Int) (hc:0<c) (hsum:sumR r+c≤72057594037927935) :
 Calls Tryz.prog 215 #[.pointer (some ⟨g,0,none⟩),.int .i64 k,.int .i64 c] w fun e w'=>e=.returned (.int .i64 0)∧DenseAt w' g l (addR r k c) F∧Turn F w w':=by
 by_cases h0:getR r k=0
 ·exact dense_Add_new w g l r F h hf h1 h2 k hk1 hk2 c hc hsum h0
 ·have:=getR_nonneg hf.roll (k:Int)
  exact dense_Add_old w g l r F h hf h1 h2 k hk1 hk2 c (by omega) hsum (by omega)
theorem Grow.foot {w:World} {g:Nat} {F F':Nat→Prop} (h:Grow w F F') :Grow w (footP g F) (footP g F'):=fun b hb=>by
 rcases hb with hb|hb
 ·exact .inl (.inl hb)
 ·rcases h b hb with hb|hb
  ·exact .inl (.inr hb)
  ·exact .inr hb
theorem pool_Add (w:World) (g K l:Nat) (r:List Nd) (F:Nat→Prop) (h:PoolAt w g K l r F) (k:Nat) (hk1:1≤k) (hk2:k<2*2^l) (c:Int) (hc:0<c) (hsum:sumR r+c≤72057594037927935) (hr30:r.length<1073741824) :
 Calls Tryz.prog 165 #[.pointer (some ⟨g,0,none⟩),.int .i64 k,.int .i64 c] w (PAddPost w g K l (addR r k c) F (.int .i64 0)):=by
 obtain⟨h1,h2,h3,p,F0,rfl,h4⟩:=h;have hF:=h3.add (k:=(k:Int)) (c:=c) (by omega) (by exact_mod_cast hk2) (by omega) hsum;rcases h4 with ⟨rfl,h16,hh,hd⟩ | ⟨rfl,hh,hd⟩
 ·have hgF: ¬F0 g:=fun hg=>by
   rcases hd.typed g hg with h|h
   ·exact absurd (typeAt_eq h (.of hh)) (by decide)
   ·exact absurd (typeAt_eq h (.of hh)) (by decide)
  have H:=LH hh;have HD:=LH hd;clear hh hd
  go_enter Tryz.func165,Tryz.ntmps165
  go_wp2_with fail;refine(pool_isArray _ g p _ H.out).mono ?_;rintro e w1 ⟨rfl,hb1⟩;have k1:=bB H.out hb1;have c1:=bC k1;have z1:=lB k1;have D1:=LH (HD.out.below hb1);have K1:=LH k1;clear k1;go_wp2_with fail;refine(dense_Add _ p l r F0 D1.out h3 h1 h16 k hk1 hk2 c hc hsum).mono ?_;rintro e w2 ⟨rfl,hd2,hT2⟩
  have HP:Hid (PAddPost w g 1 l (addR r k c) (footP g F0) (.int .i64 0) (.returned (.int .i64 0)) w2):=
   ⟨_,rfl,⟨h1,h2,hF,p,F0,rfl,.inl ⟨rfl,h16,hT2.keep K1.out hgF,hd2⟩⟩,(Turn.of_below hb1).trans hT2 (fun b hb=>.inl (.inr hb)),Grow.refl⟩
  clear hd2 hT2;go_wp2_with fail;go_ret;exact HP.out
 ·have hgF: ¬F0 g:=fun hg=>by
   rcases hd.typed g hg with h|h
   ·exact absurd (typeAt_eq h (.of hh)) (by decide)
   ·exact absurd (typeAt_eq h (.of hh)) (by decide)
  have H:=LH hh;have HD:=LH hd;clear hh hd
  go_enter Tryz.func165,Tryz.ntmps165
  go_wp2_with fail;refine(pool_isArray_no _ g _ H.out).mono ?_;rintro e w0 ⟨rfl,hb0⟩;have K0:=LH (bB H.out hb0);go_wp2_with fail;refine(pool_inner _ g _ _ K0.out).mono ?_;rintro e w1 ⟨rfl,hb1'⟩;have hb1:=hb0.trans (hb1'.mono hb0.size);have D1:=LH (HD.out.below hb1);have K1:=LH (bB H.out hb1);clear hb0 hb1' K0;go_wp2_with fail;refine(probe_Add _ p l r F0 D1.out h3 h1 h2 k hk1 hk2 c hc hsum hr30).mono ?_;rintro e w2 ⟨F2,rfl,hd2,hT2,hG2⟩
  have HP:Hid (PAddPost w g 2 l (addR r k c) (footP g F0) (.int .i64 0) (.returned (.int .i64 0)) w2):=
   ⟨_,rfl,⟨h1,h2,hF,p,F2,rfl,.inr ⟨rfl,hT2.keep K1.out hgF,hd2⟩⟩,(Turn.of_below hb1).trans hT2 (fun b hb=>.inl (.inr hb)),Grow.foot fun b hb=>by
    rcases hG2 b hb with h|h
    ·exact .inl h
    ·exact .inr (Nat.le_trans hb1.size h)⟩
  clear hd2 hT2;go_wp2_with fail;go_ret;exact HP.out
def isPool (K l:Int) :Bool:=decide ((K=1∧1≤l∧l≤16)∨(K=2∧1≤l∧l≤48))
def NewPost (K l:Nat) (r:List Nd) (w:World) (e:Ending) (w':World) :Prop:=∃g F,e=.returned (.tuple #[.pointer (some ⟨g,0,none⟩),.int .i64 0])∧PoolAt w' g K l r F∧(∀b,F b→w.heap.size≤b)∧Below w.heap.size w w'
theorem Fits.nil (l:Nat) :Fits l []:=⟨⟨.nil,by simp⟩,by simp,by simp [sumR]⟩
theorem pool_New (w:World) (K l:Nat) (h:isPool K l=true) :Calls Tryz.prog 151 #[.int .i64 K,.int .i64 l] w (NewPost K l [] w):=by
 simp only [isPool,decide_eq_true_eq] at h;rcases h with ⟨h0,h1,h2⟩ | ⟨h0,h1,h2⟩
 ·obtain rfl:K=1:=by omega
  have HC:=LH (dense_New · l (by omega) (by omega))
  go_enter Tryz.func151,Tryz.ntmps151
  go_wp2_with fail;refine(HC.out _).mono ?_;rintro e w1 ⟨p,F0,rfl,hd,hF,hb1⟩;have B1:Below w.heap.size w w1:=Below.then_ bE hb1;have s1:=B1.size;have z1_0:w.heap.size<w1.heap.size:=by have:=hb1.size;(try simp at this);omega
  have y1_0:w.heap.size≤w1.heap.size:=Nat.le_of_lt z1_0;have c1_0:=czB hb1 (w.heap.size);have f1_0:=fzB hb1 (w.heap.size);have k1:=bB (heap_new_at w (.cells #[.pointer none,.pointer none] 167) _ rfl) hb1;have c1:=bC k1;have f1:=bF k1;have HD:=LH hd;have K1:=LH k1;simp only [World.size_alloc] at hF;have HF:=LH hF;clear hd k1 hF c1_0 f1_0;go_wp2_with fail
  go_ret2
  refine⟨w.heap.size,footP w.heap.size F0,rfl,⟨by omega,by omega,Fits.nil l,p,F0,rfl,.inl ⟨rfl,by omega,zH K1.out _,?_⟩⟩,?_,bE⟩
  ·exact HD.out.keep fun b hb=>Below.heap_setCell _ _ _ _ (by have:=HF.out b hb;simp only;omega)
  ·rintro b (rfl|hb)
   ·exact Nat.le_refl _
   ·have:=HF.out b hb;omega
 ·obtain rfl:K=2:=by omega
  have HC:=LH (probe_New · l (by omega) (by omega))
  go_enter Tryz.func151,Tryz.ntmps151
  go_wp2_with fail;refine(HC.out _).mono ?_;rintro e w1 ⟨p,F0,rfl,hd,hF,hb1⟩;have B1:Below w.heap.size w w1:=Below.then_ bE hb1;have s1:=B1.size;have z1_0:w.heap.size<w1.heap.size:=by have:=hb1.size;(try simp at this);omega
  have y1_0:w.heap.size≤w1.heap.size:=Nat.le_of_lt z1_0;have c1_0:=czB hb1 (w.heap.size);have f1_0:=fzB hb1 (w.heap.size);have k1:=bB (heap_new_at w (.cells #[.pointer none,.pointer none] 167) _ rfl) hb1;have c1:=bC k1;have f1:=bF k1;have HD:=LH hd;have K1:=LH k1;simp only [World.size_alloc] at hF;have HF:=LH hF;clear hd k1 hF c1_0 f1_0;go_wp2_with fail
  go_ret2
  refine⟨w.heap.size,footP w.heap.size F0,rfl,⟨by omega,by omega,Fits.nil l,p,F0,rfl,.inr ⟨rfl,zH K1.out _,?_⟩⟩,?_,bE⟩
  ·exact HD.out.keep fun b hb=>Below.heap_setCell _ _ _ _ (by have:=HF.out b hb;simp only;omega)
  ·rintro b (rfl|hb)
   ·exact Nat.le_refl _
   ·have:=HF.out b hb;omega
def rollOf (l:List Nd) :List Nd:=l.foldl (fun r x=>addR r x.1 x.2) []
theorem addR_last {r:List Nd} {id c:Int} (h: ∀x∈r,x.1<id) :addR r id c=r ++ [(id,c)]:=by
 induction r with
 |nil=>rfl
 |cons x r ih=>
  have hx:=h x (by simp);simp only [addR];rw [if_neg (by omega),if_neg (by omega),ih fun y hy=>h y (by simp [hy])]
  rfl
theorem sumR_append (a b:List Nd) :sumR (a ++ b) =sumR a+sumR b:=by
 induction a with
 |nil=>simp [sumR]
 |cons x a ih=>simp only [List.cons_append,sumR,ih];omega
theorem addR_take {r:List Nd} (h:Roll r) {k:Nat} (hk:k<r.length) :addR (r.take k) r[k].1 r[k].2=r.take (k+1):=by
 rw [List.take_succ_eq_append_getElem hk,addR_last];intro x hx;obtain⟨i,hi,rfl⟩:=List.mem_take_iff_getElem.1 hx;exact List.pairwise_iff_getElem.1 h.1 i k (by omega) hk (by omega)
theorem sumR_take_succ {r:List Nd} {k:Nat} (hk:k<r.length) :sumR (r.take (k+1)) =sumR (r.take k) +r[k].2:=by
 rw [List.take_succ_eq_append_getElem hk,sumR_append];simp [sumR]
theorem sumR_take_le {r:List Nd} (h:Roll r) (k:Nat) :sumR (r.take k)≤sumR r:=by
 have h1:sumR r=sumR (r.take k) +sumR (r.drop k):=by rw [←sumR_append,List.take_append_drop]
 have h2:Roll (r.drop k):=⟨h.1.sublist (List.drop_sublist k r),fun x hx=>h.2 x (List.mem_of_mem_drop hx)⟩;have:=sumR_nonneg h2;omega
def PutPost (w:World) (g K l:Nat) (r:List Nd) (F:Nat→Prop) (e:Ending) (w':World) :Prop:=∃F',e=.returned (.tuple #[])∧PoolAt w' g K l r F'∧Turn F w w'∧Grow w F F'
theorem pool_put (w:World) (g K l:Nat) (F:Nat→Prop) (A:Option Addr) (cap:Nat) (r:List Nd) (h:PoolAt w g K l [] F) (hf:Fits l r) (hS:Sl w w.heap.size encN A r) (hFA: ∀b o,A=some ⟨b,o,none⟩→r≠ []→¬F b) (hn:r.length<67108864) :
 Calls Tryz.prog 217 #[.pointer (some ⟨g,0,none⟩),.slice A r.length cap] w (PutPost w g K l r F):=by
 have HP:=LH h;have HS:=LH hS;have HA:=LH hFA;clear h hS hFA
 go_enter Tryz.func217,Tryz.ntmps217
 go_wp2_with fail
 go_loopw [8] (fun i wr=>∃(k:Nat) (F':Nat→Prop),k≤r.length∧i=.int .i64 k∧PoolAt wr g K l (r.take k) F'∧Turn F w wr∧Grow w F F') (fun i _=>r.length - (intOf i).toNat)
 case atStart=>exact⟨0,F,Nat.zero_le _,rfl,HP.out,Turn.refl _ _,Grow.refl⟩
 case round=>
  obtain⟨k,F',hk,rfl,hP,hT,hG⟩:=hrel;have HK:=LH hP;have HT:=LH hT;have HG:=LH hG;have hs:=hT.size;clear hP hT hG;by_cases hlt:k<r.length
  ·obtain⟨b,off,rfl,hb,hc⟩:=HS.out.at_ hlt
   have nF:=HA.out b off rfl (fun h=>by rw [h] at hlt;simp at hlt);have d0:=(HT.out.cell (o:=off+k*2+0) hb nF).trans (hc 0 (.int .i64 r[k].1) rfl);have d1:=(HT.out.cell (o:=off+k*2+1) hb nF).trans (hc 1 (.int .i64 r[k].2) rfl);simp only [Nat.add_zero] at d0;have hx:=hf.roll.2 _ (List.getElem_mem hlt);have hxl:=hf.lt _ (List.getElem_mem hlt);have e1:=sumR_take_succ hlt;have e2:=sumR_take_le hf.roll (k+1);have e3:=hf.sum;have e4:=addR_take hf.roll hlt;obtain⟨x,hxe⟩ : ∃x,x=r[k]:=⟨_,rfl⟩;rw [←hxe] at d0 d1 hx hxl e1 e4;obtain⟨n,hn1⟩:=Int.eq_ofNat_of_zero_le (show 0≤x.1 by omega);have hlen: (r.take k).length≤r.length:=List.length_take_le' _ _;rw [hn1] at d0 hx hxl e4
   have HC:Hid (∀W,PoolAt W g K l (r.take k) F'→Calls Tryz.prog 165 #[.pointer (some ⟨g,0,none⟩),.int .i64 (n:Nat),.int .i64 x.2] W (PAddPost W g K l (r.take (k+1)) F' (.int .i64 0))):=LH fun W hW=>by
    have:=pool_Add W g K l (r.take k) F' hW n (by omega) (by exact_mod_cast hxl) x.2 (by omega) (by omega) (by omega)
    rwa [e4] at this
   clear hc e1 e2 e3 e4 hxe hn1;go_wp2_with fail;refine(HC.out _ (HK.out.below ((Below.refl _ _).alloc (Nat.le_refl _) _))).mono ?_;rintro e w2 ⟨F2,rfl,hP2,hT2,hG2⟩;have KP2:=LH hP2;have HT2:Hid (Turn F w w2):=LH ((HT.out.alloc (.cells #[.int .i64 (n:Nat),.int .i64 x.2] 172)).trans hT2 HG.out);have HG2:Hid (Grow w F F2):=LH (HG.out.trans hG2 (Nat.le_trans hs (by simp)));clear hP2 hT2 hG2;go_wp2_with fail;go_roundw
   case rel=>exact⟨k+1,F2,by omega,by go_num,KP2.out,HT2.out,HG2.out⟩
   case measure=>simp [intOf];omega
  ·obtain rfl:k=r.length:=by omega
   rw [List.take_length] at HK;go_wp2_with fail
   go_end0
   exact⟨F',rfl,HK.out,HT.out,HG.out⟩
theorem totalFrom_ok {n:Int} {l:List Nd} (h: (totalFrom n l).2=true) (hn:0≤n) (hm:n≤most) : (totalFrom n l).1=n+sumR l∧n+sumR l≤most:=by
 induction l generalizing n with
 |nil=>simp [totalFrom,sumR];exact hm
 |cons x l ih=>
  simp only [totalFrom] at h⊢
  split at h
  ·rename_i hc
   rw [if_pos hc];have h1:=addOf_le n x.2 hc.1;have h2:=ih h h1.1 hc.2
   have h3: (addOf n x.2).1=n+x.2:=by
    have:=hc.1;unfold addOf at this⊢
    split
    ·rfl
    ·rename_i hn;rw [if_neg hn] at this;cases this
   simp only [sumR];omega
  ·simp at h
theorem rises_roll {l last:Int} {r:List Nd} (h:risesFrom l last r=true) : (∀x∈r,last<x.1∧isNode l x.1=true∧1≤x.2)∧r.Pairwise (fun a b=>a.1<b.1):=by
 induction r generalizing last with
 |nil=>exact⟨by simp,.nil⟩
 |cons x r ih=>
  simp only [risesFrom,Bool.and_eq_true,decide_eq_true_eq] at h;obtain⟨⟨⟨h1,h2⟩,h3⟩,h4⟩:=h;obtain⟨i1,i2⟩:=ih h4;refine⟨fun y hy=> ?_,List.pairwise_cons.2 ⟨fun y hy=>(i1 y hy).1,i2⟩⟩;rcases List.mem_cons.1 hy with rfl|hy
  ·exact⟨h1,h2,h3⟩
  ·have:=i1 y hy;exact⟨by omega,this.2⟩
theorem isNode_lt {l:Nat} {id:Int} (h:isNode l id=true) :1≤id∧id<2*2^l:=by
 simp only [isNode,decide_eq_true_eq,Int.toNat_natCast] at h;exact h.2
theorem right_fits {l:Nat} {r:List Nd} (h:rightOf l r=true) :Fits l r∧(totalOf r).1=sumR r:=by
 simp only [rightOf,Bool.and_eq_true] at h;obtain⟨⟨h1,h2⟩,_⟩:=h;obtain⟨i1,i2⟩:=rises_roll h1;have h3:=totalFrom_ok h2 (by omega) (by decide);refine⟨⟨⟨i2,fun x hx=>⟨(isNode_lt (i1 x hx).2.1).1,(i1 x hx).2.2⟩⟩,fun x hx=>(isNode_lt (i1 x hx).2.1).2,by unfold most at h3;omega⟩,?_⟩;unfold totalOf;rw [h3.1];omega
theorem pool_Load (w:World) (K l:Nat) (A:Option Addr) (cap:Nat) (r:List Nd) (h:isPool K l=true) (hR:rightOf l r=true) (hS:Sl w w.heap.size encN A r) (hI:ints r) (hn:r.length<67108864) :
 Calls Tryz.prog 167 #[.int .i64 K,.int .i64 l,.slice A r.length cap] w (NewPost K l r w):=by
 have HC:=LH (pool_New · K l h);have HR:=LH (roll_Right · l A cap r · hI (by unfold maxLen;omega));have HF:=LH hR;have HS:=LH hS;have HT:=LH (right_fits hR).1;clear h hR hS
 go_enter Tryz.func167,Tryz.ntmps167
 go_wp2_with fail;refine(HC.out _).mono ?_;rintro e w1 ⟨g,F,rfl,hP,hF,hb1⟩;have B1:Below w.heap.size w w1:=Below.then_ bE hb1;have s1:=B1.size;have S1:=LH (HS.out.keep hb1.size fun p hp=>hb1.cell hp);have KP:=LH hP;have KF:=LH hF;clear hP hF;go_wp2_with fail;refine(HR.out _ S1.out).mono ?_;rintro e w2 ⟨rfl,hb2⟩;have B2:Below w.heap.size w w2:=Below.then_ bE hb2;have s2:=B2.size;rw [HF.out];have KP2:=LH (KP.out.below hb2);have S2:=LH (S1.out.keep hb2.size fun p hp=>hb2.cell hp)
 have HA:Hid (∀b o,A=some ⟨b,o,none⟩→r≠ []→b<w.heap.size):=LH fun b o hA hr=>by
  rcases HS.out with h| ⟨b',o',hA',hb,_⟩
  ·exact absurd h hr
  ·rw [hA] at hA';cases hA';exact hb
 go_wp2_with fail;refine(pool_put _ g K l F A cap r KP2.out HT.out S2.out (fun b o hA hr0 hf=>by have h1:=HA.out b o hA hr0;have h2:=KF.out b hf;omega) hn).mono ?_;rintro e w3 ⟨F3,rfl,hP3,hT3,hG3⟩
 have HP:Hid (NewPost K l r w (.returned (.tuple #[.pointer (some ⟨g,0,none⟩),.int .i64 0])) w3):=LH ⟨g,F3,rfl,hP3,fun b hb=>by
  rcases hG3 b hb with h|h
  ·exact KF.out b h
  ·have:=B2.size;omega,B2.trans (hT3.below KF.out (B2.size))⟩
 clear hP3 hT3 hG3;go_wp2_with fail
 go_ret2
 exact HP.out
section
attribute [local go_sem] Oper.semAt_some
def KeepN (A B:World) :Prop:=A.heap.size≤B.heap.size∧∀(b:Nat) (cs:Array Value) (fr:Nat×Nat),A.heap[b]? =some (.cells cs 172 fr)→B.heap[b]? =some (.cells cs 172 fr)
theorem keepN_t {A B C:World} (h:KeepN A B) (k:KeepN B C) :KeepN A C:=⟨Nat.le_trans h.1 k.1,fun b cs fr hb=>k.2 b cs fr (h.2 b cs fr hb)⟩
theorem keepN_b (W:World) (l:Nat) (o o':Obj) (h:W.heap[l]? =some o) (hc:o.isCells=false) :KeepN W (W.putObj l o'):=by
 refine⟨(grownBy_putObj' W l o').size,fun b cs fr hb=> ?_⟩
 have hne:b≠l:=by
  rintro rfl;rw [h] at hb
  cases hb
  simp [Obj.isCells] at hc
 rw [World.putObj_heap_other hne];exact hb
theorem KeepN.of_below {A B:World} (h:Below A.heap.size A B) :KeepN A B:=⟨h.size,fun b cs fr hb=>(h.block b (lB hb)).trans hb⟩
theorem KeepN.own {base:Nat} {A B:World} {v:Value} {l:List Nd} (h:KeepN A B) (ho:Own A base 172 encN v l) :Own B base 172 encN v l:=
 ho.of_block fun g hv=>by
  rcases ho with ⟨rfl,_⟩ | ⟨g1,o1,c1,u1,rfl,_,hh1,_⟩
  ·cases hv
  ·have:g1=g:=by simpa [Value.ownBlock] using hv
   subst this;rw [hh1];exact h.2 _ _ _ hh1
theorem pool_Each (w:World) (g:Nat) :Calls Tryz.prog 220 #[.pointer (some ⟨g,0,none⟩)] w fun e w'=>e=.returned (.func (.func 269) #[] #[.pointer (some ⟨w.heap.size,0,none⟩)])∧w.alloc (.cells #[.pointer (some ⟨g,0,none⟩)] 114) =w':=by
 go_enter Tryz.func220,Tryz.ntmps220
 go_wp2_with fail;go_ret;exact⟨rfl,rfl⟩
theorem each_stops (n Bs g K l:Nat) (r:List Nd) (F0:Nat→Prop) (w:World) (hn:1≤n) (hBs:w.heap[Bs]? =some (.cells #[.pointer (some ⟨g,0,none⟩)] 114 (0,0))) (hP:PoolAt w g K l r F0) (hr:r.length≤67108864) :
 SeqStopsK Fence.wide n Tryz.prog 269 #[.pointer (some ⟨Bs,0,none⟩)] (fun x:Nd=> #[Value.int .i64 x.1,Value.int .i64 x.2]) KeepN (fun ys=>ys=r) (fun pre=>pre <+: r) r.length w:=fun q J Jx W hW hJ hJx hY h0=>by
 have kb:=bB hBs hW;have HP:=LH (hP.below hW);have cb:=bC kb;have HY:=LH hY;have HJ:=LH hJ;clear kb hBs hP hY hJ;refine callsIn_of_wp Tryz.func269 rfl trivial ?_ rfl;simp only [Tryz.ntmps269,List.size_toArray,List.length_cons,List.length_nil,Nat.reduceAdd,Nat.reduceSub,Array.replicate_succ,Array.replicate_zero,List.push_toArray,List.append_toArray,List.nil_append,List.cons_append]
 gi_wp2_with fail
 refine⟨trivial,?_⟩;refine(callsIn_wide.2 (pool_Snap _ g K l r F0 HP.out hr)).mono ?_;rintro e w1 ⟨v,rfl,ho,hb⟩;have HO:=LH ho;have J0:Hid (J [] w1):=LH (HJ.out _ _ _ none h0 (grownBy_of_below hb none) (fun _ h=>by cases h));have hs:=hb.size;obtain⟨A,cap,rfl,_⟩:=ho.form;clear ho hb h0
 gi_wp2_with fail
 gi_loopw [8] (fun i wr=>∃k:Nat,k≤r.length∧i=.int .i64 k∧Own wr W.heap.size 172 encN (.slice A r.length cap) r∧J (r.take k) wr∧W.heap.size≤wr.heap.size) (fun i _=>r.length - (intOf i).toNat)
 case atStart=>exact⟨0,Nat.zero_le _,rfl,HO.out,J0.out,hs⟩
 case round=>
  obtain⟨k,hk,rfl,hown,hJk,hsz⟩:=hrel;have KO:=LH hown;have KJ:=LH hJk;clear hown hJk;by_cases hlt:k<r.length
  ·obtain⟨b,off,rfl,hT,hc⟩:=KO.out.slT.at_ hlt
   have d0:=hc 0 (.int .i64 r[k].1) rfl;have d1:=hc 1 (.int .i64 r[k].2) rfl;simp only [Nat.add_zero] at d0;have hts:=List.take_succ_eq_append_getElem hlt;obtain⟨x,hx⟩ : ∃x,x=r[k]:=⟨_,rfl⟩;rw [←hx] at d0 d1 hts;have HS:=LH hts;have hA:Below wr.heap.size wr (wr.alloc (.cells #[.int .i64 x.1,.int .i64 x.2] 172)):=(Below.refl _ _).alloc (Nat.le_refl _) _;have hJ2:=HJ.out _ _ _ none KJ.out (grownBy_of_below hA none) (fun _ h=>by cases h);obtain⟨fn,tmps,assign,body,hy,hR⟩:=HY.out (r.take k) x _ hJ2 (by rw [List.length_take];omega);have KA:=LH (KO.out.below hA);clear hc hts hx hJ2 hA hT
   gi_wp2_with fail
   refine hR.mono ?_;rintro e w3 (⟨rfl,hJ3,hk3⟩ | ⟨rfl,hJx3⟩)
   ·have K3:=LH (hk3.own KA.out)
    have z3:=hk3.1;rw [←HS.out] at hJ3;have J3:=LH hJ3;clear hJ3 hk3
    gi_wp2_with fail
    go_roundw
    case rel=>exact⟨k+1,by omega,by go_num,K3.out,J3.out,by simp at z3;omega⟩
    case measure=>simp [intOf];omega
   ·rw [←HS.out] at hJx3
    have J3:=LH hJx3;clear hJx3
    gi_wp2_with fail
    refine bR (results_none rfl _ _ _) rfl ?_;exact⟨⟨_,rfl⟩,.inr ⟨_,List.take_prefix _ _,J3.out⟩⟩
  ·obtain rfl:k=r.length:=by omega
   rw [List.take_length] at KJ
   gi_wp2_with fail
   go_end0
   exact⟨⟨_,rfl⟩,.inl ⟨_,rfl,KJ.out⟩⟩
end
section
attribute [local go_sem] Oper.semAt_some
theorem fold_Cap (w:World) (n k:Int) (hn0:0≤n) (hn:n≤9223372036854775807) (hk:1≤k) (hk2:k≤9223372036854775807) :Calls Tryz.prog 219 #[.int .i64 n,.int .i64 k] w fun e w'=>e=.returned (.int .i64 (n / k))∧Below w.heap.size w w':=by
 have HD:=LH (show divOf n k= (n / k,true) by simp only [divOf];rw [if_neg (by omega)])
 go_enter Tryz.func219,Tryz.ntmps219
 go_wp2_with fail;refine(reckon_Div _ n k hn hk2).mono ?_;rintro e w1 ⟨rfl,hb1⟩;have B1:Below w.heap.size w w1:=Below.then_ bE hb1;have s1:=B1.size;rw [HD.out];unfold okV;go_wp2_with fail;go_ret;exact⟨rfl,bE⟩
theorem press_may (w:World) (k:Int) (h1:1≤k) (h2:k≤1048576) :Calls Tryz.prog 252 #[.int .i64 k] w fun e w'=>e=.returned (.bool true)∧Below w.heap.size w w':=by
 have h3:decide (k≤1048576) =true:=by simpa using h2
 go_enter Tryz.func252,Tryz.ntmps252
 go_wp2_with fail;go_ret;exact⟨ret_bool (by simp [h2]),bE⟩
theorem press_wrong (w:World) (g:Nat) (k:Int) (h1:1≤k) (h2:k≤1048576) :Calls Tryz.prog 206 #[.pointer (some ⟨g,0,none⟩),.int .i64 k] w fun e w'=>e=.returned (.int .i64 0)∧Below w.heap.size w w':=by
 go_enter Tryz.func206,Tryz.ntmps206
 go_wp2_with fail;refine(press_may _ k h1 h2).mono ?_;rintro e w1 ⟨rfl,hb1⟩;have B1:Below w.heap.size w w1:=Below.then_ bE hb1;have s1:=B1.size;go_wp2_with fail;go_ret;exact⟨rfl,bE⟩
def heavy (l:Int) (most:Int) (x:Nd) :Bool:=(kidsOf l x.1).2.2 && decide (most<x.2)
def lightOf (l:Int) (r:List Nd) (k:Int) :Bool:= !r.any (heavy l (sumR r / k))
theorem lt_of_cell {W:World} {b o:Nat} {v:Value} (h:W.cell? ⟨b,o,none⟩ =some v) :b<W.heap.size:=by
 rcases Nat.lt_or_ge b W.heap.size with h'|h'
 ·exact h'
 ·simp [World.cell?,Array.getElem?_eq_none h'] at h
theorem press_Light (w:World) (g K l:Nat) (r:List Nd) (F:Nat→Prop) (k:Int) (hP:PoolAt w g K l r F) (h1:1≤k) (h2:k≤1048576) (hr:r.length≤67108864) :
 Calls Tryz.prog 169 #[.pointer (some ⟨g,0,none⟩),.int .i64 k] w fun e w'=>e=.returned (.bool (lightOf l r k))∧Below w.heap.size w w':=by
 have hs0:=sumR_nonneg hP.fits.roll;have hs1:=hP.fits.sum;have HP:=LH hP;clear hP;refine(callsIn_wide (n:=3)).1 ?_;refine callsIn_of_wp_marks Tryz.func169 rfl trivial ?_ rfl;simp only [Tryz.ntmps169,List.size_toArray,List.length_cons,List.length_nil,Nat.reduceAdd,Nat.reduceSub,Array.replicate_succ,Array.replicate_zero,List.push_toArray,List.append_toArray,List.nil_append,List.cons_append]
 gi_wp2_with fail
 refine⟨trivial,?_⟩;refine(callsIn_wide.2 (press_wrong _ g k h1 h2)).mono ?_;rintro e w1 ⟨rfl,hb1⟩;have B1:Below w.heap.size w w1:=Below.then_ bE hb1;have s1:=B1.size;have z1_0:w.heap.size<w1.heap.size:=by have:=hb1.size;(try simp at this);omega
 have y1_0:w.heap.size≤w1.heap.size:=Nat.le_of_lt z1_0;have c1_0:=czB hb1 (w.heap.size);have f1_0:=fzB hb1 (w.heap.size);have z1_1:w.heap.size+1<w1.heap.size:=by have:=hb1.size;(try simp at this);omega
 have y1_1:w.heap.size+1≤w1.heap.size:=Nat.le_of_lt z1_1;have c1_1:=czB hb1 (w.heap.size+1);have f1_1:=fzB hb1 (w.heap.size+1);have P1:=LH (HP.out.below B1)
 gi_wp2_with fail
 refine⟨trivial,?_⟩;refine(callsIn_wide.2 (pool_Total _ g K l r F P1.out)).mono ?_;rintro e w2 ⟨rfl,hb2⟩;have B2:Below w.heap.size w w2:=Below.then_ bE hb2;have s2:=B2.size;have z2_0:w.heap.size<w2.heap.size:=by have:=hb2.size;(try simp at this);omega
 have y2_0:w.heap.size≤w2.heap.size:=Nat.le_of_lt z2_0;have c2_0:=czB hb2 (w.heap.size);have f2_0:=fzB hb2 (w.heap.size);have z2_1:w.heap.size+1<w2.heap.size:=by have:=hb2.size;(try simp at this);omega
 have y2_1:w.heap.size+1≤w2.heap.size:=Nat.le_of_lt z2_1;have c2_1:=czB hb2 (w.heap.size+1);have f2_1:=fzB hb2 (w.heap.size+1);have P2:=LH (HP.out.below B2)
 gi_wp2_with fail
 refine⟨trivial,?_⟩;refine(callsIn_wide.2 (fold_Cap _ (sumR r) k hs0 (by omega) h1 (by omega))).mono ?_;rintro e w3 ⟨rfl,hb3⟩;have B3:Below w.heap.size w w3:=Below.then_ bE hb3;have s3:=B3.size;have z3_0:w.heap.size<w3.heap.size:=by have:=hb3.size;(try simp at this);omega
 have y3_0:w.heap.size≤w3.heap.size:=Nat.le_of_lt z3_0;have c3_0:=czB hb3 (w.heap.size);have f3_0:=fzB hb3 (w.heap.size);have z3_1:w.heap.size+1<w3.heap.size:=by have:=hb3.size;(try simp at this);omega
 have y3_1:w.heap.size+1≤w3.heap.size:=Nat.le_of_lt z3_1;have c3_1:=czB hb3 (w.heap.size+1);have f3_1:=fzB hb3 (w.heap.size+1);have P3:=LH (HP.out.below B3)
 gi_wp2_with fail
 refine⟨trivial,?_⟩;refine(callsIn_wide.2 (pool_Each _ g)).mono ?_;rintro e w4 ⟨rfl,rfl⟩
 gi_wp2_with fail
 have hB0:Below w.heap.size w ((w3.alloc (.cells #[.int .i64 (sumR r / k)] 3)).alloc (.cells #[.pointer (some ⟨g,0,none⟩)] 114)):=bE;have kb:=heap_new_at (w3.alloc (.cells #[.int .i64 (sumR r / k)] 3)) (.cells #[.pointer (some ⟨g,0,none⟩)] 114) (w3.heap.size+1) (by simp);have x0: ((w3.alloc (.cells #[.int .i64 (sumR r / k)] 3)).alloc (.cells #[.pointer (some ⟨g,0,none⟩)] 114)).cell? ⟨w.heap.size,0,none⟩ =some (.pointer (some ⟨g,0,none⟩)):=by go_simp
 have x1: ((w3.alloc (.cells #[.int .i64 (sumR r / k)] 3)).alloc (.cells #[.pointer (some ⟨g,0,none⟩)] 114)).cell? ⟨w.heap.size+1,0,none⟩ =some (.bool false):=by go_simp
 have x2: ((w3.alloc (.cells #[.int .i64 (sumR r / k)] 3)).alloc (.cells #[.pointer (some ⟨g,0,none⟩)] 114)).cell? ⟨w3.heap.size,0,none⟩ =some (.int .i64 (sumR r / k)):=by go_simp
 have x3: ((w3.alloc (.cells #[.int .i64 (sumR r / k)] 3)).alloc (.cells #[.pointer (some ⟨g,0,none⟩)] 114)).frozen? ⟨w.heap.size+1,0,none⟩ =false:=by go_simp
 have zz:w.heap.size+1<w3.heap.size:=z3_1;generalize (w3.alloc (.cells #[.int .i64 (sumR r / k)] 3)).alloc (.cells #[.pointer (some ⟨g,0,none⟩)] 114) =W0 at hB0 kb x0 x1 x2 x3⊢;clear P1 P2 P3 hb1 hb2 hb3 B1 B2 B3 s1 s2 s3 z1_0 y1_0 c1_0 f1_0 z1_1 y1_1 c1_1 f1_1 z2_0 y2_0 c2_0 f2_0 z2_1 y2_1 c2_1 f2_1 z3_0 y3_0 c3_0 f3_0 z3_1 y3_1 c3_1 f3_1;have zs:=hB0.size
 refine wpIn_rangeFunc_ownG rfl (by decide) (gf:=269) (lb:= #[.pointer (some ⟨w3.heap.size+1,0,none⟩)]) rfl trivial (enters_of Tryz.func269 (by kernel_rfl) rfl)
  (each_stops (3 - 1) (w3.heap.size+1) g K l r F W0 (by decide) kb (HP.out.below hB0) hr) keepN_t (fun W q o o' _ h hc _=>keepN_b W q o o' h hc) (Below.refl _ _) (fun _=>rfl)
  (fun pre W=>((pre.any (heavy l (sumR r / k)) =false)∧W.cell? ⟨w.heap.size,0,none⟩ =some (.pointer (some ⟨g,0,none⟩))∧W.cell? ⟨w.heap.size+1,0,none⟩ =some (.bool false)∧W.cell? ⟨w3.heap.size,0,none⟩ =some (.int .i64 (sumR r / k))∧W.frozen? ⟨w.heap.size+1,0,none⟩ =false)∧Below w.heap.size w W)
  (fun c pre W=>(c=.ret∧pre.any (heavy l (sumR r / k)) =true∧W.cell? ⟨w.heap.size+1,0,none⟩ =some (.bool false))∧Below w.heap.size w W)
  (OwnFrom.and (Own.from (fun s A B row hs hg hr=>⟨hs.1,cell_kept hs.2.1 hg hr,cell_kept hs.2.2.1 hg hr,cell_kept hs.2.2.2.1 hg hr,(frozen_kept hs.2.2.1 hg hr).trans hs.2.2.2.2⟩) _) (ownFrom_below (Nat.le_refl _) zs))
  (fun c=>OwnFrom.and (Own.from (fun s A B row hs hg hr=>⟨hs.1,hs.2.1,cell_kept hs.2.2 hg hr⟩) _) (ownFrom_below (Nat.le_refl _) zs))
  ⟨⟨rfl,x0,x1,x2,x3⟩,hB0⟩
  (fun x=>{tmps:= #[.pointer (some ⟨g,0,none⟩),.int .i64 k,.pointer (some ⟨w.heap.size,0,none⟩),undef,.pointer (some ⟨w.heap.size+1,0,none⟩),.pointer (some ⟨w3.heap.size,0,none⟩),.int .i64 x.1,.int .i64 x.2,undef,undef,undef,
    .pointer (some ⟨g,0,none⟩),.int .i64 k,.int .i64 0,.bool false,.pointer (some ⟨g,0,none⟩),.int .i64 (sumR r),.int .i64 k,.int .i64 (sumR r / k),.pointer (some ⟨g,0,none⟩),.func (.func 269) #[] #[.pointer (some ⟨w3.heap.size+1,0,none⟩)],.int .i64 x.1,.int .i64 x.2,
    undef,undef,undef,undef,undef,undef,undef,undef,undef,undef,undef,undef,undef,undef],defers:= []}) ?assign ?body ?done ?stop
 case assign=>
  intro q x W K hK
  gi_wp2
  exact hK
 case body=>
  rintro q pre x W ⟨⟨hp,c0,c1,c2,f1⟩,hB⟩ _;have HPW:=LH (HP.out.below hB);have hk:=LH (twig_Kids · l x.1);have he:Hid (heavy l (sumR r / k) x= ((kidsOf l x.1).2.2 && decide (sumR r / k<x.2))):=LH rfl;have HPre:=LH hp;have zW:=hB.size;have zc0:=lt_of_cell c0;have zc1:=lt_of_cell c1;have HB:=LH hB;clear hp hB;generalize kidsOf l x.1=t at hk he;obtain⟨t1,t2,t3⟩:=t
  gi_wp2_with fail
  refine⟨trivial,?_⟩;refine(CallsIn.inRound q (callsIn_wide.2 (pool_L _ g K l r F HPW.out))).mono ?_;rintro e w5 ⟨rfl,hb5⟩
  gi_wp2_with fail
  refine⟨trivial,?_⟩;refine(CallsIn.inRound q (callsIn_wide.2 (hk.out _))).mono ?_;rintro e w6 ⟨rfl,hb6⟩;have hb:=hb5.trans (hb6.mono hb5.size);have hbw:=HB.out.trans (hb.mono zW);have d1:=(hb.cell (p:=⟨w.heap.size+1,0,none⟩) (by simp only;omega)).trans c1;have d0:=(hb.cell (p:=⟨w.heap.size,0,none⟩) (by simp only;omega)).trans c0;have z3:=lt_of_cell c2;have d2:=(hb.cell (p:=⟨w3.heap.size,0,none⟩) z3).trans c2;have g1:=(hb.frozen (p:=⟨w.heap.size+1,0,none⟩) (by simp only;omega)).trans f1;have KW:Hid (KeepsFrom W0.heap.size W w6):=LH ((KeepsOthers.of_grownBy (grownBy_of_below hb none) (fun _ _ h=>by cases h)).from _);have KN:=LH (KeepN.of_below hb);have HBW:=LH hbw;clear hb5 hb6 hb hbw c0 c1 c2 f1;unfold endsV
  cases t3
  ·gi_wp2_with fail
   exact⟨KW.out,KN.out,⟨by rw [List.any_append,HPre.out];simp [he.out],d0,d1,d2,g1⟩,HBW.out⟩
  ·by_cases hx:sumR r / k<x.2
   ·gi_wp2_with fail
    exact⟨KW.out.trans ((KeepsOthers.setCell _ _ _).from _),⟨rfl,by rw [List.any_append];simp [he.out,hx],World.cell?_setCell_same' _ _ _ (by rw [d1];rfl)⟩,HBW.out.setCell (p:=⟨w.heap.size+1,0,none⟩) (by simp only;omega) _⟩
   ·gi_wp2_with fail
    exact⟨KW.out,KN.out,⟨by rw [List.any_append,HPre.out];simp [he.out,hx],d0,d1,d2,g1⟩,HBW.out⟩
 case done=>
  rintro D ys W hD hys ⟨⟨hp,c0,c1,c2,f1⟩,hB⟩ hK;have hys':ys=r:=hys;rw [hys'] at hp;clear hys hys';have zc1:=lt_of_cell c1;have hl:lightOf l r k=true:=by unfold lightOf;rw [hp];rfl
  have zW:=hB.size
  gi_wp2
  have hK':=(KeepsOthers.setCell W ⟨w.heap.size+1,0,none⟩ (.bool true)).same D _ hK rfl;refine⟨by simp,.inl ⟨_,_,rfl,run_takeDeferred hK',?_⟩⟩;have hc5:=cell_kept (World.cell?_setCell_same' W ⟨w.heap.size+1,0,none⟩ (.bool true) (by rw [c1];rfl)) (grownBy_putObj' _ D (.deferred none)) (fun r e=>by cases e;exact⟨_,hK',rfl⟩);refine⟨.bool true,?_,by rw [hl],(hB.setCell (p:=⟨w.heap.size+1,0,none⟩) (by simp only;omega) _).trans (belowK_b (w:=w) (Nat.le_refl _) _ D _ _ (by omega) hK' rfl rfl)⟩;simp [results,Tryz.f169,go_sem,hc5]
 case stop=>
  rintro D c pre W hD hpre ⟨⟨rfl,hp,c1⟩,hB⟩ hK
  have hl:lightOf l r k=false:=by
   unfold lightOf;obtain⟨x,hx,hh⟩:=List.any_eq_true.1 hp;rw [List.any_eq_true.2 ⟨x,hpre.subset hx,hh⟩];rfl
  gi_wp2
  refine⟨by simp,.inl ⟨_,_,rfl,run_takeDeferred hK,?_⟩⟩;have hc5:=cell_kept c1 (grownBy_putObj' _ D (.deferred none)) (fun r e=>by cases e;exact⟨_,hK,rfl⟩);refine⟨.bool false,?_,by rw [hl],hB.trans (belowK_b (w:=w) (Nat.le_refl _) W D _ _ (by omega) hK rfl rfl)⟩;simp [results,Tryz.f169,go_sem,hc5]
end
section
open Go.RowKit
def headPost (P:Program) (ops:Array Oper) (Q:Exit→Act→World→Prop) (l:List Oper) :Exit→Act→World→Prop
 | .normal,a,w=>wpList P ops Q l a w
 | .panic c,a,w=>Q (.panic c) a w
 | .exit i,a,w=>Q (.exit i) a w
 | .goto i,a,w=>Q (.goto i) a w
 | .ret,a,w=>Q .ret a w
 | .outgrown,a,w=>Q .outgrown a w
def tailB (l:List Oper) (n:Nat) :Bool:=
 decide (n<l.length) &&
 ((List.range n).all fun i=>match l[i]? with
   |some o=>o.after.all (fun e=> !Region.binds .any e || decide (e.on<i)) && (match o.guard with|some (j,_)=>decide (j<n) |none=>true)
   |none=>false) &&
 ((List.range n).all fun i=>Region.waitsFor .any l.toArray n i || (List.range n).any fun j=>decide (i<j) && Region.waitsFor .any l.toArray j i) &&
 ((List.range l.length).all fun t=>decide (t≤n) || Region.waitsFor .any l.toArray t (t - 1)) &&
 Region.seqB .any l.toArray (l.length - n) n (Array.replicate n true ++ Array.replicate (l.length - n) false) &&
 Region.lexB .any (l.take n).toArray
section
variable {P:Program} {Q:Exit→Act→World→Prop} {l:List Oper} {n:Nat}
theorem upon_head {o:Oper} {a:Act} {K:Act→World→Prop} {r:Result Next} {ops:Array Oper} {lt:List Oper} (h:o.upon P a K (headPost P ops Q lt) r) :o.upon P a K Q r:=by
 cases r with
 |ok x w=>
  cases x with
  |enter f args=>
   refine Calls.mono h fun e w' he=> ?_
   cases e with
   |returned v=>exact he
   |panicked c=>exact he
   |outgrown=>obtain⟨a',w'',h'⟩:=he;exact⟨a',w'',h'⟩
  |_=>exact h
 |halt x w=>cases x <;> exact h
theorem any_more {ops:Array Oper} : ∀(g m:Nat) (listed:Array Bool) (a:Act) (w:World),wpAny P .any ops Q g listed a w→wpAny P .any ops Q (g+m) listed a w
 |0,0,_,_,_,h=>h
 |0,m+1,listed,a,w,h=>by
  rw [Nat.zero_add];exact⟨fun _=>h.2,fun i hi=>by rw [h.1] at hi;cases hi⟩
 |g+1,m,listed,a,w,h=>by
  rw [show g+1+m= (g+m) +1 by omega];exact⟨h.1,fun i hi=>wpOp_mono (fun a' w' h'=>any_more g m _ a' w' h') (h.2 i hi)⟩
structure HeadRel (l:List Oper) (n:Nat) (lh listed:Array Bool) :Prop where
 sh:lh.size=n
 sl:listed.size=l.length
 nl:n≤l.length
 same: ∀i,i<n→∀d,listed.getD i d=lh.getD i d
 tail: ∀t,n≤t→t<l.length→listed.getD t true=false
 down: ∀j o,j<n→l[j]? =some o→lh.getD j false=true→∀e∈o.after,Region.binds .any e=true→lh.getD e.on false=true
theorem HeadRel.set {lh listed:Array Bool} (h:HeadRel l n lh listed) {i:Nat} (hi:i<n) (hd: ∀o,l[i]? =some o→∀e∈o.after,Region.binds .any e=true→lh.getD e.on false=true) :HeadRel l n (lh.setIfInBounds i true) (listed.setIfInBounds i true):=by
 refine⟨by simp [h.sh],by simp [h.sl],h.nl,fun j hj d=> ?_,fun t ht ht'=>by rw [getD_set_ne true (by omega)];exact h.tail t ht ht',fun j o hj ho hlj e he hb=> ?_⟩
 case refine_2=>
  have up: ∀q,lh.getD q false=true→(lh.setIfInBounds i true).getD q false=true:=fun q hq=>by
   by_cases hiq:i=q
   ·subst hiq
    have:i<lh.size:=by rw [h.sh];exact hi
    simp [this]
   ·rw [getD_set_ne false hiq];exact hq
  by_cases hij:i=j
  ·subst hij
   exact up _ (hd o ho e he hb)
  ·rw [getD_set_ne false hij] at hlj
   exact up _ (h.down j o hj ho hlj e he hb)
 by_cases hij:i=j
 ·subst hij
  have h1:i<lh.size:=by rw [h.sh];exact hi
  have h2:i<listed.size:=by rw [h.sl];have:=h.nl;omega
  simp [h1,h2]
 ·rw [getD_set_ne d hij,getD_set_ne d hij]
  exact h.same j hj d
theorem wanted_head {o:Oper} {a:Act} (hg: (match o.guard with|some (j,_)=>decide (j<n) |none=>true) =true) :
 Region.wanted o (yielded (l.take n).toArray a.tmps) =Region.wanted o (yielded l.toArray a.tmps):=by
 unfold Region.wanted
 split
 ·rfl
 ·rename_i j b hj
  rw [hj] at hg;have hlt:j<n:=by simpa using hg
  simp [yielded,hlt]
theorem lift_head (hB:tailB l n=true) : ∀(f:Nat) (lh listed:Array Bool) (a:Act) (w:World),HeadRel l n lh listed→
 wpAny P .any (l.take n).toArray (headPost P l.toArray Q (l.drop n)) f lh a w→wpAny P .any l.toArray Q (f+ (l.length - n)) listed a w:=by
 simp only [tailB,Bool.and_eq_true,decide_eq_true_eq] at hB;obtain⟨⟨⟨⟨⟨hn,hhead⟩,hsink⟩,hchain⟩,hseq⟩,_⟩:=hB
 have hop: ∀i,i<n→∃o,l[i]? =some o∧(∀e∈o.after,Region.binds .any e=true→e.on<i)∧(match o.guard with|some (j,_)=>decide (j<n) |none=>true) =true:=by
  intro i hi;have h1:=List.all_eq_true.1 hhead i (List.mem_range.2 hi)
  split at h1
  ·rename_i o ho
   simp only [Bool.and_eq_true] at h1;refine⟨o,ho,fun e he hb=> ?_,h1.2⟩;have h2:=Array.all_eq_true'.1 h1.1 e he;simp only [hb,Bool.not_true,Bool.false_or,decide_eq_true_eq] at h2;exact h2
  ·cases h1
 have hpre: ∀i,i<n→(l.take n).toArray[i]? =l.toArray[i]? :=by
  intro i hi;simp [hi]
 have done: ∀(f:Nat) (lh listed:Array Bool) (a:Act) (w:World),HeadRel l n lh listed→(∀i,i<n→lh.getD i true=true)→headPost P l.toArray Q (l.drop n) .normal a w→
  wpAny P .any l.toArray Q (f+ (l.length - n)) listed a w:=by
  intro f lh listed a w hr hall h
  have he:listed=Array.replicate n true ++ Array.replicate (l.length - n) false:=by
   apply Array.ext
   ·simp [hr.sl];omega
   ·intro i h1 h2
    by_cases hi:i<n
    ·have e1:=hr.same i hi true
     rw [hall i hi] at e1;simp [h1] at e1
     simp [hi,e1]
    ·have e1:=hr.tail i (by omega) (by rw [←hr.sl];exact h1)
     simp [h1] at e1
     rw [Array.getElem_append_right (by simp;omega)];simp [e1]
  subst he;rw [Nat.add_comm];refine any_more _ f _ a w ?_;have:=wpAny_of_seq (md:=.any) (P:=P) (Q':=Q) (ops:=l.toArray) (l.drop n) n _ a w (fun j=>by simp [List.getElem?_drop]) (by simpa using hseq) h
  simpa using this
 have least: ∀(lh:Array Bool),lh.size=n→(¬∀i,i<n→lh.getD i true=true)→Region.ready .any (l.take n).toArray lh≠ []:=by
  intro lh hsz hnot hnil
  have hex: ∃i,i<n∧lh.getD i true=false:=by
   refine Classical.byContradiction fun hc=>hnot fun i hi=> ?_
   cases hv:lh.getD i true with
   |true=>rfl
   |false=>exact absurd ⟨i,hi,hv⟩ hc
  have key: ∀m i,i≤m→i<n→lh.getD i true=false→False:=by
   intro m
   induction m using Nat.strongRecOn with
   |_ m ih=>
    intro i him hi hv;obtain⟨o,ho,he,_⟩:=hop i hi
    have hin:i∈Region.ready .any (l.take n).toArray lh:=by
     refine mem_ready.2 ⟨hv,o,by rw [hpre i hi];simpa using ho,fun e hem hb=> ?_⟩;have hlt:=he e hem hb
     cases hv2:lh.getD e.on false with
     |true=>rfl
     |false=>
      exfalso
      have:lh.getD e.on true=false:=by
       have:e.on<lh.size:=by omega
       simp [this] at hv2⊢
       exact hv2
      exact ih e.on (by omega) e.on (Nat.le_refl _) (by omega) this
    rw [hnil] at hin
    cases hin
  obtain⟨i,hi,hv⟩:=hex;exact key i i (Nat.le_refl _) hi hv
 have inHead: ∀(lh listed:Array Bool),HeadRel l n lh listed→(¬∀i,i<n→lh.getD i true=true)→∀i∈Region.ready .any l.toArray listed,i<n:=by
  intro lh listed hr hnot i hi;obtain⟨hu,o,ho,hall⟩:=mem_ready.1 hi;rcases Nat.lt_or_ge i n with hlt|hge
  ·exact hlt
  ·exfalso
   have hil:i<l.length:=by
    have:=(Array.getElem?_eq_some_iff.1 ho).1
    simpa using this
   by_cases hin:i=n
   ·subst hin
    have done_: ∀m j,j<i→i - j≤m→lh.getD j false=true:=by
     intro m
     induction m with
     |zero=>intro j hj hm;omega
     |succ m ih=>
      intro j hj hm;have hs:=List.all_eq_true.1 hsink j (List.mem_range.2 hj);simp only [Bool.or_eq_true] at hs;rcases hs with hs|hs
      ·obtain⟨o',ho',e,he,hb,hon⟩:=Region.waitsFor_spec hs
       have:o'=o:=Option.some.inj (ho'.symm.trans ho);subst this;have h1:=hall e he hb;rw [hon,hr.same j hj false] at h1;exact h1
      ·obtain⟨j',hj',hw⟩:=List.any_eq_true.1 hs
       simp only [Bool.and_eq_true,decide_eq_true_eq] at hw;have hlt:=List.mem_range.1 hj';obtain⟨o',ho',e,he,hb,hon⟩:=Region.waitsFor_spec hw.2;have h1:=hr.down j' o' hlt (by simpa using ho') (ih j' hlt (by omega)) e he hb;rw [hon] at h1;exact h1
    refine hnot fun j hj=> ?_;have h1:=done_ i j hj (by omega);have:j<lh.size:=by rw [hr.sh];exact hj
    simp [this] at h1⊢
    exact h1
   ·have h1:=List.all_eq_true.1 hchain i (List.mem_range.2 hil)
    simp only [Bool.or_eq_true,decide_eq_true_eq] at h1;rcases h1 with h1|h1
    ·omega
    ·obtain⟨o',ho',e,he,hb,hon⟩:=Region.waitsFor_spec h1
     have:o'=o:=Option.some.inj (ho'.symm.trans ho);subst this;have h2:=hall e he hb;have h3:=hr.tail (i - 1) (by omega) (by omega);rw [hon] at h2;have:i - 1<listed.size:=by rw [hr.sl];omega
     simp [this] at h2 h3
     rw [h2] at h3
     cases h3
 intro f
 induction f with
 |zero=>
  intro lh listed a w hr h;by_cases hall: ∀i,i<n→lh.getD i true=true
  ·exact done 0 lh listed a w hr hall h.2
  ·exact absurd h.1 (least lh hr.sh hall)
 |succ f ih=>
  intro lh listed a w hr h;by_cases hall: ∀i,i<n→lh.getD i true=true
  ·refine done (f+1) lh listed a w hr hall (h.1 ?_)
   cases hc:Region.ready .any (l.take n).toArray lh with
   |nil=>rfl
   |cons i r=>
    exfalso
    have hi:i∈Region.ready .any (l.take n).toArray lh:=by rw [hc];simp
    obtain⟨hu,o,ho,_⟩:=mem_ready.1 hi
    have hin:i<n:=by
     have:=(Array.getElem?_eq_some_iff.1 ho).1;simp at this
     omega
    rw [hall i hin] at hu
    cases hu
  ·rw [show f+1+ (l.length - n) = (f+ (l.length - n)) +1 by omega]
   refine⟨fun h0=> ?_,fun i hi=> ?_⟩
   ·exfalso
    refine least lh hr.sh hall ?_
    cases hc:Region.ready .any (l.take n).toArray lh with
    |nil=>rfl
    |cons i r=>
     exfalso
     have hi:i∈Region.ready .any (l.take n).toArray lh:=by rw [hc];simp
     obtain⟨hu,o,ho,hedge⟩:=mem_ready.1 hi
     have hin:i<n:=by
      have:=(Array.getElem?_eq_some_iff.1 ho).1;simp at this
      omega
     obtain⟨o',ho',he',_⟩:=hop i hin
     have:i∈Region.ready .any l.toArray listed:=by
      rw [hpre i hin] at ho;have hoo:o=o':=Option.some.inj (ho.symm.trans (by simpa using ho'));subst hoo;exact mem_ready.2 ⟨by rw [hr.same i hin];exact hu,o,ho,fun e hem hb=>by rw [hr.same e.on (by have:=he' e hem hb;omega)];exact hedge e hem hb⟩
     rw [h0] at this
     cases this
   ·have hin:=inHead lh listed hr hall i hi
    obtain⟨hu,o,ho,hedge⟩:=mem_ready.1 hi;obtain⟨o',ho',he',hg'⟩:=hop i hin;have hoo:o=o':=Option.some.inj (ho.symm.trans (by simpa using ho'));subst hoo
    have hi':i∈Region.ready .any (l.take n).toArray lh:=
     mem_ready.2 ⟨by rw [←hr.same i hin];exact hu,o,by rw [hpre i hin];exact ho,fun e hem hb=>by rw [←hr.same e.on (by have:=he' e hem hb;omega)];exact hedge e hem hb⟩
    have hdn: ∀o,l[i]? =some o→∀e∈o.after,Region.binds .any e=true→lh.getD e.on false=true:=fun o2 ho2 e hem hb=>by
     have:o2=o:=Option.some.inj (ho2.symm.trans (by simpa using ho));subst this;rw [←hr.same e.on (by have:=he' e hem hb;omega)];exact hedge e hem hb
    have h1:=h.2 i hi';unfold wpOp at h1⊢;rw [hpre i hin] at h1;rw [ho] at h1⊢;simp only [wanted_head hg'] at h1;simp only
    split at h1
    ·rename_i hw
     rw [if_pos hw];rcases h1 with h1| ⟨h1,h2⟩
     ·left
      exact upon_head (Oper.wp_mono (fun a' w' h'=>ih _ _ a' w' (hr.set hin hdn) h') h1)
     ·right
      obtain⟨a',w',h'⟩:=h2;exact⟨h1,a',w',h'⟩
    ·rename_i hw
     rw [if_neg hw];exact ih _ _ _ _ (hr.set hin hdn) h1
theorem wp_region_tail {id:Nat} {a:Act} {w:World} {l:List Oper} (n:Nat) (hm:P.follows .mixedOrders=true) (hB:tailB l n=true)
 (h:wpQuiet P (l.take n).toArray (fun w'=>∃x,w'=ext w x) (fun a'=>∀w',(∃x,w'=ext w x)→wpList P l.toArray Q (l.drop n) a' w') (l.take n) a) : (Code.region id l.toArray true).wp P Q a w:=by
 have hB0:=hB;simp only [tailB,Bool.and_eq_true,decide_eq_true_eq] at hB;obtain⟨⟨⟨⟨⟨hn,_⟩,_⟩,_⟩,_⟩,hlex⟩:=hB;simp only [Region.lexB,Bool.and_eq_true] at hlex;refine wp_region_any hm ?_;have hlen: (l.take n).length=n:=by simp;omega
 have h1:=wpAnyQ_lex (C:=fun w'=>∃x,w'=ext w x) (md:=.any) hlex.1 (l.take n) 0 (Array.replicate (l.take n).toArray.size false) a (by simp) (by simpa using hlex.2) h;rw [List.size_toArray,hlen] at h1;have h2:=wpAny_of_quiet (Q':=headPost P l.toArray Q (l.drop n)) (fun a' w' hw' hq=>hq w' hw') n _ a {w with drawn:=w.drawn+1} ⟨⟨#[],w.drawn+1⟩,by simp [ext]⟩ h1;have h3:=lift_head hB0 n (Array.replicate n false) (Array.replicate l.length false) a _ ⟨by simp,by simp,Nat.le_of_lt hn,fun i hi d=>by simp [hi,Nat.lt_trans hi hn],fun t _ ht=>by simp [ht],fun j o hj _ hl=>by simp [hj] at hl⟩ h2;rw [show n+ (l.length - n) =l.toArray.size by simp;omega] at h3
 simpa using h3
end
end
end Go.Proofs.YtlgnakobjkhmhaaGreatDoor
